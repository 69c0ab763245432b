/- A job ends once, and stays as it ended; a job that may be stays one: at every need and every row of steps; the names of the places read as the row tells. -/
import Derived.Test.YtpicmpfcmgocmaaDoorJD7
import Derived.Test.YtpicmpfcmgocmaaDoorJD9

namespace Go.Proofs.YtpicmpfcmgocmaaDoor
open Go.RowKit
open Go.RowKit Go.ChangeShapes Go.WideShapes Go.ChangeAt
open Go.Proofs.YtpicmpfcmgocmaaDoor
theorem jobOnce_walk (n0 n1 n2 : Int) (A : Option Addr) (n c : Nat) (hn : n ≤ c) (W : World) (hl0 : ∃ t, W.heap[0]? = some (.cells ⟨namesL⟩ t (0, 0))) (hs : SliceAt W A c 2 [.i .i64, .i .i64]) :
    Calls Tryd.prog 4 #[r3 n0 n1 n2, .slice A n c] W fun e W' => e = .returned (.bool true) ∧ Gr W W' := by
  obtain ⟨t, h0⟩ := hl0
  obtain ⟨l, rfl, _, hl⟩ := SlR_of encP (fun cs => (intOf cs 0, intOf cs 1)) (fun _ => True) (by decide) (fun cs h0 => by obtain ⟨_, m1, rfl, ⟨x0, rfl, _⟩, h1⟩ := All2.cons_inv h0; obtain ⟨_, m2, rfl, ⟨x1, rfl, _⟩, h2⟩ := All2.cons_inv h1; obtain rfl := All2.nil_inv h2; exact ⟨rfl, trivial⟩) hn hs
  exact jobOnce_g n0 n1 n2 l h0 (.cons ⟨rfl, rfl⟩ (.cons hl .nil))
noncomputable def laidWorld_jobOnce (os : Os) : World :=
  { World.holding Tryd.prog os ⟨#[], #[], []⟩ with heap := (World.holding Tryd.prog os ⟨#[], #[], []⟩).heap.modify 0 fun
      | .cells _ t frozen => .cells #[.string sP, .string sR, .string sD, .string sC] t frozen
      | o => o }
theorem laid_met_jobOnce (os : Os) : laidMet Tryd.prog Rows.jobOnceRow.laid ((laidWorld_jobOnce os).forCall (fun _ _ => 0) ⟨#[], #[Value.agg #[.int .i64 0, .int .i64 0, .int .i64 0], Value.slice none 0 0], []⟩).memory :=
  laidMet_of_run' 8 (by kernel_rfl) (by kernel_rfl)
theorem reads_jobOnce (os : Os) {H : Type} (enc : TypeId × Value → H) : ∃ places, DataW.whole enc Tryd.prog ((laidWorld_jobOnce os).forCall (fun _ _ => 0) ⟨#[], #[Value.agg #[.int .i64 0, .int .i64 0, .int .i64 0], Value.slice none 0 0], []⟩).memory Tryd.f4.params.toList Rows.jobOnceSpec.vars false #[Value.agg #[.int .i64 0, .int .i64 0, .int .i64 0], Value.slice none 0 0].toList 8 = some ([.agg [.lit (.int .i64 0), .lit (.int .i64 0), .lit (.int .i64 0)], .nil], [], places) :=
  ⟨[], by kernel_rfl⟩
set_option maxRecDepth 100000 in
theorem jobOnce_lifted (os : Os) (started : os.Started) (H : Type) (enc : TypeId × Value → H) (FF : Stop.Interp) :
    ReturnsInHanded {} Tryd.checked os 4 .any ((OpenSpec.ofChange Rows.jobOnceSpec).preRow enc Tryd.prog Tryd.f4 Rows.jobOnceRow.domain false Rows.jobOnceRow.laid) (((OpenSpec.ofChange Rows.jobOnceSpec).at FF).post enc Tryd.prog Tryd.f4 false true false false) := by
  obtain ⟨places, hx⟩ := reads_jobOnce os enc
  refine returnsInHanded_of_row (C := Tryd.checked) (s := OpenSpec.ofChange Rows.jobOnceSpec) own started (by kernel_rfl) Tryd.func4
    (witness_row_at (enc := enc) (C := Tryd.checked) false (laidWorld_jobOnce os) #[Value.agg #[.int .i64 0, .int .i64 0, .int .i64 0], Value.slice none 0 0] rfl (by kernel_rfl) (by kernel_rfl) (by kernel_rfl)
      (OpenSpec.preRow_of_cond 8 hx (by kernel_rfl) (fun k hk => by cases hk) (by kernel_rfl) (laid_met_jobOnce os))) ?_
  intro W base args ds gs before hval0 hW _ _ _ hL _ _
  have hval : ∀ (j : Nat) t v, Tryd.f4.params[j]? = some t → args[j]? = some v → Value.okWide Tryd.prog W .any base t v := hval0
  have hW0 := hW
  obtain ⟨p, q, hA0, hV, _, _, _⟩ := hW
  have hA : DataW.TrodAll enc Tryd.prog W 0 (fun _ => true) true Tryd.f4.params.toList args.toList ds p := hA0
  rw [Tryd.params4] at hA hval
  obtain ⟨v0, vs0, d0, ds0, p0, q0, hargs, rfl, _, h0, r0⟩ := trodAll_cons hA
  obtain ⟨v1, vs1, d1, ds1, p1, q1, rfl, rfl, _, h1, r1⟩ := trodAll_cons r0
  obtain ⟨rfl, rfl, _⟩ := trodAll_nil r1
  obtain rfl : args = #[v0, v1] := by cases args; simp_all
  obtain ⟨rfl, _⟩ := trodVars_none hV
  obtain ⟨cs0, rfl, ha0⟩ := read_agg (m := 8) (ks := [.i .i64, .i .i64, .i .i64]) (by kernel_rfl) (by kernel_rfl) (hval 0 23 v0 rfl rfl) h0
  obtain ⟨_, m0_0, rfl, ⟨x0_0, rfl, w0_0⟩, t0_0⟩ := All2.cons_inv ha0
  obtain ⟨_, m0_1, rfl, ⟨x0_1, rfl, w0_1⟩, t0_1⟩ := All2.cons_inv t0_0
  obtain ⟨_, m0_2, rfl, ⟨x0_2, rfl, w0_2⟩, t0_2⟩ := All2.cons_inv t0_1
  obtain rfl := All2.nil_inv t0_2
  obtain ⟨A1, n1, c1, rfl, hn1, hc1, hs1⟩ := read_sliceC (m := 8) (ks := [.i .i64, .i .i64]) Tryd.underlying38 (by kernel_rfl) (by decide) (by kernel_rfl) (hval 1 38 v1 rfl rfl) h1
  refine (jobOnce_walk x0_0 x0_1 x0_2 A1 n1 c1 hn1 W (names_laid hL) hs1).mono fun e W' ⟨he, hg⟩ => ?_
  exact ⟨_, he, post_true laidOut (tb := 4) (by kernel_rfl) Tryd.underlying4 (by decide +kernel) rfl rfl rfl rfl hW0 hg⟩

theorem jobOnce_holds : Rows.JobOnceSaid :=
  OpenClaim.holds_of_cond 4 Tryd.f4 rfl rfl rfl rfl rfl rfl rfl ⟨rfl, rfl, rfl, rfl, rfl⟩ rfl rfl rfl rfl rfl (by kernel_rfl) Tryd.func4 (by kernel_rfl)
    (of_decide_eq_true (by kernel_rfl)) (by unfold Func.isWrapper; first | (rw [if_pos (by decide +kernel)]; kernel_rfl) | (rw [if_neg (by decide +kernel)]; exact ⟨rfl, rfl⟩))
    (fun os started H enc _ FF => by rw [OpenClaim.pre_eq_preRow]; exact jobOnce_lifted os started H enc FF)
theorem jobOnce_plain (f : FuncId) (fn : Func) (hf : Tryd.pinned.checked.prog.funcNamed "reeve/reevelaw22.JobOnce" = some f) (hfn : Tryd.pinned.checked.prog.funcs[f]? = some fn) :
    false = Tryd.pinned.checked.prog.looks [] ∧ ∀ (j : Nat) t, fn.params[j]? = some t → Tryd.pinned.checked.prog.wantsStandIn t = false := by
  obtain rfl : f = 4 := Option.some.inj ((show Tryd.prog.funcNamed "reeve/reevelaw22.JobOnce" = some 4 by kernel_rfl).symm.trans hf) |>.symm
  obtain rfl : fn = Tryd.f4 := (Option.some.inj (Tryd.func4.symm.trans hfn)).symm
  refine ⟨by kernel_rfl, fun j t ht => ?_⟩
  rw [Tryd.params4] at ht
  have hm : t = 23 ∨ t = 38 := by simpa using Array.mem_of_getElem? ht
  rcases hm with rfl | rfl
  · exact (show Tryd.prog.wantsStandIn 23 = false by kernel_rfl)
  · exact (show Tryd.prog.wantsStandIn 38 = false by kernel_rfl)
theorem jobOnce_card : Rows.JobOnceCardSaid :=
  Claim7.holds_tied_plain_at .later [] _ _ _ _ jobOnce_holds (fun _ h => by cases h) (by kernel_rfl) (fun _ h => by cases h) jobOnce_row_tie rfl ⟨rfl, rfl⟩ (by kernel_rfl) rfl jobOnce_plain (by kernel_rfl)
#print axioms jobOnce_card

end Go.Proofs.YtpicmpfcmgocmaaDoor

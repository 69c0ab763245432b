/- Which jobs may be, what is submitted, and what any step with any job comes to: the program's answer is the reference's, at every job, every step and every place; the names of the places read as the row tells. -/
import Derived.Test.YtpicmpfcmgocmaaDoorJD6
import Derived.Test.YtpicmpfcmgocmaaDoorRows
import Derived.Test.YtpicmpfcmgocmaaDoorChecked
import Derived.Test.YtpicmpfcmgocmaaDoorCards
import Derived.Test.YtpicmpfcmgocmaaDoorTie
import Derived.Deep.DeepHandedRow
import Derived.Lib.LaidTab

namespace Go.Proofs.YtpicmpfcmgocmaaDoor
open Go.RowKit
open Go.RowKit Go.ChangeShapes Go.WideShapes Go.ChangeAt
open Go.Proofs.YtpicmpfcmgocmaaDoor
theorem own : ownKnob Tryd.prog.godebug = none := by kernel_rfl
theorem laidOut : laidOutB Tryd.prog = true := by kernel_rfl
theorem PureV.calls {P : Program} {L : List Value} {t : TypeId} {fz : Nat × Nat} {k : Nat} {args : List Value} {V : Value} (s : PureV P (.cells ⟨L⟩ t fz) k args (· = V)) (hL : cleanL L = true) (hc : cleanA2 args = true) (w : World)
    (h0 : w.heap[0]? = some (.cells ⟨L⟩ t fz)) : Calls P k ⟨args⟩ w fun e w' => e = .returned V ∧ Go.RowKit.Below w.heap.size w w' := by
  have hsz : 0 < w.heap.size := (Array.getElem?_eq_some_iff.1 h0).1
  let f0 : NM := ⟨fun g => if g < 1 then some g else none, fun _ => none⟩
  have hf0 : ∀ n b, f0 n = some b → n = 0 ∧ b = 0 := by
    intro n b hn
    simp only [f0] at hn
    split at hn
    · cases hn; omega
    · cases hn
  have hB : Before 1 f0 [(0, .ro (.cells ⟨L⟩ t fz))] sup w := by
    refine ⟨fun n b h => (by obtain ⟨_, rfl⟩ := hf0 n b h; exact hsz), fun g hg => by simp [f0, hg], fun x hx m hm => ?_, sup_asc, fun n g hg => ?_, fun b n h => (by cases h), fun b n h => (by cases h)⟩
    · have := sup_low x hx
      simp only [f0]
      rw [if_neg (by omega)]
    · rw [look_cons] at hg
      split at hg
      · rename_i e; subst e; cases hg
        intro b hb
        obtain ⟨_, rfl⟩ := hf0 0 b hb
        exact ⟨_, rfl, h0, (obj_clean hL f0).1⟩
      · cases hg
  have hA : AR f0 ⟨args⟩ ⟨args⟩ := by
    refine ⟨rfl, fun i v v' a b => ?_⟩
    rw [a] at b; cases b
    exact clean_VR _ (cleanA2_mem hc v (by have := Array.mem_of_getElem? a; simpa using this))
  refine (s f0 w _ hB hA).mono ?_
  rintro e w' ⟨v, v', h', ns', g, rfl, ⟨rfl, hcv⟩, hAf⟩
  exact ⟨by rw [clean_eq hcv hAf.val], ⟨hAf.os, hAf.tape, hAf.out, hAf.grow, fun b hb => hAf.far b hb rfl⟩⟩
/-- an array of strings that reads as these holds them -/
theorem cells_of_strs {H : Type} {enc : TypeId × Value → H} {P : Program} {w : World} {base : Nat} {sp : Nat → Bool} {held : Bool} {fuel : Nat} {t e : TypeId} {n : Nat} {cs : List Value} {zs : List (List UInt8)} {p : List MemPlace}
    (ht : P.underlying t = some (.array n e)) (he : P.underlying e = some .string) (hce : P.cellsOf e = 1) (hct : P.cellsOf t = n)
    (h : DataW.trod enc P w base sp held fuel t cs = some (.agg (zs.map fun z => .lit (.string z)), p)) : cs = zs.map fun z => Value.string ⟨z.toArray⟩ := by
  cases fuel with
  | zero => simp [DataW.trod] at h
  | succ fuel =>
    simp only [DataW.trod, ht, hce, hct, Nat.mul_one] at h
    split at h
    · rename_i hl
      obtain ⟨xs, hm, hx⟩ := Option.map_eq_some_iff.1 h
      have hxs : xs.map (·.1) = zs.map fun z => (DataW.lit (.string z) : DataW H) := by
        have := congrArg Prod.fst hx
        simpa using this
      have hxl : xs.length = n := by simpa using Go.Lib.mapM_length hm
      have hzl : zs.length = n := by
        have := congrArg List.length hxs
        simp at this
        omega
      apply List.ext_getElem?
      intro i
      by_cases hi : i < n
      · obtain ⟨b, hb, hf⟩ := Go.Lib.mapM_at hm i i (by simp [hi])
        obtain ⟨z, hc, rfl, _⟩ := DataW.trod_string he hf
        have h1 : cs[i]? = some (.string z) := by
          have := congrArg (·[0]?) hc
          simpa [List.getElem?_take, List.getElem?_drop] using this
        have h2 : (xs.map (·.1))[i]? = some (DataW.lit (.string z.data.toList) : DataW H) := by simp [hb]
        rw [hxs] at h2
        simp only [List.getElem?_map, Option.map_eq_some_iff, DataW.lit.injEq, Lit.string.injEq] at h2
        obtain ⟨z', hz', e2⟩ := h2
        simp [h1, hz', e2]
      · rw [List.getElem?_eq_none (by omega), List.getElem?_eq_none (by simp; omega)]
    · cases h
theorem gNames : Tryd.prog.globalNamed "reeve/job.names" = some 0 := by kernel_rfl
theorem gNamesType : (Tryd.prog.globals[0]?).map (·.type) = some 42 := by kernel_rfl
theorem names_laid {W : World} (h0 : laidMetH Tryd.prog Rows.jobStepsRow.laid W) : ∃ t, W.heap[0]? = some (.cells ⟨namesL⟩ t (0, 0)) := by
  have h : laidMet Tryd.prog [("reeve/job.names", .agg ([[112, 101, 110, 100, 105, 110, 103], [114, 117, 110, 110, 105, 110, 103], [100, 111, 110, 101], [99, 97, 110, 99, 101, 108, 108, 101, 100]].map fun z => .lit (.string z)))] W := h0
  obtain ⟨ps, ⟨g, t, cs, fuel, p, q, hg, hty, hvar, hd, hq, rfl⟩, _, hcell⟩ := h
  obtain rfl := Option.some.inj (gNames.symm.trans hg)
  obtain rfl := Option.some.inj (gNamesType.symm.trans hty)
  have hcs := cells_of_strs (e := 9) Tryd.underlying42 Tryd.underlying9 (by kernel_rfl) (by kernel_rfl) hd
  have hcs' : cs = ⟨namesL⟩ := by
    apply Array.toList_inj.1
    rw [hcs]; rfl
  subst hcs'
  obtain ⟨⟨c, t', hb⟩, _⟩ := hcell 0 0 (by
    refine List.mem_append_left _ (List.mem_append_left _ ?_)
    simp [MemPlace.row])
  refine ⟨t', ?_⟩
  simp only [World.var?, gNames, Option.bind_some, hb, Option.some.injEq] at hvar
  rw [hb, hvar]
theorem jobSteps_walk (id pr sq ph nd n0 n1 n2 kd an k : Int) (W : World) (hn : ∃ t, W.heap[0]? = some (.cells ⟨namesL⟩ t (0, 0))) :
    Calls Tryd.prog 3 #[jobV id pr sq ph nd n0 n1 n2, .agg #[.int .i64 kd, .int .i64 an], .int .i64 k] W fun e W' => e = .returned (.bool true) ∧ Gr W W' := by
  obtain ⟨t, h⟩ := hn
  exact (jobSteps_v t (0, 0) id pr sq ph nd n0 n1 n2 kd an k).calls rfl rfl W h
noncomputable def laidWorld_jobSteps (os : Os) : World :=
  { World.holding Tryd.prog os ⟨#[], #[], []⟩ with heap := (World.holding Tryd.prog os ⟨#[], #[], []⟩).heap.modify 0 fun
      | .cells _ t frozen => .cells #[.string sP, .string sR, .string sD, .string sC] t frozen
      | o => o }
theorem laid_met_jobSteps (os : Os) : laidMet Tryd.prog Rows.jobStepsRow.laid ((laidWorld_jobSteps os).forCall (fun _ _ => 0) ⟨#[], #[Value.agg #[.int .i64 0, .int .i64 0, .int .i64 0, .int .i64 0, .int .i64 0, .int .i64 0, .int .i64 0, .int .i64 0], Value.agg #[.int .i64 0, .int .i64 0], Value.int .i64 0], []⟩).memory :=
  laidMet_of_run' 8 (by kernel_rfl) (by kernel_rfl)
theorem reads_jobSteps (os : Os) {H : Type} (enc : TypeId × Value → H) : ∃ places, DataW.whole enc Tryd.prog ((laidWorld_jobSteps os).forCall (fun _ _ => 0) ⟨#[], #[Value.agg #[.int .i64 0, .int .i64 0, .int .i64 0, .int .i64 0, .int .i64 0, .int .i64 0, .int .i64 0, .int .i64 0], Value.agg #[.int .i64 0, .int .i64 0], Value.int .i64 0], []⟩).memory Tryd.f3.params.toList Rows.jobStepsSpec.vars false #[Value.agg #[.int .i64 0, .int .i64 0, .int .i64 0, .int .i64 0, .int .i64 0, .int .i64 0, .int .i64 0, .int .i64 0], Value.agg #[.int .i64 0, .int .i64 0], Value.int .i64 0].toList 8 = some ([.agg [.lit (.int .i64 0), .lit (.int .i64 0), .lit (.int .i64 0), .lit (.int .i64 0), .lit (.int .i64 0), .agg [.lit (.int .i64 0), .lit (.int .i64 0), .lit (.int .i64 0)]], .agg [.lit (.int .i64 0), .lit (.int .i64 0)], .lit (.int .i64 0)], [], places) :=
  ⟨[], by kernel_rfl⟩
set_option maxRecDepth 100000 in
theorem jobSteps_lifted (os : Os) (started : os.Started) (H : Type) (enc : TypeId × Value → H) (FF : Stop.Interp) :
    ReturnsInHanded {} Tryd.checked os 3 .any ((OpenSpec.ofChange Rows.jobStepsSpec).preRow enc Tryd.prog Tryd.f3 Rows.jobStepsRow.domain false Rows.jobStepsRow.laid) (((OpenSpec.ofChange Rows.jobStepsSpec).at FF).post enc Tryd.prog Tryd.f3 false true false false) := by
  obtain ⟨places, hx⟩ := reads_jobSteps os enc
  refine returnsInHanded_of_row (C := Tryd.checked) (s := OpenSpec.ofChange Rows.jobStepsSpec) own started (by kernel_rfl) Tryd.func3
    (witness_row_at (enc := enc) (C := Tryd.checked) false (laidWorld_jobSteps os) #[Value.agg #[.int .i64 0, .int .i64 0, .int .i64 0, .int .i64 0, .int .i64 0, .int .i64 0, .int .i64 0, .int .i64 0], Value.agg #[.int .i64 0, .int .i64 0], Value.int .i64 0] rfl (by kernel_rfl) (by kernel_rfl) (by kernel_rfl)
      (OpenSpec.preRow_of_cond 8 hx (by kernel_rfl) (fun k hk => by cases hk) (by kernel_rfl) (laid_met_jobSteps os))) ?_
  intro W base args ds gs before hval0 hW _ _ _ hL _ _
  have hval : ∀ (j : Nat) t v, Tryd.f3.params[j]? = some t → args[j]? = some v → Value.okWide Tryd.prog W .any base t v := hval0
  have hW0 := hW
  obtain ⟨p, q, hA0, hV, _, _, _⟩ := hW
  have hA : DataW.TrodAll enc Tryd.prog W 0 (fun _ => true) true Tryd.f3.params.toList args.toList ds p := hA0
  rw [Tryd.params3] at hA hval
  obtain ⟨v0, vs0, d0, ds0, p0, q0, hargs, rfl, _, h0, r0⟩ := trodAll_cons hA
  obtain ⟨v1, vs1, d1, ds1, p1, q1, rfl, rfl, _, h1, r1⟩ := trodAll_cons r0
  obtain ⟨v2, vs2, d2, ds2, p2, q2, rfl, rfl, _, h2, r2⟩ := trodAll_cons r1
  obtain ⟨rfl, rfl, _⟩ := trodAll_nil r2
  obtain rfl : args = #[v0, v1, v2] := by cases args; simp_all
  obtain ⟨rfl, _⟩ := trodVars_none hV
  obtain ⟨cs0, rfl, ha0⟩ := read_agg (m := 8) (ks := [.i .i64, .i .i64, .i .i64, .i .i64, .i .i64, .i .i64, .i .i64, .i .i64]) (by kernel_rfl) (by kernel_rfl) (hval 0 25 v0 rfl rfl) h0
  obtain ⟨_, m0_0, rfl, ⟨x0_0, rfl, w0_0⟩, t0_0⟩ := All2.cons_inv ha0
  obtain ⟨_, m0_1, rfl, ⟨x0_1, rfl, w0_1⟩, t0_1⟩ := All2.cons_inv t0_0
  obtain ⟨_, m0_2, rfl, ⟨x0_2, rfl, w0_2⟩, t0_2⟩ := All2.cons_inv t0_1
  obtain ⟨_, m0_3, rfl, ⟨x0_3, rfl, w0_3⟩, t0_3⟩ := All2.cons_inv t0_2
  obtain ⟨_, m0_4, rfl, ⟨x0_4, rfl, w0_4⟩, t0_4⟩ := All2.cons_inv t0_3
  obtain ⟨_, m0_5, rfl, ⟨x0_5, rfl, w0_5⟩, t0_5⟩ := All2.cons_inv t0_4
  obtain ⟨_, m0_6, rfl, ⟨x0_6, rfl, w0_6⟩, t0_6⟩ := All2.cons_inv t0_5
  obtain ⟨_, m0_7, rfl, ⟨x0_7, rfl, w0_7⟩, t0_7⟩ := All2.cons_inv t0_6
  obtain rfl := All2.nil_inv t0_7
  obtain ⟨cs1, rfl, ha1⟩ := read_agg (m := 8) (ks := [.i .i64, .i .i64]) (by kernel_rfl) (by kernel_rfl) (hval 1 27 v1 rfl rfl) h1
  obtain ⟨_, m1_0, rfl, ⟨x1_0, rfl, w1_0⟩, t1_0⟩ := All2.cons_inv ha1
  obtain ⟨_, m1_1, rfl, ⟨x1_1, rfl, w1_1⟩, t1_1⟩ := All2.cons_inv t1_0
  obtain rfl := All2.nil_inv t1_1
  obtain ⟨a2, rfl, rfl, _, w2⟩ := open_int Tryd.underlying3 (hval 2 3 v2 rfl rfl) h2
  refine (jobSteps_walk x0_0 x0_1 x0_2 x0_3 x0_4 x0_5 x0_6 x0_7 x1_0 x1_1 a2 W (names_laid hL) ).mono fun e W' ⟨he, hg⟩ => ?_
  exact ⟨_, he, post_true laidOut (tb := 4) (by kernel_rfl) Tryd.underlying4 (by decide +kernel) rfl rfl rfl rfl hW0 hg⟩

theorem jobSteps_holds : Rows.JobStepsSaid :=
  OpenClaim.holds_of_cond 3 Tryd.f3 rfl rfl rfl rfl rfl rfl rfl ⟨rfl, rfl, rfl, rfl, rfl⟩ rfl rfl rfl rfl rfl (by kernel_rfl) Tryd.func3 (by kernel_rfl)
    (of_decide_eq_true (by kernel_rfl)) (by unfold Func.isWrapper; first | (rw [if_pos (by decide +kernel)]; kernel_rfl) | (rw [if_neg (by decide +kernel)]; exact ⟨rfl, rfl⟩))
    (fun os started H enc _ FF => by rw [OpenClaim.pre_eq_preRow]; exact jobSteps_lifted os started H enc FF)
theorem jobSteps_plain (f : FuncId) (fn : Func) (hf : Tryd.pinned.checked.prog.funcNamed "reeve/reevelaw22.JobSteps" = some f) (hfn : Tryd.pinned.checked.prog.funcs[f]? = some fn) :
    false = Tryd.pinned.checked.prog.looks [] ∧ ∀ (j : Nat) t, fn.params[j]? = some t → Tryd.pinned.checked.prog.wantsStandIn t = false := by
  obtain rfl : f = 3 := Option.some.inj ((show Tryd.prog.funcNamed "reeve/reevelaw22.JobSteps" = some 3 by kernel_rfl).symm.trans hf) |>.symm
  obtain rfl : fn = Tryd.f3 := (Option.some.inj (Tryd.func3.symm.trans hfn)).symm
  refine ⟨by kernel_rfl, fun j t ht => ?_⟩
  rw [Tryd.params3] at ht
  have hm : t = 25 ∨ t = 27 ∨ t = 3 := by simpa using Array.mem_of_getElem? ht
  rcases hm with rfl | rfl | rfl
  · exact (show Tryd.prog.wantsStandIn 25 = false by kernel_rfl)
  · exact (show Tryd.prog.wantsStandIn 27 = false by kernel_rfl)
  · exact (show Tryd.prog.wantsStandIn 3 = false by kernel_rfl)
theorem jobSteps_card : Rows.JobStepsCardSaid :=
  Claim7.holds_tied_plain_at .later [] _ _ _ _ jobSteps_holds (fun _ h => by cases h) (by kernel_rfl) (fun _ h => by cases h) jobSteps_row_tie rfl ⟨rfl, rfl⟩ (by kernel_rfl) rfl jobSteps_plain (by kernel_rfl)
#print axioms jobSteps_card

end Go.Proofs.YtpicmpfcmgocmaaDoor

/- What is put is taken, once, in any order: the program's answer, at every row of messages and every row of numbers; the ways of a message read as the row tells. -/
import Derived.Test.YtkcmhcgmiflgbaaDoorNF0
import Derived.Test.YtkcmhcgmiflgbaaDoorNQ1

namespace Go.Proofs.YtkcmhcgmiflgbaaDoor
open Go.RowKit
open Go.RowKit Go.ChangeShapes Go.WideShapes Go.ChangeAt
open Go.Proofs.YtkcmhcgmiflgbaaDoor
theorem wf8 {x : Int} (h : (Lit.int .u8 x).wf = true) : 0 ≤ x ∧ x ≤ 255 := by
  simp [Lit.wf] at h; exact h
def rowM (cs : List Value) : Msg := ⟨intOf cs 0, intOf cs 1, intOf cs 2, intOf cs 3, intOf cs 4, intOf cs 5, intOf cs 6, intOf cs 7, intOf cs 8, intOf cs 9, intOf cs 10, intOf cs 11⟩
theorem netKeeps_walk (A : Option Addr) (n c : Nat) (hn : n ≤ c) (B : Option Addr) (m d : Nat) (hm : m ≤ d) (W : World) (hl0 : ∃ t, W.heap[0]? = some (.cells ⟨waysL⟩ t (0, 0))) (hs : SliceAt W A c 12 [.i .i64, .i .i64, .i .i64, .i .i64, .i .i64, .i .i64, .i .i64, .i .i64, .i .i64, .i .i64, .i .i64, .i .i64]) (hs2 : SliceAt W B d 1 [.i .u8]) :
    Calls Tryd.prog 4 #[.slice A n c, .slice B m d] W fun e W' => e = .returned (.bool true) ∧ Gr W W' := by
  obtain ⟨t, h0⟩ := hl0
  obtain ⟨l, rfl, _, hl⟩ := SlR_of eM rowM (fun _ => True) (by decide) (fun cs h0 => by obtain ⟨_, m1, rfl, ⟨x0, rfl, _⟩, h1⟩ := All2.cons_inv h0; obtain ⟨_, m2, rfl, ⟨x1, rfl, _⟩, h2⟩ := All2.cons_inv h1; obtain ⟨_, m3, rfl, ⟨x2, rfl, _⟩, h3⟩ := All2.cons_inv h2; obtain ⟨_, m4, rfl, ⟨x3, rfl, _⟩, h4⟩ := All2.cons_inv h3; obtain ⟨_, m5, rfl, ⟨x4, rfl, _⟩, h5⟩ := All2.cons_inv h4; obtain ⟨_, m6, rfl, ⟨x5, rfl, _⟩, h6⟩ := All2.cons_inv h5; obtain ⟨_, m7, rfl, ⟨x6, rfl, _⟩, h7⟩ := All2.cons_inv h6; obtain ⟨_, m8, rfl, ⟨x7, rfl, _⟩, h8⟩ := All2.cons_inv h7; obtain ⟨_, m9, rfl, ⟨x8, rfl, _⟩, h9⟩ := All2.cons_inv h8; obtain ⟨_, m10, rfl, ⟨x9, rfl, _⟩, h10⟩ := All2.cons_inv h9; obtain ⟨_, m11, rfl, ⟨x10, rfl, _⟩, h11⟩ := All2.cons_inv h10; obtain ⟨_, m12, rfl, ⟨x11, rfl, _⟩, h12⟩ := All2.cons_inv h11; obtain rfl := All2.nil_inv h12; exact ⟨rfl, trivial⟩) hn hs
  obtain ⟨s, rfl, h2, hl2⟩ := SlR_of encU (fun cs => intOf cs 0) (fun x => 0 ≤ x ∧ x ≤ 255) (by decide) (fun cs h0 => by obtain ⟨_, m1, rfl, ⟨x0, rfl, g0⟩, h1⟩ := All2.cons_inv h0; obtain rfl := All2.nil_inv h1; exact ⟨rfl, wf8 g0⟩) hm hs2
  exact (netKeeps_ct t (0, 0) l s h2).calls h0 (.cons hl (.cons hl2 .nil))
noncomputable def laidWorld_netKeeps (os : Os) : World :=
  { World.holding Tryd.prog os ⟨#[], #[], []⟩ with heap := (World.holding Tryd.prog os ⟨#[], #[], []⟩).heap.modify 0 fun
      | .cells _ t frozen => .cells #[.int .i64 2, .int .i64 1, .int .i64 1, .int .i64 2, .int .i64 1, .int .i64 2, .int .i64 1, .int .i64 2, .int .i64 2, .int .i64 1, .int .i64 3, .int .i64 1, .int .i64 3, .int .i64 1, .int .i64 1, .int .i64 3] t frozen
      | o => o }
theorem laid_met_netKeeps (os : Os) : laidMet Tryd.prog Rows.netKeepsRow.laid ((laidWorld_netKeeps os).forCall (fun _ _ => 0) ⟨#[], #[Value.slice none 0 0, Value.slice none 0 0], []⟩).memory :=
  laidMet_of_run' 8 (by kernel_rfl) (by kernel_rfl)
theorem reads_netKeeps (os : Os) {H : Type} (enc : TypeId × Value → H) : ∃ places, DataW.whole enc Tryd.prog ((laidWorld_netKeeps os).forCall (fun _ _ => 0) ⟨#[], #[Value.slice none 0 0, Value.slice none 0 0], []⟩).memory Tryd.f4.params.toList Rows.netKeepsSpec.vars false #[Value.slice none 0 0, Value.slice none 0 0].toList 8 = some ([.nil, .nil], [], places) :=
  ⟨[], by kernel_rfl⟩
set_option maxRecDepth 100000 in
theorem netKeeps_lifted (os : Os) (started : os.Started) (H : Type) (enc : TypeId × Value → H) (FF : Stop.Interp) :
    ReturnsInHanded {} Tryd.checked os 4 .any ((OpenSpec.ofChange Rows.netKeepsSpec).preRow enc Tryd.prog Tryd.f4 Rows.netKeepsRow.domain false Rows.netKeepsRow.laid) (((OpenSpec.ofChange Rows.netKeepsSpec).at FF).post enc Tryd.prog Tryd.f4 false true false false) := by
  obtain ⟨places, hx⟩ := reads_netKeeps os enc
  refine returnsInHanded_of_row (C := Tryd.checked) (s := OpenSpec.ofChange Rows.netKeepsSpec) own started (by kernel_rfl) Tryd.func4
    (witness_row_at (enc := enc) (C := Tryd.checked) false (laidWorld_netKeeps os) #[Value.slice none 0 0, Value.slice none 0 0] rfl (by kernel_rfl) (by kernel_rfl) (by kernel_rfl)
      (OpenSpec.preRow_of_cond 8 hx (by kernel_rfl) (fun k hk => by cases hk) (by kernel_rfl) (laid_met_netKeeps os))) ?_
  intro W base args ds gs before hval0 hW _ _ _ hL _ _
  have hval : ∀ (j : Nat) t v, Tryd.f4.params[j]? = some t → args[j]? = some v → Value.okWide Tryd.prog W .any base t v := hval0
  have hW0 := hW
  obtain ⟨p, q, hA0, hV, _, _, _⟩ := hW
  have hA : DataW.TrodAll enc Tryd.prog W 0 (fun _ => true) true Tryd.f4.params.toList args.toList ds p := hA0
  rw [Tryd.params4] at hA hval
  obtain ⟨v0, vs0, d0, ds0, p0, q0, hargs, rfl, _, h0, r0⟩ := trodAll_cons hA
  obtain ⟨v1, vs1, d1, ds1, p1, q1, rfl, rfl, _, h1, r1⟩ := trodAll_cons r0
  obtain ⟨rfl, rfl, _⟩ := trodAll_nil r1
  obtain rfl : args = #[v0, v1] := by cases args; simp_all
  obtain ⟨rfl, _⟩ := trodVars_none hV
  obtain ⟨A0, n0, c0, rfl, hn0, hc0, hs0⟩ := read_sliceC (m := 8) (ks := [.i .i64, .i .i64, .i .i64, .i .i64, .i .i64, .i .i64, .i .i64, .i .i64, .i .i64, .i .i64, .i .i64, .i .i64]) Tryd.underlying29 (by kernel_rfl) (by decide) (by kernel_rfl) (hval 0 29 v0 rfl rfl) h0
  obtain ⟨A1, n1, c1, rfl, hn1, hc1, hs1⟩ := read_sliceC (m := 8) (ks := [.i .u8]) Tryd.underlying59 (by kernel_rfl) (by decide) (by kernel_rfl) (hval 1 59 v1 rfl rfl) h1
  refine (netKeeps_walk A0 n0 c0 hn0 A1 n1 c1 hn1 W (names_laid hL) hs0 hs1).mono fun e W' ⟨he, hg⟩ => ?_
  exact ⟨_, he, post_true laidOut (tb := 4) (by kernel_rfl) Tryd.underlying4 (by decide +kernel) rfl rfl rfl rfl hW0 hg⟩

theorem netKeeps_holds : Rows.NetKeepsSaid :=
  OpenClaim.holds_of_cond 4 Tryd.f4 rfl rfl rfl rfl rfl rfl rfl ⟨rfl, rfl, rfl, rfl, rfl⟩ rfl rfl rfl rfl rfl (by kernel_rfl) Tryd.func4 (by kernel_rfl)
    (of_decide_eq_true (by kernel_rfl)) (by unfold Func.isWrapper; first | (rw [if_pos (by decide +kernel)]; kernel_rfl) | (rw [if_neg (by decide +kernel)]; exact ⟨rfl, rfl⟩))
    (fun os started H enc _ FF => by rw [OpenClaim.pre_eq_preRow]; exact netKeeps_lifted os started H enc FF)
theorem netKeeps_plain (f : FuncId) (fn : Func) (hf : Tryd.pinned.checked.prog.funcNamed "reeve/reevelaw37.NetKeeps" = some f) (hfn : Tryd.pinned.checked.prog.funcs[f]? = some fn) :
    false = Tryd.pinned.checked.prog.looks [] ∧ ∀ (j : Nat) t, fn.params[j]? = some t → Tryd.pinned.checked.prog.wantsStandIn t = false := by
  obtain rfl : f = 4 := Option.some.inj ((show Tryd.prog.funcNamed "reeve/reevelaw37.NetKeeps" = some 4 by kernel_rfl).symm.trans hf) |>.symm
  obtain rfl : fn = Tryd.f4 := (Option.some.inj (Tryd.func4.symm.trans hfn)).symm
  refine ⟨by kernel_rfl, fun j t ht => ?_⟩
  rw [Tryd.params4] at ht
  have hm : t = 29 ∨ t = 59 := by simpa using Array.mem_of_getElem? ht
  rcases hm with rfl | rfl
  · exact (show Tryd.prog.wantsStandIn 29 = false by kernel_rfl)
  · exact (show Tryd.prog.wantsStandIn 59 = false by kernel_rfl)
theorem netKeeps_card : Rows.NetKeepsCardSaid :=
  Claim7.holds_tied_plain_at .later [] _ _ _ _ netKeeps_holds (fun _ h => by cases h) (by kernel_rfl) (fun _ h => by cases h) netKeeps_row_tie rfl ⟨rfl, rfl⟩ (by kernel_rfl) rfl netKeeps_plain (by kernel_rfl)
#print axioms netKeeps_card

end Go.Proofs.YtkcmhcgmiflgbaaDoor

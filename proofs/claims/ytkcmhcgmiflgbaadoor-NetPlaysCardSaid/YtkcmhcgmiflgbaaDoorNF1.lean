/- What any calls tell, and what is on its way behind each: the program's answer, at every row of calls and every two places; the ways of a message read as the row tells. -/
import Derived.Test.YtkcmhcgmiflgbaaDoorNF0
import Derived.Test.YtkcmhcgmiflgbaaDoorNP1

namespace Go.Proofs.YtkcmhcgmiflgbaaDoor
open Go.RowKit
open Go.RowKit Go.ChangeShapes Go.WideShapes Go.ChangeAt
open Go.Proofs.YtkcmhcgmiflgbaaDoor
theorem netPlays_walk (A : Option Addr) (n c : Nat) (hn : n ≤ c) (p q : Int) (W : World) (hl0 : ∃ t, W.heap[0]? = some (.cells ⟨waysL⟩ t (0, 0))) (hs : SliceAt W A c 16 [.i .i64, .i .i64, .i .i64, .i .i64, .i .i64, .i .i64, .i .i64, .i .i64, .i .i64, .i .i64, .i .i64, .i .i64, .i .i64, .i .i64, .i .i64, .i .i64]) :
    Calls Tryd.prog 3 #[.slice A n c, .int .i64 p, .int .i64 q] W fun e W' => e = .returned (.bool true) ∧ Gr W W' := by
  obtain ⟨t, h0⟩ := hl0
  obtain ⟨l, rfl, _, hl⟩ := SlR_of encN4 rowN4 (fun _ => True) (by decide) (fun cs h0 => by obtain ⟨_, m1, rfl, ⟨x0, rfl, _⟩, h1⟩ := All2.cons_inv h0; obtain ⟨_, m2, rfl, ⟨x1, rfl, _⟩, h2⟩ := All2.cons_inv h1; obtain ⟨_, m3, rfl, ⟨x2, rfl, _⟩, h3⟩ := All2.cons_inv h2; obtain ⟨_, m4, rfl, ⟨x3, rfl, _⟩, h4⟩ := All2.cons_inv h3; obtain ⟨_, m5, rfl, ⟨x4, rfl, _⟩, h5⟩ := All2.cons_inv h4; obtain ⟨_, m6, rfl, ⟨x5, rfl, _⟩, h6⟩ := All2.cons_inv h5; obtain ⟨_, m7, rfl, ⟨x6, rfl, _⟩, h7⟩ := All2.cons_inv h6; obtain ⟨_, m8, rfl, ⟨x7, rfl, _⟩, h8⟩ := All2.cons_inv h7; obtain ⟨_, m9, rfl, ⟨x8, rfl, _⟩, h9⟩ := All2.cons_inv h8; obtain ⟨_, m10, rfl, ⟨x9, rfl, _⟩, h10⟩ := All2.cons_inv h9; obtain ⟨_, m11, rfl, ⟨x10, rfl, _⟩, h11⟩ := All2.cons_inv h10; obtain ⟨_, m12, rfl, ⟨x11, rfl, _⟩, h12⟩ := All2.cons_inv h11; obtain ⟨_, m13, rfl, ⟨x12, rfl, _⟩, h13⟩ := All2.cons_inv h12; obtain ⟨_, m14, rfl, ⟨x13, rfl, _⟩, h14⟩ := All2.cons_inv h13; obtain ⟨_, m15, rfl, ⟨x14, rfl, _⟩, h15⟩ := All2.cons_inv h14; obtain ⟨_, m16, rfl, ⟨x15, rfl, _⟩, h16⟩ := All2.cons_inv h15; obtain rfl := All2.nil_inv h16; exact ⟨rfl, trivial⟩) hn hs
  exact (netPlays_ct t (0, 0) l p q).calls h0 (.cons hl (.cons ⟨rfl, rfl⟩ (.cons ⟨rfl, rfl⟩ .nil)))
noncomputable def laidWorld_netPlays (os : Os) : World :=
  { World.holding Tryd.prog os ⟨#[], #[], []⟩ with heap := (World.holding Tryd.prog os ⟨#[], #[], []⟩).heap.modify 0 fun
      | .cells _ t frozen => .cells #[.int .i64 2, .int .i64 1, .int .i64 1, .int .i64 2, .int .i64 1, .int .i64 2, .int .i64 1, .int .i64 2, .int .i64 2, .int .i64 1, .int .i64 3, .int .i64 1, .int .i64 3, .int .i64 1, .int .i64 1, .int .i64 3] t frozen
      | o => o }
theorem laid_met_netPlays (os : Os) : laidMet Tryd.prog Rows.netPlaysRow.laid ((laidWorld_netPlays os).forCall (fun _ _ => 0) ⟨#[], #[Value.slice none 0 0, Value.int .i64 0, Value.int .i64 0], []⟩).memory :=
  laidMet_of_run' 8 (by kernel_rfl) (by kernel_rfl)
theorem reads_netPlays (os : Os) {H : Type} (enc : TypeId × Value → H) : ∃ places, DataW.whole enc Tryd.prog ((laidWorld_netPlays os).forCall (fun _ _ => 0) ⟨#[], #[Value.slice none 0 0, Value.int .i64 0, Value.int .i64 0], []⟩).memory Tryd.f3.params.toList Rows.netPlaysSpec.vars false #[Value.slice none 0 0, Value.int .i64 0, Value.int .i64 0].toList 8 = some ([.nil, .lit (.int .i64 0), .lit (.int .i64 0)], [], places) :=
  ⟨[], by kernel_rfl⟩
set_option maxRecDepth 100000 in
theorem netPlays_lifted (os : Os) (started : os.Started) (H : Type) (enc : TypeId × Value → H) (FF : Stop.Interp) :
    ReturnsInHanded {} Tryd.checked os 3 .any ((OpenSpec.ofChange Rows.netPlaysSpec).preRow enc Tryd.prog Tryd.f3 Rows.netPlaysRow.domain false Rows.netPlaysRow.laid) (((OpenSpec.ofChange Rows.netPlaysSpec).at FF).post enc Tryd.prog Tryd.f3 false true false false) := by
  obtain ⟨places, hx⟩ := reads_netPlays os enc
  refine returnsInHanded_of_row (C := Tryd.checked) (s := OpenSpec.ofChange Rows.netPlaysSpec) own started (by kernel_rfl) Tryd.func3
    (witness_row_at (enc := enc) (C := Tryd.checked) false (laidWorld_netPlays os) #[Value.slice none 0 0, Value.int .i64 0, Value.int .i64 0] rfl (by kernel_rfl) (by kernel_rfl) (by kernel_rfl)
      (OpenSpec.preRow_of_cond 8 hx (by kernel_rfl) (fun k hk => by cases hk) (by kernel_rfl) (laid_met_netPlays os))) ?_
  intro W base args ds gs before hval0 hW _ _ _ hL _ _
  have hval : ∀ (j : Nat) t v, Tryd.f3.params[j]? = some t → args[j]? = some v → Value.okWide Tryd.prog W .any base t v := hval0
  have hW0 := hW
  obtain ⟨p, q, hA0, hV, _, _, _⟩ := hW
  have hA : DataW.TrodAll enc Tryd.prog W 0 (fun _ => true) true Tryd.f3.params.toList args.toList ds p := hA0
  rw [Tryd.params3] at hA hval
  obtain ⟨v0, vs0, d0, ds0, p0, q0, hargs, rfl, _, h0, r0⟩ := trodAll_cons hA
  obtain ⟨v1, vs1, d1, ds1, p1, q1, rfl, rfl, _, h1, r1⟩ := trodAll_cons r0
  obtain ⟨v2, vs2, d2, ds2, p2, q2, rfl, rfl, _, h2, r2⟩ := trodAll_cons r1
  obtain ⟨rfl, rfl, _⟩ := trodAll_nil r2
  obtain rfl : args = #[v0, v1, v2] := by cases args; simp_all
  obtain ⟨rfl, _⟩ := trodVars_none hV
  obtain ⟨A0, n0, c0, rfl, hn0, hc0, hs0⟩ := read_sliceC (m := 8) (ks := [.i .i64, .i .i64, .i .i64, .i .i64, .i .i64, .i .i64, .i .i64, .i .i64, .i .i64, .i .i64, .i .i64, .i .i64, .i .i64, .i .i64, .i .i64, .i .i64]) Tryd.underlying22 (by kernel_rfl) (by decide) (by kernel_rfl) (hval 0 22 v0 rfl rfl) h0
  obtain ⟨a1, rfl, rfl, _, w1⟩ := open_int Tryd.underlying3 (hval 1 3 v1 rfl rfl) h1
  obtain ⟨a2, rfl, rfl, _, w2⟩ := open_int Tryd.underlying3 (hval 2 3 v2 rfl rfl) h2
  refine (netPlays_walk A0 n0 c0 hn0 a1 a2 W (names_laid hL) hs0).mono fun e W' ⟨he, hg⟩ => ?_
  exact ⟨_, he, post_true laidOut (tb := 4) (by kernel_rfl) Tryd.underlying4 (by decide +kernel) rfl rfl rfl rfl hW0 hg⟩

theorem netPlays_holds : Rows.NetPlaysSaid :=
  OpenClaim.holds_of_cond 3 Tryd.f3 rfl rfl rfl rfl rfl rfl rfl ⟨rfl, rfl, rfl, rfl, rfl⟩ rfl rfl rfl rfl rfl (by kernel_rfl) Tryd.func3 (by kernel_rfl)
    (of_decide_eq_true (by kernel_rfl)) (by unfold Func.isWrapper; first | (rw [if_pos (by decide +kernel)]; kernel_rfl) | (rw [if_neg (by decide +kernel)]; exact ⟨rfl, rfl⟩))
    (fun os started H enc _ FF => by rw [OpenClaim.pre_eq_preRow]; exact netPlays_lifted os started H enc FF)
theorem netPlays_plain (f : FuncId) (fn : Func) (hf : Tryd.pinned.checked.prog.funcNamed "reeve/reevelaw37.NetPlays" = some f) (hfn : Tryd.pinned.checked.prog.funcs[f]? = some fn) :
    false = Tryd.pinned.checked.prog.looks [] ∧ ∀ (j : Nat) t, fn.params[j]? = some t → Tryd.pinned.checked.prog.wantsStandIn t = false := by
  obtain rfl : f = 3 := Option.some.inj ((show Tryd.prog.funcNamed "reeve/reevelaw37.NetPlays" = some 3 by kernel_rfl).symm.trans hf) |>.symm
  obtain rfl : fn = Tryd.f3 := (Option.some.inj (Tryd.func3.symm.trans hfn)).symm
  refine ⟨by kernel_rfl, fun j t ht => ?_⟩
  rw [Tryd.params3] at ht
  have hm : t = 22 ∨ t = 3 ∨ t = 3 := by simpa using Array.mem_of_getElem? ht
  rcases hm with rfl | rfl | rfl
  · exact (show Tryd.prog.wantsStandIn 22 = false by kernel_rfl)
  · exact (show Tryd.prog.wantsStandIn 3 = false by kernel_rfl)
  · exact (show Tryd.prog.wantsStandIn 3 = false by kernel_rfl)
theorem netPlays_card : Rows.NetPlaysCardSaid :=
  Claim7.holds_tied_plain_at .later [] _ _ _ _ netPlays_holds (fun _ h => by cases h) (by kernel_rfl) (fun _ h => by cases h) netPlays_row_tie rfl ⟨rfl, rfl⟩ (by kernel_rfl) rfl netPlays_plain (by kernel_rfl)
#print axioms netPlays_card

end Go.Proofs.YtkcmhcgmiflgbaaDoor

/- The top of a shelf is the first of the nodes that take what is needed, when each was put as it is now, whatever it was ahead: for every need and every row of nodes; no condition. -/
import Derived.Test.YtdligbcmhjhkfaaCH5
import Derived.Test.YtdligbcmhjhkfaaRows
import Derived.Test.YtdligbcmhjhkfaaChecked

namespace Go.Proofs.Ytdligbcmhjhkfaa
open Go.RowKit
open Go.RowKit Go.ChangeShapes Go.WideShapes Go.ChangeAt
open Go.Proofs.Ytdligbcmhjhkfaa
theorem own : ownKnob Try.prog.godebug = none := by kernel_rfl
theorem laidOut : laidOutB Try.prog = true := by kernel_rfl
def decN (cs : List Value) : ND := ⟨intOf cs 0, intOf cs 1, intOf cs 2, intOf cs 3, intOf cs 4, intOf cs 5, intOf cs 6, intOf cs 7, intOf cs 8, boolOf cs 9⟩
theorem shelfBest_walk (a : Int) (_ : I64 a) (b : Int) (_ : I64 b) (c : Int) (_ : I64 c) (A : Option Addr) (n c' : Nat) (hn : n ≤ c') (W : World) (hs : SliceAt W A c' 10 [.i .i64, .i .i64, .i .i64, .i .i64, .i .i64, .i .i64, .i .i64, .i .i64, .i .i64, .b]) :
    Calls Try.prog 9 #[r3 a b c, .slice A n c'] W fun e W' => e = .returned (.bool true) ∧ Gr W W' := by
  obtain ⟨l, rfl, _, hl⟩ := SlR_of encN decN (fun _ => True) (by decide) (fun cs h0 => by obtain ⟨_, m1, rfl, ⟨x0, rfl, _⟩, h1⟩ := All2.cons_inv h0; obtain ⟨_, m2, rfl, ⟨x1, rfl, _⟩, h2⟩ := All2.cons_inv h1; obtain ⟨_, m3, rfl, ⟨x2, rfl, _⟩, h3⟩ := All2.cons_inv h2; obtain ⟨_, m4, rfl, ⟨x3, rfl, _⟩, h4⟩ := All2.cons_inv h3; obtain ⟨_, m5, rfl, ⟨x4, rfl, _⟩, h5⟩ := All2.cons_inv h4; obtain ⟨_, m6, rfl, ⟨x5, rfl, _⟩, h6⟩ := All2.cons_inv h5; obtain ⟨_, m7, rfl, ⟨x6, rfl, _⟩, h7⟩ := All2.cons_inv h6; obtain ⟨_, m8, rfl, ⟨x7, rfl, _⟩, h8⟩ := All2.cons_inv h7; obtain ⟨_, m9, rfl, ⟨x8, rfl, _⟩, h9⟩ := All2.cons_inv h8; obtain ⟨_, m10, rfl, ⟨x9, rfl⟩, h10⟩ := All2.cons_inv h9; obtain rfl := All2.nil_inv h10; exact ⟨rfl, trivial⟩) hn hs
  exact (shelfBest_ct a b c l).calls (.cons ⟨rfl, rfl⟩ (.cons hl .nil))
set_option maxRecDepth 100000 in
theorem shelfBest_lifted (os : Os) (started : os.Started) (H : Type) (enc : TypeId × Value → H) :
    ReturnsInHanded {} Try.checked os 9 .any (Rows.shelfBestSpec.pre6 enc Try.prog Try.f9 Rows.shelfBestRow.domain false) (Rows.shelfBestSpec.post enc Try.prog Try.f9 false true false false) := by
  refine returnsInHanded_of_change (C := Try.checked) own started (by kernel_rfl) Try.func9
    (ChangeSpec.witness6 (enc := enc) (C := Try.checked) false ⟨#[], #[.agg #[.int .i64 0, .int .i64 0, .int .i64 0], .slice none 0 0], []⟩ 8 (by kernel_rfl) (by kernel_rfl) (by kernel_rfl) (by kernel_rfl)) ?_
  intro W base args ds gs before hval0 hW _ _
  have hval : ∀ (j : Nat) t v, Try.f9.params[j]? = some t → args[j]? = some v → Value.okWide Try.prog W .any base t v := hval0
  have hW0 := hW
  obtain ⟨p, q, hA0, hV, _, _, _⟩ := hW
  have hA : DataW.TrodAll enc Try.prog W 0 (fun _ => true) true Try.f9.params.toList args.toList ds p := hA0
  rw [Try.params9] at hA hval
  obtain ⟨v0, vs0, d0, ds0, p0, q0, hargs, rfl, _, h0, r0⟩ := trodAll_cons hA
  obtain ⟨v1, vs1, d1, ds1, p1, q1, rfl, rfl, _, h1, r1⟩ := trodAll_cons r0
  obtain ⟨rfl, rfl, _⟩ := trodAll_nil r1
  obtain rfl : args = #[v0, v1] := by cases args; simp_all
  obtain ⟨rfl, _⟩ := trodVars_none hV
  obtain ⟨cs0, rfl, ha0⟩ := read_agg (m := 8) (ks := [.i .i64, .i .i64, .i .i64]) (by kernel_rfl) (by kernel_rfl) (hval 0 60 v0 rfl rfl) h0
  obtain ⟨_, m0_0, rfl, ⟨x0_0, rfl, w0_0⟩, t0_0⟩ := All2.cons_inv ha0
  obtain ⟨_, m0_1, rfl, ⟨x0_1, rfl, w0_1⟩, t0_1⟩ := All2.cons_inv t0_0
  obtain ⟨_, m0_2, rfl, ⟨x0_2, rfl, w0_2⟩, t0_2⟩ := All2.cons_inv t0_1
  obtain rfl := All2.nil_inv t0_2
  obtain ⟨A1, n1, c1, rfl, hn1, hc1, hs1⟩ := read_sliceC (m := 8) (ks := [.i .i64, .i .i64, .i .i64, .i .i64, .i .i64, .i .i64, .i .i64, .i .i64, .i .i64, .b]) Try.underlying97 (by kernel_rfl) (by decide) (by kernel_rfl) (hval 1 97 v1 rfl rfl) h1
  refine (shelfBest_walk x0_0 (I64_wf w0_0) x0_1 (I64_wf w0_1) x0_2 (I64_wf w0_2) A1 n1 c1 hn1 W hs1).mono fun e W' ⟨he, hg⟩ => ?_
  exact ⟨_, he, post_true laidOut (tb := 4) (by kernel_rfl) Try.underlying4 (by decide +kernel) rfl rfl rfl rfl hW0 hg⟩

theorem shelfBest_holds : Rows.ShelfBestSaid :=
  OpenClaim.holds_of_wide 9 Try.f9 rfl rfl rfl rfl rfl rfl rfl ⟨rfl, rfl, rfl, rfl, rfl⟩ rfl rfl rfl rfl rfl (by kernel_rfl) Try.func9 (by kernel_rfl)
    (of_decide_eq_true (by kernel_rfl)) (by unfold Func.isWrapper; rw [if_neg (by decide +kernel)]; exact ⟨rfl, rfl⟩)
    (fun os started H enc _ => shelfBest_lifted os started H enc)
#print axioms shelfBest_holds

end Go.Proofs.Ytdligbcmhjhkfaa

/- Who was not heard of for as long as may be is due, once, and elder incarnations are fenced off: for every span and every row of calls; no condition. -/
import Derived.Test.YtliaoaejmmkkjaaBD2
import Derived.Test.YtliaoaejmmkkjaaRows
import Derived.Test.YtliaoaejmmkkjaaChecked

namespace Go.Proofs.Ytliaoaejmmkkjaa
open Go.RowKit
open Go.RowKit Go.ChangeShapes Go.WideShapes Go.ChangeAt
open Go.Proofs.Ytliaoaejmmkkjaa
theorem own : ownKnob Try.prog.godebug = none := by kernel_rfl
theorem laidOut : laidOutB Try.prog = true := by kernel_rfl
theorem beatDue_walk (k : Int) (hk : 0 ≤ k ∧ k ≤ 255) (A : Option Addr) (n c : Nat) (hn : n ≤ c) (W : World) (hs : SliceAt W A c 4 [.i .i64, .i .i64, .i .i64, .i .i64]) :
    Calls Try.prog 5 #[.int .u8 k, .slice A n c] W fun e W' => e = .returned (.bool true) ∧ Gr W W' := by
  obtain ⟨l, rfl, _, hl⟩ := SlR_of encA4 (fun cs => (intOf cs 0, intOf cs 1, intOf cs 2, intOf cs 3)) (fun _ => True) (by decide) (fun cs h0 => by obtain ⟨_, m1, rfl, ⟨x0, rfl, _⟩, h1⟩ := All2.cons_inv h0; obtain ⟨_, m2, rfl, ⟨x1, rfl, _⟩, h2⟩ := All2.cons_inv h1; obtain ⟨_, m3, rfl, ⟨x2, rfl, _⟩, h3⟩ := All2.cons_inv h2; obtain ⟨_, m4, rfl, ⟨x3, rfl, _⟩, h4⟩ := All2.cons_inv h3; obtain rfl := All2.nil_inv h4; exact ⟨rfl, trivial⟩) hn hs
  exact (beatDue_ct k hk l).calls (.cons ⟨rfl, rfl⟩ (.cons hl .nil))
set_option maxRecDepth 100000 in
theorem beatDue_lifted (os : Os) (started : os.Started) (H : Type) (enc : TypeId × Value → H) :
    ReturnsInHanded {} Try.checked os 5 .any (Rows.beatDueSpec.pre6 enc Try.prog Try.f5 Rows.beatDueRow.domain false) (Rows.beatDueSpec.post enc Try.prog Try.f5 false true false false) := by
  refine returnsInHanded_of_change (C := Try.checked) own started (by kernel_rfl) Try.func5
    (ChangeSpec.witness6 (enc := enc) (C := Try.checked) false ⟨#[], #[.int .u8 0, .slice none 0 0], []⟩ 8 (by kernel_rfl) (by kernel_rfl) (by kernel_rfl) (by kernel_rfl)) ?_
  intro W base args ds gs before hval0 hW _ _
  have hval : ∀ (j : Nat) t v, Try.f5.params[j]? = some t → args[j]? = some v → Value.okWide Try.prog W .any base t v := hval0
  have hW0 := hW
  obtain ⟨p, q, hA0, hV, _, _, _⟩ := hW
  have hA : DataW.TrodAll enc Try.prog W 0 (fun _ => true) true Try.f5.params.toList args.toList ds p := hA0
  rw [Try.params5] at hA hval
  obtain ⟨v0, vs0, d0, ds0, p0, q0, hargs, rfl, _, h0, r0⟩ := trodAll_cons hA
  obtain ⟨v1, vs1, d1, ds1, p1, q1, rfl, rfl, _, h1, r1⟩ := trodAll_cons r0
  obtain ⟨rfl, rfl, _⟩ := trodAll_nil r1
  obtain rfl : args = #[v0, v1] := by cases args; simp_all
  obtain ⟨rfl, _⟩ := trodVars_none hV
  obtain ⟨a0, rfl, rfl, _, w0⟩ := open_int Try.underlying5 (hval 0 5 v0 rfl rfl) h0
  obtain ⟨A1, n1, c1, rfl, hn1, hc1, hs1⟩ := read_sliceC (m := 8) (ks := [.i .i64, .i .i64, .i .i64, .i .i64]) Try.underlying54 (by kernel_rfl) (by decide) (by kernel_rfl) (hval 1 54 v1 rfl rfl) h1
  refine (beatDue_walk a0 (bounds_u8 w0) A1 n1 c1 hn1 W hs1).mono fun e W' ⟨he, hg⟩ => ?_
  exact ⟨_, he, post_true laidOut (tb := 4) (by kernel_rfl) Try.underlying4 (by decide +kernel) rfl rfl rfl rfl hW0 hg⟩

theorem beatDue_holds : Rows.BeatDueSaid :=
  OpenClaim.holds_of_wide 5 Try.f5 rfl rfl rfl rfl rfl rfl rfl ⟨rfl, rfl, rfl, rfl, rfl⟩ rfl rfl rfl rfl rfl (by kernel_rfl) Try.func5 (by kernel_rfl)
    (of_decide_eq_true (by kernel_rfl)) (by unfold Func.isWrapper; rw [if_neg (by decide +kernel)]; exact ⟨rfl, rfl⟩)
    (fun os started H enc _ => beatDue_lifted os started H enc)
#print axioms beatDue_holds

end Go.Proofs.Ytliaoaejmmkkjaa

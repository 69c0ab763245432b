/- Each comes when it is due, in order, once: it is so for every row of things and of steps; no condition. -/
import Derived.Test.YtliaoaejmmkkjaaWD2
import Derived.Test.YtliaoaejmmkkjaaRows
import Derived.Test.YtliaoaejmmkkjaaChecked

namespace Go.Proofs.Ytliaoaejmmkkjaa
open Go.RowKit
open Go.RowKit Go.ChangeShapes Go.WideShapes Go.ChangeAt
open Go.Proofs.Ytliaoaejmmkkjaa
theorem own : ownKnob Try.prog.godebug = none := by kernel_rfl
theorem laidOut : laidOutB Try.prog = true := by kernel_rfl
theorem wf16 {x : Int} (h : (Lit.int .u16 x).wf = true) : 0 ≤ x ∧ x ≤ 65535 := by
  simp [Lit.wf] at h; exact h
theorem wf8 {x : Int} (h : (Lit.int .u8 x).wf = true) : 0 ≤ x ∧ x ≤ 255 := by
  simp [Lit.wf] at h; exact h
theorem wheelDue_walk (A : Option Addr) (n c : Nat) (hn : n ≤ c) (B : Option Addr) (m d : Nat) (hm : m ≤ d) (W : World) (hs : SliceAt W A c 1 [.i .u16]) (hs2 : SliceAt W B d 1 [.i .u8]) :
    Calls Try.prog 4 #[.slice A n c, .slice B m d] W fun e W' => e = .returned (.bool true) ∧ Gr W W' := by
  obtain ⟨l, rfl, h1, hl⟩ := SlR_of encH (fun cs => intOf cs 0) (fun x => 0 ≤ x ∧ x ≤ 65535) (by decide) (fun cs h0 => by obtain ⟨_, m1, rfl, ⟨x0, rfl, g0⟩, h1⟩ := All2.cons_inv h0; obtain rfl := All2.nil_inv h1; exact ⟨rfl, wf16 g0⟩) hn hs
  obtain ⟨s, rfl, h2, hl2⟩ := SlR_of encU (fun cs => intOf cs 0) (fun x => 0 ≤ x ∧ x ≤ 255) (by decide) (fun cs h0 => by obtain ⟨_, m1, rfl, ⟨x0, rfl, g0⟩, h1⟩ := All2.cons_inv h0; obtain rfl := All2.nil_inv h1; exact ⟨rfl, wf8 g0⟩) hm hs2
  exact (wheelDue_ct l s h1 h2).calls (.cons hl (.cons hl2 .nil))
set_option maxRecDepth 100000 in
theorem wheelDue_lifted (os : Os) (started : os.Started) (H : Type) (enc : TypeId × Value → H) :
    ReturnsInHanded {} Try.checked os 4 .any (Rows.wheelDueSpec.pre6 enc Try.prog Try.f4 Rows.wheelDueRow.domain false) (Rows.wheelDueSpec.post enc Try.prog Try.f4 false true false false) := by
  refine returnsInHanded_of_change (C := Try.checked) own started (by kernel_rfl) Try.func4
    (ChangeSpec.witness6 (enc := enc) (C := Try.checked) false ⟨#[], #[.slice none 0 0, .slice none 0 0], []⟩ 8 (by kernel_rfl) (by kernel_rfl) (by kernel_rfl) (by kernel_rfl)) ?_
  intro W base args ds gs before hval0 hW _ _
  have hval : ∀ (j : Nat) t v, Try.f4.params[j]? = some t → args[j]? = some v → Value.okWide Try.prog W .any base t v := hval0
  have hW0 := hW
  obtain ⟨p, q, hA0, hV, _, _, _⟩ := hW
  have hA : DataW.TrodAll enc Try.prog W 0 (fun _ => true) true Try.f4.params.toList args.toList ds p := hA0
  rw [Try.params4] at hA hval
  obtain ⟨v0, vs0, d0, ds0, p0, q0, hargs, rfl, _, h0, r0⟩ := trodAll_cons hA
  obtain ⟨v1, vs1, d1, ds1, p1, q1, rfl, rfl, _, h1, r1⟩ := trodAll_cons r0
  obtain ⟨rfl, rfl, _⟩ := trodAll_nil r1
  obtain rfl : args = #[v0, v1] := by cases args; simp_all
  obtain ⟨rfl, _⟩ := trodVars_none hV
  obtain ⟨A0, n0, c0, rfl, hn0, hc0, hs0⟩ := read_sliceC (m := 8) (ks := [.i .u16]) Try.underlying50 (by kernel_rfl) (by decide) (by kernel_rfl) (hval 0 50 v0 rfl rfl) h0
  obtain ⟨A1, n1, c1, rfl, hn1, hc1, hs1⟩ := read_sliceC (m := 8) (ks := [.i .u8]) Try.underlying51 (by kernel_rfl) (by decide) (by kernel_rfl) (hval 1 51 v1 rfl rfl) h1
  refine (wheelDue_walk A0 n0 c0 hn0 A1 n1 c1 hn1 W hs0 hs1).mono fun e W' ⟨he, hg⟩ => ?_
  exact ⟨_, he, post_true laidOut (tb := 4) (by kernel_rfl) Try.underlying4 (by decide +kernel) rfl rfl rfl rfl hW0 hg⟩

theorem wheelDue_holds : Rows.WheelDueSaid :=
  OpenClaim.holds_of_wide 4 Try.f4 rfl rfl rfl rfl rfl rfl rfl ⟨rfl, rfl, rfl, rfl, rfl⟩ rfl rfl rfl rfl rfl (by kernel_rfl) Try.func4 (by kernel_rfl)
    (of_decide_eq_true (by kernel_rfl)) (by unfold Func.isWrapper; rw [if_neg (by decide +kernel)]; exact ⟨rfl, rfl⟩)
    (fun os started H enc _ => wheelDue_lifted os started H enc)
#print axioms wheelDue_holds

end Go.Proofs.Ytliaoaejmmkkjaa

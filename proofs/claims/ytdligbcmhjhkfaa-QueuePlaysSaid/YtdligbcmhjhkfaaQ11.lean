/- What any calls tell of a queue, and who waits behind each: the program's answers are the document's, for every row of calls and every number; no condition. -/
import Derived.Test.YtdligbcmhjhkfaaQ10
import Derived.Test.YtdligbcmhjhkfaaRows
import Derived.Test.YtdligbcmhjhkfaaChecked

namespace Go.Proofs.Ytdligbcmhjhkfaa
open Go.RowKit
open Go.RowKit Go.ChangeShapes Go.WideShapes Go.ChangeAt
open Go.Proofs.Ytdligbcmhjhkfaa
theorem own : ownKnob Try.prog.godebug = none := by kernel_rfl
theorem laidOut : laidOutB Try.prog = true := by kernel_rfl
theorem wf_hi {x : Int} (h : (Lit.int IntKind.i64 x).wf = true) : x ≤ 9223372036854775807 := by
  have := h
  simp [Lit.wf] at this
  exact this.2
def decAJ (cs : List Value) : AJ := (intOf cs 0, ⟨intOf cs 1, intOf cs 2, intOf cs 3, intOf cs 4, intOf cs 5, intOf cs 6, intOf cs 7, intOf cs 8⟩)
theorem queuePlays_walk (A : Option Addr) (n c : Nat) (hn : n ≤ c) (id : Int) (_ : I64 id) (W : World) (hs : SliceAt W A c 9 [.i .i64, .i .i64, .i .i64, .i .i64, .i .i64, .i .i64, .i .i64, .i .i64, .i .i64]) :
    Calls Try.prog 7 #[.slice A n c, .int .i64 id] W fun e W' => e = .returned (.bool true) ∧ Gr W W' := by
  obtain ⟨l, rfl, hpr, hl⟩ := SlR_of encAJ decAJ (fun x => x.2.pr ≤ 9223372036854775807) (by decide) (fun cs h0 => by obtain ⟨_, m1, rfl, ⟨x0, rfl, g0⟩, h1⟩ := All2.cons_inv h0; obtain ⟨_, m2, rfl, ⟨x1, rfl, g1⟩, h2⟩ := All2.cons_inv h1; obtain ⟨_, m3, rfl, ⟨x2, rfl, g2⟩, h3⟩ := All2.cons_inv h2; obtain ⟨_, m4, rfl, ⟨x3, rfl, g3⟩, h4⟩ := All2.cons_inv h3; obtain ⟨_, m5, rfl, ⟨x4, rfl, g4⟩, h5⟩ := All2.cons_inv h4; obtain ⟨_, m6, rfl, ⟨x5, rfl, g5⟩, h6⟩ := All2.cons_inv h5; obtain ⟨_, m7, rfl, ⟨x6, rfl, g6⟩, h7⟩ := All2.cons_inv h6; obtain ⟨_, m8, rfl, ⟨x7, rfl, g7⟩, h8⟩ := All2.cons_inv h7; obtain ⟨_, m9, rfl, ⟨x8, rfl, g8⟩, h9⟩ := All2.cons_inv h8; obtain rfl := All2.nil_inv h9; exact ⟨rfl, wf_hi g2⟩) hn hs
  exact (queuePlays_ct l id hpr).calls (.cons hl (.cons ⟨rfl, rfl⟩ .nil))
set_option maxRecDepth 100000 in
theorem queuePlays_lifted (os : Os) (started : os.Started) (H : Type) (enc : TypeId × Value → H) :
    ReturnsInHanded {} Try.checked os 7 .any (Rows.queuePlaysSpec.pre6 enc Try.prog Try.f7 Rows.queuePlaysRow.domain false) (Rows.queuePlaysSpec.post enc Try.prog Try.f7 false true false false) := by
  refine returnsInHanded_of_change (C := Try.checked) own started (by kernel_rfl) Try.func7
    (ChangeSpec.witness6 (enc := enc) (C := Try.checked) false ⟨#[], #[.slice none 0 0, .int .i64 0], []⟩ 8 (by kernel_rfl) (by kernel_rfl) (by kernel_rfl) (by kernel_rfl)) ?_
  intro W base args ds gs before hval0 hW _ _
  have hval : ∀ (j : Nat) t v, Try.f7.params[j]? = some t → args[j]? = some v → Value.okWide Try.prog W .any base t v := hval0
  have hW0 := hW
  obtain ⟨p, q, hA0, hV, _, _, _⟩ := hW
  have hA : DataW.TrodAll enc Try.prog W 0 (fun _ => true) true Try.f7.params.toList args.toList ds p := hA0
  rw [Try.params7] at hA hval
  obtain ⟨v0, vs0, d0, ds0, p0, q0, hargs, rfl, _, h0, r0⟩ := trodAll_cons hA
  obtain ⟨v1, vs1, d1, ds1, p1, q1, rfl, rfl, _, h1, r1⟩ := trodAll_cons r0
  obtain ⟨rfl, rfl, _⟩ := trodAll_nil r1
  obtain rfl : args = #[v0, v1] := by cases args; simp_all
  obtain ⟨rfl, _⟩ := trodVars_none hV
  obtain ⟨A0, n0, c0, rfl, hn0, hc0, hs0⟩ := read_sliceC (m := 8) (ks := [.i .i64, .i .i64, .i .i64, .i .i64, .i .i64, .i .i64, .i .i64, .i .i64, .i .i64]) Try.underlying57 (by kernel_rfl) (by decide) (by kernel_rfl) (hval 0 57 v0 rfl rfl) h0
  obtain ⟨a1, rfl, rfl, _, w1⟩ := open_int Try.underlying3 (hval 1 3 v1 rfl rfl) h1
  refine (queuePlays_walk A0 n0 c0 hn0 a1 (I64_wf w1) W hs0).mono fun e W' ⟨he, hg⟩ => ?_
  exact ⟨_, he, post_true laidOut (tb := 4) (by kernel_rfl) Try.underlying4 (by decide +kernel) rfl rfl rfl rfl hW0 hg⟩

theorem queuePlays_holds : Rows.QueuePlaysSaid :=
  OpenClaim.holds_of_wide 7 Try.f7 rfl rfl rfl rfl rfl rfl rfl ⟨rfl, rfl, rfl, rfl, rfl⟩ rfl rfl rfl rfl rfl (by kernel_rfl) Try.func7 (by kernel_rfl)
    (of_decide_eq_true (by kernel_rfl)) (by unfold Func.isWrapper; rw [if_neg (by decide +kernel)]; exact ⟨rfl, rfl⟩)
    (fun os started H enc _ => queuePlays_lifted os started H enc)
#print axioms queuePlays_holds

end Go.Proofs.Ytdligbcmhjhkfaa

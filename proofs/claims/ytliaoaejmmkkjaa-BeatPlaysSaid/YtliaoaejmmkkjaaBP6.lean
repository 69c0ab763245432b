/- What any calls tell of a table, and which beats there are behind each: the program's answers are the document's, for every span, every row of calls and every node; no condition. -/
import Derived.Test.YtliaoaejmmkkjaaBP5
import Derived.Test.YtliaoaejmmkkjaaRows
import Derived.Test.YtliaoaejmmkkjaaChecked

namespace Go.Proofs.Ytliaoaejmmkkjaa
open Go.RowKit
open Go.RowKit Go.ChangeShapes Go.WideShapes Go.ChangeAt
open Go.Proofs.Ytliaoaejmmkkjaa
theorem own : ownKnob Try.prog.godebug = none := by kernel_rfl
theorem laidOut : laidOutB Try.prog = true := by kernel_rfl
theorem beatPlays_ct (sp : Int) (l : List A4) (node : Int) : Ct Try.prog 6 none [.v (i64 sp), .rows (flatR encA4 l) l.length, .v (i64 node)] (fun rs _ => rs = [.v (.bool true)]) := by
  cases h : rightB sp 1 64 with
  | true => exact beatPlays_good sp h l node
  | false => exact beatPlays_bad sp h l node
theorem beatPlays_walk (sp : Int) (_ : I64 sp) (A : Option Addr) (n c : Nat) (hn : n ≤ c) (id : Int) (_ : I64 id) (W : World) (hs : SliceAt W A c 4 [.i .i64, .i .i64, .i .i64, .i .i64]) :
    Calls Try.prog 6 #[.int .i64 sp, .slice A n c, .int .i64 id] W fun e W' => e = .returned (.bool true) ∧ Gr W W' := by
  obtain ⟨l, rfl, _, hl⟩ := SlR_of encA4 (fun cs => (intOf cs 0, intOf cs 1, intOf cs 2, intOf cs 3)) (fun _ => True) (by decide) (fun cs h0 => by obtain ⟨_, m1, rfl, ⟨x0, rfl, _⟩, h1⟩ := All2.cons_inv h0; obtain ⟨_, m2, rfl, ⟨x1, rfl, _⟩, h2⟩ := All2.cons_inv h1; obtain ⟨_, m3, rfl, ⟨x2, rfl, _⟩, h3⟩ := All2.cons_inv h2; obtain ⟨_, m4, rfl, ⟨x3, rfl, _⟩, h4⟩ := All2.cons_inv h3; obtain rfl := All2.nil_inv h4; exact ⟨rfl, trivial⟩) hn hs
  exact (beatPlays_ct sp l id).calls (.cons ⟨rfl, rfl⟩ (.cons hl (.cons ⟨rfl, rfl⟩ .nil)))
set_option maxRecDepth 100000 in
theorem beatPlays_lifted (os : Os) (started : os.Started) (H : Type) (enc : TypeId × Value → H) :
    ReturnsInHanded {} Try.checked os 6 .any (Rows.beatPlaysSpec.pre6 enc Try.prog Try.f6 Rows.beatPlaysRow.domain false) (Rows.beatPlaysSpec.post enc Try.prog Try.f6 false true false false) := by
  refine returnsInHanded_of_change (C := Try.checked) own started (by kernel_rfl) Try.func6
    (ChangeSpec.witness6 (enc := enc) (C := Try.checked) false ⟨#[], #[.int .i64 0, .slice none 0 0, .int .i64 0], []⟩ 8 (by kernel_rfl) (by kernel_rfl) (by kernel_rfl) (by kernel_rfl)) ?_
  intro W base args ds gs before hval0 hW _ _
  have hval : ∀ (j : Nat) t v, Try.f6.params[j]? = some t → args[j]? = some v → Value.okWide Try.prog W .any base t v := hval0
  have hW0 := hW
  obtain ⟨p, q, hA0, hV, _, _, _⟩ := hW
  have hA : DataW.TrodAll enc Try.prog W 0 (fun _ => true) true Try.f6.params.toList args.toList ds p := hA0
  rw [Try.params6] at hA hval
  obtain ⟨v0, vs0, d0, ds0, p0, q0, hargs, rfl, _, h0, r0⟩ := trodAll_cons hA
  obtain ⟨v1, vs1, d1, ds1, p1, q1, rfl, rfl, _, h1, r1⟩ := trodAll_cons r0
  obtain ⟨v2, vs2, d2, ds2, p2, q2, rfl, rfl, _, h2, r2⟩ := trodAll_cons r1
  obtain ⟨rfl, rfl, _⟩ := trodAll_nil r2
  obtain rfl : args = #[v0, v1, v2] := by cases args; simp_all
  obtain ⟨rfl, _⟩ := trodVars_none hV
  obtain ⟨a0, rfl, rfl, _, w0⟩ := open_int Try.underlying3 (hval 0 3 v0 rfl rfl) h0
  obtain ⟨A1, n1, c1, rfl, hn1, hc1, hs1⟩ := read_sliceC (m := 8) (ks := [.i .i64, .i .i64, .i .i64, .i .i64]) Try.underlying54 (by kernel_rfl) (by decide) (by kernel_rfl) (hval 1 54 v1 rfl rfl) h1
  obtain ⟨a2, rfl, rfl, _, w2⟩ := open_int Try.underlying3 (hval 2 3 v2 rfl rfl) h2
  refine (beatPlays_walk a0 (I64_wf w0) A1 n1 c1 hn1 a2 (I64_wf w2) W hs1).mono fun e W' ⟨he, hg⟩ => ?_
  exact ⟨_, he, post_true laidOut (tb := 4) (by kernel_rfl) Try.underlying4 (by decide +kernel) rfl rfl rfl rfl hW0 hg⟩

theorem beatPlays_holds : Rows.BeatPlaysSaid :=
  OpenClaim.holds_of_wide 6 Try.f6 rfl rfl rfl rfl rfl rfl rfl ⟨rfl, rfl, rfl, rfl, rfl⟩ rfl rfl rfl rfl rfl (by kernel_rfl) Try.func6 (by kernel_rfl)
    (of_decide_eq_true (by kernel_rfl)) (by unfold Func.isWrapper; rw [if_neg (by decide +kernel)]; exact ⟨rfl, rfl⟩)
    (fun os started H enc _ => beatPlays_lifted os started H enc)
#print axioms beatPlays_holds

end Go.Proofs.Ytliaoaejmmkkjaa

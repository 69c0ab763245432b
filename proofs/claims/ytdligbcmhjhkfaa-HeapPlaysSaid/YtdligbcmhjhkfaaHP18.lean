/- What any calls tell of a heap, and what is there behind each: the program's answers are the document's, for every row of calls, every thing and every two keys; no condition. -/
import Derived.Test.YtdligbcmhjhkfaaHP17
import Derived.Test.YtdligbcmhjhkfaaRows
import Derived.Test.YtdligbcmhjhkfaaChecked

namespace Go.Proofs.Ytdligbcmhjhkfaa
open Go.RowKit
open Go.RowKit Go.ChangeShapes Go.WideShapes Go.ChangeAt
open Go.Proofs.Ytdligbcmhjhkfaa
theorem own : ownKnob Try.prog.godebug = none := by kernel_rfl
theorem laidOut : laidOutB Try.prog = true := by kernel_rfl
theorem heapPlays_walk (A : Option Addr) (n c : Nat) (hn : n ≤ c) (id : Int) (_ : I64 id) (a0 : Int) (_ : I64 a0) (a1 : Int) (_ : I64 a1) (a2 : Int) (_ : I64 a2) (b0 : Int) (_ : I64 b0) (b1 : Int) (_ : I64 b1) (b2 : Int) (_ : I64 b2) (W : World) (hs : SliceAt W A c 5 [.i .i64, .i .i64, .i .i64, .i .i64, .i .i64]) :
    Calls Try.prog 4 #[.slice A n c, .int .i64 id, .agg #[.int .i64 a0, .int .i64 a1, .int .i64 a2, .int .i64 b0, .int .i64 b1, .int .i64 b2]] W fun e W' => e = .returned (.bool true) ∧ Gr W W' := by
  obtain ⟨l, rfl, _, hl⟩ := SlR_of encA (fun cs => (intOf cs 0, intOf cs 1, intOf cs 2, intOf cs 3, intOf cs 4)) (fun _ => True) (by decide) (fun cs h0 => by obtain ⟨_, m1, rfl, ⟨x0, rfl, _⟩, h1⟩ := All2.cons_inv h0; obtain ⟨_, m2, rfl, ⟨x1, rfl, _⟩, h2⟩ := All2.cons_inv h1; obtain ⟨_, m3, rfl, ⟨x2, rfl, _⟩, h3⟩ := All2.cons_inv h2; obtain ⟨_, m4, rfl, ⟨x3, rfl, _⟩, h4⟩ := All2.cons_inv h3; obtain ⟨_, m5, rfl, ⟨x4, rfl, _⟩, h5⟩ := All2.cons_inv h4; obtain rfl := All2.nil_inv h5; exact ⟨rfl, trivial⟩) hn hs
  exact (heapPlays_ct l id a0 a1 a2 b0 b1 b2).calls (.cons hl (.cons ⟨rfl, rfl⟩ (.cons ⟨rfl, rfl⟩ .nil)))
set_option maxRecDepth 100000 in
theorem heapPlays_lifted (os : Os) (started : os.Started) (H : Type) (enc : TypeId × Value → H) :
    ReturnsInHanded {} Try.checked os 4 .any (Rows.heapPlaysSpec.pre6 enc Try.prog Try.f4 Rows.heapPlaysRow.domain false) (Rows.heapPlaysSpec.post enc Try.prog Try.f4 false true false false) := by
  refine returnsInHanded_of_change (C := Try.checked) own started (by kernel_rfl) Try.func4
    (ChangeSpec.witness6 (enc := enc) (C := Try.checked) false ⟨#[], #[.slice none 0 0, .int .i64 0, .agg #[.int .i64 0, .int .i64 0, .int .i64 0, .int .i64 0, .int .i64 0, .int .i64 0]], []⟩ 8 (by kernel_rfl) (by kernel_rfl) (by kernel_rfl) (by kernel_rfl)) ?_
  intro W base args ds gs before hval0 hW _ _
  have hval : ∀ (j : Nat) t v, Try.f4.params[j]? = some t → args[j]? = some v → Value.okWide Try.prog W .any base t v := hval0
  have hW0 := hW
  obtain ⟨p, q, hA0, hV, _, _, _⟩ := hW
  have hA : DataW.TrodAll enc Try.prog W 0 (fun _ => true) true Try.f4.params.toList args.toList ds p := hA0
  rw [Try.params4] at hA hval
  obtain ⟨v0, vs0, d0, ds0, p0, q0, hargs, rfl, _, h0, r0⟩ := trodAll_cons hA
  obtain ⟨v1, vs1, d1, ds1, p1, q1, rfl, rfl, _, h1, r1⟩ := trodAll_cons r0
  obtain ⟨v2, vs2, d2, ds2, p2, q2, rfl, rfl, _, h2, r2⟩ := trodAll_cons r1
  obtain ⟨rfl, rfl, _⟩ := trodAll_nil r2
  obtain rfl : args = #[v0, v1, v2] := by cases args; simp_all
  obtain ⟨rfl, _⟩ := trodVars_none hV
  obtain ⟨A0, n0, c0, rfl, hn0, hc0, hs0⟩ := read_sliceC (m := 8) (ks := [.i .i64, .i .i64, .i .i64, .i .i64, .i .i64]) Try.underlying22 (by kernel_rfl) (by decide) (by kernel_rfl) (hval 0 22 v0 rfl rfl) h0
  obtain ⟨a1, rfl, rfl, _, w1⟩ := open_int Try.underlying3 (hval 1 3 v1 rfl rfl) h1
  obtain ⟨cs2, rfl, ha2⟩ := read_agg (m := 8) (ks := [.i .i64, .i .i64, .i .i64, .i .i64, .i .i64, .i .i64]) (by kernel_rfl) (by kernel_rfl) (hval 2 39 v2 rfl rfl) h2
  obtain ⟨_, m2_0, rfl, ⟨x2_0, rfl, w2_0⟩, t2_0⟩ := All2.cons_inv ha2
  obtain ⟨_, m2_1, rfl, ⟨x2_1, rfl, w2_1⟩, t2_1⟩ := All2.cons_inv t2_0
  obtain ⟨_, m2_2, rfl, ⟨x2_2, rfl, w2_2⟩, t2_2⟩ := All2.cons_inv t2_1
  obtain ⟨_, m2_3, rfl, ⟨x2_3, rfl, w2_3⟩, t2_3⟩ := All2.cons_inv t2_2
  obtain ⟨_, m2_4, rfl, ⟨x2_4, rfl, w2_4⟩, t2_4⟩ := All2.cons_inv t2_3
  obtain ⟨_, m2_5, rfl, ⟨x2_5, rfl, w2_5⟩, t2_5⟩ := All2.cons_inv t2_4
  obtain rfl := All2.nil_inv t2_5
  refine (heapPlays_walk A0 n0 c0 hn0 a1 (I64_wf w1) x2_0 (I64_wf w2_0) x2_1 (I64_wf w2_1) x2_2 (I64_wf w2_2) x2_3 (I64_wf w2_3) x2_4 (I64_wf w2_4) x2_5 (I64_wf w2_5) W hs0).mono fun e W' ⟨he, hg⟩ => ?_
  exact ⟨_, he, post_true laidOut (tb := 4) (by kernel_rfl) Try.underlying4 (by decide +kernel) rfl rfl rfl rfl hW0 hg⟩

theorem heapPlays_holds : Rows.HeapPlaysSaid :=
  OpenClaim.holds_of_wide 4 Try.f4 rfl rfl rfl rfl rfl rfl rfl ⟨rfl, rfl, rfl, rfl, rfl⟩ rfl rfl rfl rfl rfl (by kernel_rfl) Try.func4 (by kernel_rfl)
    (of_decide_eq_true (by kernel_rfl)) (by unfold Func.isWrapper; rw [if_neg (by decide +kernel)]; exact ⟨rfl, rfl⟩)
    (fun os started H enc _ => heapPlays_lifted os started H enc)
#print axioms heapPlays_holds

end Go.Proofs.Ytdligbcmhjhkfaa

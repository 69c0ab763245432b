/- Which nodes may be, which join, and what any step with any node comes to: the program's answer is the reference's, at every node and every act; no condition. -/
import Derived.Test.YtpicmpfcmgocmaaM5
import Derived.Test.YtpicmpfcmgocmaaRows
import Derived.Test.YtpicmpfcmgocmaaChecked

namespace Go.Proofs.Ytpicmpfcmgocmaa
open Go.RowKit
open Go.RowKit Go.ChangeShapes Go.WideShapes Go.ChangeAt
theorem own : ownKnob Try.prog.godebug = none := by kernel_rfl
theorem laidOut : laidOutB Try.prog = true := by kernel_rfl
theorem nodeSteps_walk (id : Int) (_ : I64 id) (inc : Int) (_ : I64 inc) (ld : Int) (_ : I64 ld) (c0 : Int) (_ : I64 c0) (c1 : Int) (_ : I64 c1) (c2 : Int) (_ : I64 c2) (u0 : Int) (_ : I64 u0) (u1 : Int) (_ : I64 u1) (u2 : Int) (_ : I64 u2) (up : Bool)
    (k : Int) (_ : I64 k) (x : Int) (_ : I64 x) (a : Int) (_ : I64 a) (b : Int) (_ : I64 b) (c : Int) (_ : I64 c) (W : World) :
    Calls Try.prog 11 #[nodeV id inc ld c0 c1 c2 u0 u1 u2 up, actV k x a b c] W fun e W' => e = .returned (.bool true) ∧ Gr W W' :=
  (nodeSteps_s id inc ld c0 c1 c2 u0 u1 u2 up k x a b c).calls rfl W
set_option maxRecDepth 100000 in
theorem nodeSteps_lifted (os : Os) (started : os.Started) (H : Type) (enc : TypeId × Value → H) :
    ReturnsInHanded {} Try.checked os 11 .any (Rows.nodeStepsSpec.pre6 enc Try.prog Try.f11 Rows.nodeStepsRow.domain false) (Rows.nodeStepsSpec.post enc Try.prog Try.f11 false true false false) := by
  refine returnsInHanded_of_change (C := Try.checked) own started (by kernel_rfl) Try.func11
    (ChangeSpec.witness6 (enc := enc) (C := Try.checked) false ⟨#[], #[.agg #[.int .i64 0, .int .i64 0, .int .i64 0, .int .i64 0, .int .i64 0, .int .i64 0, .int .i64 0, .int .i64 0, .int .i64 0, .bool false], .agg #[.int .i64 0, .int .i64 0, .int .i64 0, .int .i64 0, .int .i64 0]], []⟩ 8 (by kernel_rfl) (by kernel_rfl) (by kernel_rfl) (by kernel_rfl)) ?_
  intro W base args ds gs before hval0 hW _ _
  have hval : ∀ (j : Nat) t v, Try.f11.params[j]? = some t → args[j]? = some v → Value.okWide Try.prog W .any base t v := hval0
  have hW0 := hW
  obtain ⟨p, q, hA0, hV, _, _, _⟩ := hW
  have hA : DataW.TrodAll enc Try.prog W 0 (fun _ => true) true Try.f11.params.toList args.toList ds p := hA0
  rw [Try.params11] at hA hval
  obtain ⟨v0, vs0, d0, ds0, p0, q0, hargs, rfl, _, h0, r0⟩ := trodAll_cons hA
  obtain ⟨v1, vs1, d1, ds1, p1, q1, rfl, rfl, _, h1, r1⟩ := trodAll_cons r0
  obtain ⟨rfl, rfl, _⟩ := trodAll_nil r1
  obtain rfl : args = #[v0, v1] := by cases args; simp_all
  obtain ⟨rfl, _⟩ := trodVars_none hV
  obtain ⟨cs0, rfl, ha0⟩ := read_agg (m := 8) (ks := [.i .i64, .i .i64, .i .i64, .i .i64, .i .i64, .i .i64, .i .i64, .i .i64, .i .i64, .b]) (by kernel_rfl) (by kernel_rfl) (hval 0 70 v0 rfl rfl) h0
  obtain ⟨_, m0_0, rfl, ⟨x0_0, rfl, w0_0⟩, t0_0⟩ := All2.cons_inv ha0
  obtain ⟨_, m0_1, rfl, ⟨x0_1, rfl, w0_1⟩, t0_1⟩ := All2.cons_inv t0_0
  obtain ⟨_, m0_2, rfl, ⟨x0_2, rfl, w0_2⟩, t0_2⟩ := All2.cons_inv t0_1
  obtain ⟨_, m0_3, rfl, ⟨x0_3, rfl, w0_3⟩, t0_3⟩ := All2.cons_inv t0_2
  obtain ⟨_, m0_4, rfl, ⟨x0_4, rfl, w0_4⟩, t0_4⟩ := All2.cons_inv t0_3
  obtain ⟨_, m0_5, rfl, ⟨x0_5, rfl, w0_5⟩, t0_5⟩ := All2.cons_inv t0_4
  obtain ⟨_, m0_6, rfl, ⟨x0_6, rfl, w0_6⟩, t0_6⟩ := All2.cons_inv t0_5
  obtain ⟨_, m0_7, rfl, ⟨x0_7, rfl, w0_7⟩, t0_7⟩ := All2.cons_inv t0_6
  obtain ⟨_, m0_8, rfl, ⟨x0_8, rfl, w0_8⟩, t0_8⟩ := All2.cons_inv t0_7
  obtain ⟨_, m0_9, rfl, ⟨x0_9, rfl⟩, t0_9⟩ := All2.cons_inv t0_8
  obtain rfl := All2.nil_inv t0_9
  obtain ⟨cs1, rfl, ha1⟩ := read_agg (m := 8) (ks := [.i .i64, .i .i64, .i .i64, .i .i64, .i .i64]) (by kernel_rfl) (by kernel_rfl) (hval 1 72 v1 rfl rfl) h1
  obtain ⟨_, m1_0, rfl, ⟨x1_0, rfl, w1_0⟩, t1_0⟩ := All2.cons_inv ha1
  obtain ⟨_, m1_1, rfl, ⟨x1_1, rfl, w1_1⟩, t1_1⟩ := All2.cons_inv t1_0
  obtain ⟨_, m1_2, rfl, ⟨x1_2, rfl, w1_2⟩, t1_2⟩ := All2.cons_inv t1_1
  obtain ⟨_, m1_3, rfl, ⟨x1_3, rfl, w1_3⟩, t1_3⟩ := All2.cons_inv t1_2
  obtain ⟨_, m1_4, rfl, ⟨x1_4, rfl, w1_4⟩, t1_4⟩ := All2.cons_inv t1_3
  obtain rfl := All2.nil_inv t1_4
  refine (nodeSteps_walk x0_0 (I64_wf w0_0) x0_1 (I64_wf w0_1) x0_2 (I64_wf w0_2) x0_3 (I64_wf w0_3) x0_4 (I64_wf w0_4) x0_5 (I64_wf w0_5) x0_6 (I64_wf w0_6) x0_7 (I64_wf w0_7) x0_8 (I64_wf w0_8) x0_9 x1_0 (I64_wf w1_0) x1_1 (I64_wf w1_1) x1_2 (I64_wf w1_2) x1_3 (I64_wf w1_3) x1_4 (I64_wf w1_4) W ).mono fun e W' ⟨he, hg⟩ => ?_
  exact ⟨_, he, post_true laidOut (tb := 4) (by kernel_rfl) Try.underlying4 (by decide +kernel) rfl rfl rfl rfl hW0 hg⟩

theorem nodeSteps_holds : Rows.NodeStepsSaid :=
  OpenClaim.holds_of_wide 11 Try.f11 rfl rfl rfl rfl rfl rfl rfl ⟨rfl, rfl, rfl, rfl, rfl⟩ rfl rfl rfl rfl rfl (by kernel_rfl) Try.func11 (by kernel_rfl)
    (of_decide_eq_true (by kernel_rfl)) (by unfold Func.isWrapper; rw [if_neg (by decide +kernel)]; exact ⟨rfl, rfl⟩)
    (fun os started H enc _ => nodeSteps_lifted os started H enc)
#print axioms nodeSteps_holds

end Go.Proofs.Ytpicmpfcmgocmaa

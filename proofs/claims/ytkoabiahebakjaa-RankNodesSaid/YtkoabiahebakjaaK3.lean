/- Which of two nodes is ahead, any node's key, what is free of it, and which job may run there: the program's answer is the reference's, at every two nodes and every need; no condition. -/
import Derived.Test.YtkoabiahebakjaaK2
import Derived.Test.YtkoabiahebakjaaRows
import Derived.Test.YtkoabiahebakjaaChecked

namespace Go.Proofs.Ytkoabiahebakjaa
open Go.RowKit
open Go.RowKit Go.ChangeShapes Go.WideShapes Go.ChangeAt
theorem own : ownKnob Try.prog.godebug = none := by kernel_rfl
theorem laidOut : laidOutB Try.prog = true := by kernel_rfl
theorem rankNodes_s (id inc ld c0 c1 c2 u0 u1 u2 : Int) (up : Bool) (id' inc' ld' c0' c1' c2' u0' u1' u2' : Int) (up' : Bool) (x y z : Int) : Pure Try.prog 0 4 [nodeV id inc ld c0 c1 c2 u0 u1 u2 up, nodeV id' inc' ld' c0' c1' c2' u0' u1' u2' up', r3 x y z] (fun v => v = .bool true) := by
  refine Pure.body tt_ok mixed Try.func4 rfl (Nat.le_of_ble_eq_true rfl) ?_
  (conv => whnf)
  repeat' (first | (refine CallG.val (nodeL_s _ _ _ _ _ _ _ _ _ _ _ _ _ _ _ _ _ _ _ _) pl17 rfl (Nat.zero_le _) ?_; (conv => whnf)) | (refine CallG.val (refNodeL_s _ _ _ _ _ _ _ _ _ _ _ _ _ _ _ _ _ _ _ _) pl18 rfl (Nat.zero_le _) ?_; (conv => whnf)) | (refine CallG.val (nodeKey_s _ _ _ _ _ _ _ _ _ _) pl19 rfl (Nat.zero_le _) ?_; (conv => whnf)) | (refine CallG.val (free_s _ _ _ _ _ _ _ _ _ _) pl20 rfl (Nat.zero_le _) ?_; (conv => whnf)) | (refine CallG.val (refFree_s _ _ _ _ _ _ _ _ _ _) pl21 rfl (Nat.zero_le _) ?_; (conv => whnf)) | (refine CallG.val (takes_s _ _ _ _ _ _ _ _ _ _ _ _ _) pl22 rfl (Nat.zero_le _) ?_; (conv => whnf)) | (refine CallG.val (refTakes_s _ _ _ _ _ _ _ _ _ _ _ _ _) pl23 rfl (Nat.zero_le _) ?_; (conv => whnf)) | (refine CallG.val (awake10_s) pl9 rfl (Nat.zero_le _) ?_; (conv => whnf)) | (refine @And.intro (chkAll _ = true) _ ?_ ?_; (· kernel_rfl); (conv => whnf)) | (refine both_intro ?_ ?_ <;> (conv => whnf)) | (refine And.intro ?_ ?_; (· (first | decide | omega | exact keepP_same _ _ _ | (repeat (first | exact trivial | refine And.intro rfl ?_)))); (conv => whnf)) | (refine fun (nc : Nat) (hnc : _ ≤ nc) => ?_; (conv => whnf)) | (refine bif2_true ?_ ?_; (· assumption); (conv => whnf)) | (refine bif2_false ?_ ?_; (· assumption); (conv => whnf)) | (refine bif2_split (fun h => ?_) (fun h => ?_) <;> (conv => whnf)))
  all_goals (refine ⟨?_, rfl⟩; simp_all)
theorem rankNodes_walk (id : Int) (_ : I64 id) (inc : Int) (_ : I64 inc) (ld : Int) (_ : I64 ld) (c0 : Int) (_ : I64 c0) (c1 : Int) (_ : I64 c1) (c2 : Int) (_ : I64 c2) (u0 : Int) (_ : I64 u0) (u1 : Int) (_ : I64 u1) (u2 : Int) (_ : I64 u2) (up : Bool) (id' : Int) (_ : I64 id') (inc' : Int) (_ : I64 inc') (ld' : Int) (_ : I64 ld') (c0' : Int) (_ : I64 c0') (c1' : Int) (_ : I64 c1') (c2' : Int) (_ : I64 c2') (u0' : Int) (_ : I64 u0') (u1' : Int) (_ : I64 u1') (u2' : Int) (_ : I64 u2') (up' : Bool) (x : Int) (_ : I64 x) (y : Int) (_ : I64 y) (z : Int) (_ : I64 z) (W : World) :
    Calls Try.prog 4 #[nodeV id inc ld c0 c1 c2 u0 u1 u2 up, nodeV id' inc' ld' c0' c1' c2' u0' u1' u2' up', r3 x y z] W fun e W' => e = .returned (.bool true) ∧ Gr W W' :=
  (rankNodes_s id inc ld c0 c1 c2 u0 u1 u2 up id' inc' ld' c0' c1' c2' u0' u1' u2' up' x y z).calls rfl W
set_option maxRecDepth 100000 in
theorem rankNodes_lifted (os : Os) (started : os.Started) (H : Type) (enc : TypeId × Value → H) :
    ReturnsInHanded {} Try.checked os 4 .any (Rows.rankNodesSpec.pre6 enc Try.prog Try.f4 Rows.rankNodesRow.domain false) (Rows.rankNodesSpec.post enc Try.prog Try.f4 false true false false) := by
  refine returnsInHanded_of_change (C := Try.checked) own started (by kernel_rfl) Try.func4
    (ChangeSpec.witness6 (enc := enc) (C := Try.checked) false ⟨#[], #[.agg #[.int .i64 0, .int .i64 0, .int .i64 0, .int .i64 0, .int .i64 0, .int .i64 0, .int .i64 0, .int .i64 0, .int .i64 0, .bool false], .agg #[.int .i64 0, .int .i64 0, .int .i64 0, .int .i64 0, .int .i64 0, .int .i64 0, .int .i64 0, .int .i64 0, .int .i64 0, .bool false], .agg #[.int .i64 0, .int .i64 0, .int .i64 0]], []⟩ 8 (by kernel_rfl) (by kernel_rfl) (by kernel_rfl) (by kernel_rfl)) ?_
  intro W base args ds gs before hval0 hW _ _
  have hval : ∀ (j : Nat) t v, Try.f4.params[j]? = some t → args[j]? = some v → Value.okWide Try.prog W .any base t v := hval0
  have hW0 := hW
  obtain ⟨p, q, hA0, hV, _, _, _⟩ := hW
  have hA : DataW.TrodAll enc Try.prog W 0 (fun _ => true) true Try.f4.params.toList args.toList ds p := hA0
  rw [Try.params4] at hA hval
  obtain ⟨v0, vs0, d0, ds0, p0, q0, hargs, rfl, _, h0, r0⟩ := trodAll_cons hA
  obtain ⟨v1, vs1, d1, ds1, p1, q1, rfl, rfl, _, h1, r1⟩ := trodAll_cons r0
  obtain ⟨v2, vs2, d2, ds2, p2, q2, rfl, rfl, _, h2, r2⟩ := trodAll_cons r1
  obtain ⟨rfl, rfl, _⟩ := trodAll_nil r2
  obtain rfl : args = #[v0, v1, v2] := by cases args; simp_all
  obtain ⟨rfl, _⟩ := trodVars_none hV
  obtain ⟨cs0, rfl, ha0⟩ := read_agg (m := 8) (ks := [.i .i64, .i .i64, .i .i64, .i .i64, .i .i64, .i .i64, .i .i64, .i .i64, .i .i64, .b]) (by kernel_rfl) (by kernel_rfl) (hval 0 36 v0 rfl rfl) h0
  obtain ⟨_, m0_0, rfl, ⟨x0_0, rfl, w0_0⟩, t0_0⟩ := All2.cons_inv ha0
  obtain ⟨_, m0_1, rfl, ⟨x0_1, rfl, w0_1⟩, t0_1⟩ := All2.cons_inv t0_0
  obtain ⟨_, m0_2, rfl, ⟨x0_2, rfl, w0_2⟩, t0_2⟩ := All2.cons_inv t0_1
  obtain ⟨_, m0_3, rfl, ⟨x0_3, rfl, w0_3⟩, t0_3⟩ := All2.cons_inv t0_2
  obtain ⟨_, m0_4, rfl, ⟨x0_4, rfl, w0_4⟩, t0_4⟩ := All2.cons_inv t0_3
  obtain ⟨_, m0_5, rfl, ⟨x0_5, rfl, w0_5⟩, t0_5⟩ := All2.cons_inv t0_4
  obtain ⟨_, m0_6, rfl, ⟨x0_6, rfl, w0_6⟩, t0_6⟩ := All2.cons_inv t0_5
  obtain ⟨_, m0_7, rfl, ⟨x0_7, rfl, w0_7⟩, t0_7⟩ := All2.cons_inv t0_6
  obtain ⟨_, m0_8, rfl, ⟨x0_8, rfl, w0_8⟩, t0_8⟩ := All2.cons_inv t0_7
  obtain ⟨_, m0_9, rfl, ⟨x0_9, rfl⟩, t0_9⟩ := All2.cons_inv t0_8
  obtain rfl := All2.nil_inv t0_9
  obtain ⟨cs1, rfl, ha1⟩ := read_agg (m := 8) (ks := [.i .i64, .i .i64, .i .i64, .i .i64, .i .i64, .i .i64, .i .i64, .i .i64, .i .i64, .b]) (by kernel_rfl) (by kernel_rfl) (hval 1 36 v1 rfl rfl) h1
  obtain ⟨_, m1_0, rfl, ⟨x1_0, rfl, w1_0⟩, t1_0⟩ := All2.cons_inv ha1
  obtain ⟨_, m1_1, rfl, ⟨x1_1, rfl, w1_1⟩, t1_1⟩ := All2.cons_inv t1_0
  obtain ⟨_, m1_2, rfl, ⟨x1_2, rfl, w1_2⟩, t1_2⟩ := All2.cons_inv t1_1
  obtain ⟨_, m1_3, rfl, ⟨x1_3, rfl, w1_3⟩, t1_3⟩ := All2.cons_inv t1_2
  obtain ⟨_, m1_4, rfl, ⟨x1_4, rfl, w1_4⟩, t1_4⟩ := All2.cons_inv t1_3
  obtain ⟨_, m1_5, rfl, ⟨x1_5, rfl, w1_5⟩, t1_5⟩ := All2.cons_inv t1_4
  obtain ⟨_, m1_6, rfl, ⟨x1_6, rfl, w1_6⟩, t1_6⟩ := All2.cons_inv t1_5
  obtain ⟨_, m1_7, rfl, ⟨x1_7, rfl, w1_7⟩, t1_7⟩ := All2.cons_inv t1_6
  obtain ⟨_, m1_8, rfl, ⟨x1_8, rfl, w1_8⟩, t1_8⟩ := All2.cons_inv t1_7
  obtain ⟨_, m1_9, rfl, ⟨x1_9, rfl⟩, t1_9⟩ := All2.cons_inv t1_8
  obtain rfl := All2.nil_inv t1_9
  obtain ⟨cs2, rfl, ha2⟩ := read_agg (m := 8) (ks := [.i .i64, .i .i64, .i .i64]) (by kernel_rfl) (by kernel_rfl) (hval 2 23 v2 rfl rfl) h2
  obtain ⟨_, m2_0, rfl, ⟨x2_0, rfl, w2_0⟩, t2_0⟩ := All2.cons_inv ha2
  obtain ⟨_, m2_1, rfl, ⟨x2_1, rfl, w2_1⟩, t2_1⟩ := All2.cons_inv t2_0
  obtain ⟨_, m2_2, rfl, ⟨x2_2, rfl, w2_2⟩, t2_2⟩ := All2.cons_inv t2_1
  obtain rfl := All2.nil_inv t2_2
  refine (rankNodes_walk x0_0 (I64_wf w0_0) x0_1 (I64_wf w0_1) x0_2 (I64_wf w0_2) x0_3 (I64_wf w0_3) x0_4 (I64_wf w0_4) x0_5 (I64_wf w0_5) x0_6 (I64_wf w0_6) x0_7 (I64_wf w0_7) x0_8 (I64_wf w0_8) x0_9 x1_0 (I64_wf w1_0) x1_1 (I64_wf w1_1) x1_2 (I64_wf w1_2) x1_3 (I64_wf w1_3) x1_4 (I64_wf w1_4) x1_5 (I64_wf w1_5) x1_6 (I64_wf w1_6) x1_7 (I64_wf w1_7) x1_8 (I64_wf w1_8) x1_9 x2_0 (I64_wf w2_0) x2_1 (I64_wf w2_1) x2_2 (I64_wf w2_2) W ).mono fun e W' ⟨he, hg⟩ => ?_
  exact ⟨_, he, post_true laidOut (tb := 4) (by kernel_rfl) Try.underlying4 (by decide +kernel) rfl rfl rfl rfl hW0 hg⟩

theorem rankNodes_holds : Rows.RankNodesSaid :=
  OpenClaim.holds_of_wide 4 Try.f4 rfl rfl rfl rfl rfl rfl rfl ⟨rfl, rfl, rfl, rfl, rfl⟩ rfl rfl rfl rfl rfl (by kernel_rfl) Try.func4 (by kernel_rfl)
    (of_decide_eq_true (by kernel_rfl)) (by unfold Func.isWrapper; rw [if_neg (by decide +kernel)]; exact ⟨rfl, rfl⟩)
    (fun os started H enc _ => rankNodes_lifted os started H enc)
#print axioms rankNodes_holds

end Go.Proofs.Ytkoabiahebakjaa

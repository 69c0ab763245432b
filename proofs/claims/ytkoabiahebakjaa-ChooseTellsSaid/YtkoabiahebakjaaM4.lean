/- Contracts of functions of the program and of the reference: what each call comes to. -/
import Derived.Test.YtkoabiahebakjaaM3
namespace Go.Proofs.Ytkoabiahebakjaa
open Go.RowKit
theorem refNodeRight_s (id inc ld c0 c1 c2 u0 u1 u2 : Int) (up : Bool) : Pure Try.prog 0 59 [nodeV id inc ld c0 c1 c2 u0 u1 u2 up] (fun v => v = .bool (nodeB id inc ld c0 c1 c2 u0 u1 u2 up)) := by
  cases up
  all_goals
    refine Pure.body tt_ok mixed Try.func59 rfl (Nat.le_of_ble_eq_true rfl) ?_
    (conv => whnf)
    repeat' (first | (refine CallG.val (refRight_s _ _ _) pl60 rfl (Nat.zero_le _) ?_; (conv => whnf)) | (refine CallG.val (refFits_s _ _ _ _ _ _) pl62 rfl (Nat.zero_le _) ?_; (conv => whnf)) | (refine @And.intro (chkAll _ = true) _ ?_ ?_; (· kernel_rfl); (conv => whnf)) | (refine JoinG.direct ?_; (conv => whnf)) | (refine AppG.mk ?_; (conv => whnf)) | (refine both_intro ?_ ?_ <;> (conv => whnf)) | (exact VR.int _ _) | (exact VR.bool _) | (refine VR.ptr ?_; kernel_rfl) | (refine VR.slice ?_; kernel_rfl) | (exact VR.sliceN _ _) | (refine VR.map ?_; kernel_rfl) | (exact VR.clean _ rfl) | (refine VR.aggOf ?_) | (refine OR.cellsOf ?_) | (exact AR.same _ rfl) | (exact trivial) | (refine amb_no ?_ ?_; (· exact Nat.succ_ne_zero _); (conv => whnf)) | (refine And.intro ?_ ?_; (· (first | decide | omega | (simp only [IntKind.wrap_i64]; omega) | (simp only [List.length_append]; omega) | (simp only [IntKind.wrap_i64, List.length_append]; omega) | (simp only [IntKind.wrap_i64, List.length_append, Int.natCast_add]; omega) | exact keepP_same _ _ _ | (repeat (first | exact trivial | refine And.intro rfl ?_)))); (conv => whnf)) | (refine fun (nc : Nat) (hnc : _ ≤ nc) => ?_; (conv => whnf)) | (refine bif2_true ?_ ?_; (· assumption); (conv => whnf)) | (refine bif2_false ?_ ?_; (· assumption); (conv => whnf)) | (refine bif2_split (fun h => ?_) (fun h => ?_) <;> (conv => whnf)))
    all_goals (refine ⟨?_, rfl⟩; simp_all [nodeB, rightB])
    all_goals try omega
theorem refNew_s (id inc a b c : Int) : Pure Try.prog 0 61 [i64 id, i64 inc, r3 a b c] (fun v => v = nodeR (newE id inc a b c) id inc 0 a b c 0 0 0 true) := by
  refine Pure.body tt_ok mixed Try.func61 rfl (Nat.le_of_ble_eq_true rfl) ?_
  (conv => whnf)
  repeat' (first | (refine CallG.val (refNodeRight_s _ _ _ _ _ _ _ _ _ _) pl59 rfl (Nat.zero_le _) ?_; (conv => whnf)) | (refine @And.intro (chkAll _ = true) _ ?_ ?_; (· kernel_rfl); (conv => whnf)) | (refine JoinG.direct ?_; (conv => whnf)) | (refine AppG.mk ?_; (conv => whnf)) | (refine both_intro ?_ ?_ <;> (conv => whnf)) | (exact VR.int _ _) | (exact VR.bool _) | (refine VR.ptr ?_; kernel_rfl) | (refine VR.slice ?_; kernel_rfl) | (exact VR.sliceN _ _) | (refine VR.map ?_; kernel_rfl) | (exact VR.clean _ rfl) | (refine VR.aggOf ?_) | (refine OR.cellsOf ?_) | (exact AR.same _ rfl) | (exact trivial) | (refine amb_no ?_ ?_; (· exact Nat.succ_ne_zero _); (conv => whnf)) | (refine And.intro ?_ ?_; (· (first | decide | omega | (simp only [IntKind.wrap_i64]; omega) | (simp only [List.length_append]; omega) | (simp only [IntKind.wrap_i64, List.length_append]; omega) | (simp only [IntKind.wrap_i64, List.length_append, Int.natCast_add]; omega) | exact keepP_same _ _ _ | (repeat (first | exact trivial | refine And.intro rfl ?_)))); (conv => whnf)) | (refine fun (nc : Nat) (hnc : _ ≤ nc) => ?_; (conv => whnf)) | (refine bif2_true ?_ ?_; (· assumption); (conv => whnf)) | (refine bif2_false ?_ ?_; (· assumption); (conv => whnf)) | (refine bif2_split (fun h => ?_) (fun h => ?_) <;> (conv => whnf)))
  all_goals (refine ⟨?_, rfl⟩; (try simp only [Bool.not_eq_true', Bool.not_eq_false', Bool.not_not] at *); simp [*, newE])
abbrev actV (k x a b c : Int) : Value := .agg #[.int .i64 k, .int .i64 x, .int .i64 a, .int .i64 b, .int .i64 c]
def doE (id inc ld c0 c1 c2 u0 u1 u2 : Int) (up : Bool) (k x a b c : Int) : Int :=
  chI (k == 1) (joinE id inc ld c0 c1 c2 u0 u1 u2 up x a b c) (chI (k == 2) (resizeE id inc ld c0 c1 c2 u0 u1 u2 up x a b c) (chI (k == 3) (goneE id inc ld c0 c1 c2 u0 u1 u2 up x)
    (chI (k == 4) (takeE id inc ld c0 c1 c2 u0 u1 u2 up x a b c) (giveE id inc ld c0 c1 c2 u0 u1 u2 up a b c))))
def doLd (k ld : Int) : Int := chI (k == 1) 0 (chI (k == 2) ld (chI (k == 3) 0 (chI (k == 4) (IntKind.i64.wrap (ld + 1)) (IntKind.i64.wrap (ld - 1)))))
def doC (k c a : Int) : Int := chI (k == 1) a (chI (k == 2) a c)
def doU (k u a : Int) (p q : Bool) : Int := chI (k == 1) 0 (chI (k == 2) u (chI (k == 3) 0 (chI (k == 4) (chI p (u + a) 0) (chI q (u - a) 0))))
def chB (c x y : Bool) : Bool := match c with
  | true => x
  | false => y
@[simp] theorem chB_t (x y : Bool) : chB true x y = x := rfl
@[simp] theorem chB_f (x y : Bool) : chB false x y = y := rfl
def doUp (k : Int) (up : Bool) : Bool := chB (k == 1) true (chB (k == 2) up (chB (k == 3) false up))
abbrev doR (id inc ld c0 c1 c2 u0 u1 u2 : Int) (up : Bool) (k x a b c : Int) : Value :=
  nodeR (doE id inc ld c0 c1 c2 u0 u1 u2 up k x a b c) id (chI (k == 1) x inc) (doLd k ld) (doC k c0 a) (doC k c1 b) (doC k c2 c)
    (doU k u0 a (addB u0 u1 u2 a b c) (subB u0 u1 u2 a b c)) (doU k u1 b (addB u0 u1 u2 a b c) (subB u0 u1 u2 a b c)) (doU k u2 c (addB u0 u1 u2 a b c) (subB u0 u1 u2 a b c)) (doUp k up)
theorem nodeB_iff {id inc ld c0 c1 c2 u0 u1 u2 : Int} {up : Bool} : nodeB id inc ld c0 c1 c2 u0 u1 u2 up = true ↔ rightR c0 c1 c2 = true ∧ rightR u0 u1 u2 = true ∧ fitsR u0 u1 u2 c0 c1 c2 = true ∧ (0 ≤ id ∧ id ≤ 15) ∧ (1 ≤ inc ∧ inc ≤ 2147483647) ∧ (0 ≤ ld ∧ ld ≤ 64) ∧ ((ld = 0 ∧ u0 = 0 ∧ u1 = 0 ∧ u2 = 0) ∨ (up = true ∧ 0 < ld)) := by
  simp [nodeB, rightB]
theorem bne_n (a b : Int) : (a != b) = !(a == b) := rfl
theorem beq_sym (a b : Int) : (a == b) = (b == a) := by rw [Bool.eq_iff_iff]; simp; omega
theorem dlt (a b : Int) : decide (a < b) = !decide (b ≤ a) := by
  rw [Bool.eq_iff_iff]; simp
set_option maxHeartbeats 4000000 in
theorem refDo1 (id inc ld c0 c1 c2 u0 u1 u2 : Int) (up : Bool) (x a b c : Int) : Pure Try.prog 0 47 [nodeV id inc ld c0 c1 c2 u0 u1 u2 up, actV 1 x a b c] (fun v => v = doR id inc ld c0 c1 c2 u0 u1 u2 up 1 x a b c) := by
  refine Pure.body tt_ok mixed Try.func47 rfl (Nat.le_of_ble_eq_true rfl) ?_
  (conv => whnf)
  repeat' (first | (refine CallG.val (refNodeRight_s _ _ _ _ _ _ _ _ _ _) pl59 rfl (Nat.zero_le _) ?_; (conv => whnf)) | (refine CallG.val (refRight_s _ _ _) pl60 rfl (Nat.zero_le _) ?_; (conv => whnf)) | (refine CallG.val (refFits_s _ _ _ _ _ _) pl62 rfl (Nat.zero_le _) ?_; (conv => whnf)) | (refine CallG.val (refFree_s _ _ _ _ _ _ _ _ _ _) pl21 rfl (Nat.zero_le _) ?_; (conv => whnf)) | (refine CallG.val (refAdd_s _ _ _ _ _ _) pl63 rfl (Nat.zero_le _) ?_; (conv => whnf)) | (refine CallG.val (refSub_s _ _ _ _ _ _) pl64 rfl (Nat.zero_le _) ?_; (conv => whnf)) | (refine CallG.val (refNew_s _ _ _ _ _) pl61 rfl (Nat.zero_le _) ?_; (conv => whnf)) | (refine @And.intro (chkAll _ = true) _ ?_ ?_; (· kernel_rfl); (conv => whnf)) | (refine JoinG.direct ?_; (conv => whnf)) | (refine AppG.mk ?_; (conv => whnf)) | (refine both_intro ?_ ?_ <;> (conv => whnf)) | (exact VR.int _ _) | (exact VR.bool _) | (refine VR.ptr ?_; kernel_rfl) | (refine VR.slice ?_; kernel_rfl) | (exact VR.sliceN _ _) | (refine VR.map ?_; kernel_rfl) | (exact VR.clean _ rfl) | (refine VR.aggOf ?_) | (refine OR.cellsOf ?_) | (exact AR.same _ rfl) | (exact trivial) | (refine amb_no ?_ ?_; (· exact Nat.succ_ne_zero _); (conv => whnf)) | (refine And.intro ?_ ?_; (· (first | decide | omega | (simp only [IntKind.wrap_i64]; omega) | (simp only [List.length_append]; omega) | (simp only [IntKind.wrap_i64, List.length_append]; omega) | (simp only [IntKind.wrap_i64, List.length_append, Int.natCast_add]; omega) | exact keepP_same _ _ _ | (repeat (first | exact trivial | refine And.intro rfl ?_)))); (conv => whnf)) | (refine fun (nc : Nat) (hnc : _ ≤ nc) => ?_; (conv => whnf)) | (refine bif2_true ?_ ?_; (· assumption); (conv => whnf)) | (refine bif2_false ?_ ?_; (· assumption); (conv => whnf)) | (refine bif2_split (fun h => ?_) (fun h => ?_) <;> (conv => whnf)))
  all_goals refine ⟨?_, rfl⟩
  all_goals ((try simp only [dlt, bne_n, Bool.not_eq_true', Bool.not_eq_false', Bool.not_not] at *); simp only [*, dlt, bne_n, doR, nodeR, nodeV, i64, doE, joinE, newE, resizeE, goneE, takeE, giveE, takesB, rightB, doLd, doC, doU, doUp, chI_t, chI_f, chB_t, chB_f, Bool.and_true, Bool.true_and, Bool.and_false, Bool.false_and, Bool.or_true, Bool.true_or, Bool.or_false, Bool.false_or, Bool.not_true, Bool.not_false, Bool.and_self, Bool.or_self, Int.reduceBEq, beq_self_eq_true])
set_option maxHeartbeats 4000000 in
theorem refDo2 (id inc ld c0 c1 c2 u0 u1 u2 : Int) (up : Bool) (x a b c : Int) : Pure Try.prog 0 47 [nodeV id inc ld c0 c1 c2 u0 u1 u2 up, actV 2 x a b c] (fun v => v = doR id inc ld c0 c1 c2 u0 u1 u2 up 2 x a b c) := by
  have hs := beq_sym inc x
  cases up
  all_goals
    refine Pure.body tt_ok mixed Try.func47 rfl (Nat.le_of_ble_eq_true rfl) ?_
    (conv => whnf)
    repeat' (first | (refine CallG.val (refNodeRight_s _ _ _ _ _ _ _ _ _ _) pl59 rfl (Nat.zero_le _) ?_; (conv => whnf)) | (refine CallG.val (refRight_s _ _ _) pl60 rfl (Nat.zero_le _) ?_; (conv => whnf)) | (refine CallG.val (refFits_s _ _ _ _ _ _) pl62 rfl (Nat.zero_le _) ?_; (conv => whnf)) | (refine CallG.val (refFree_s _ _ _ _ _ _ _ _ _ _) pl21 rfl (Nat.zero_le _) ?_; (conv => whnf)) | (refine CallG.val (refAdd_s _ _ _ _ _ _) pl63 rfl (Nat.zero_le _) ?_; (conv => whnf)) | (refine CallG.val (refSub_s _ _ _ _ _ _) pl64 rfl (Nat.zero_le _) ?_; (conv => whnf)) | (refine CallG.val (refNew_s _ _ _ _ _) pl61 rfl (Nat.zero_le _) ?_; (conv => whnf)) | (refine @And.intro (chkAll _ = true) _ ?_ ?_; (· kernel_rfl); (conv => whnf)) | (refine JoinG.direct ?_; (conv => whnf)) | (refine AppG.mk ?_; (conv => whnf)) | (refine both_intro ?_ ?_ <;> (conv => whnf)) | (exact VR.int _ _) | (exact VR.bool _) | (refine VR.ptr ?_; kernel_rfl) | (refine VR.slice ?_; kernel_rfl) | (exact VR.sliceN _ _) | (refine VR.map ?_; kernel_rfl) | (exact VR.clean _ rfl) | (refine VR.aggOf ?_) | (refine OR.cellsOf ?_) | (exact AR.same _ rfl) | (exact trivial) | (refine amb_no ?_ ?_; (· exact Nat.succ_ne_zero _); (conv => whnf)) | (refine And.intro ?_ ?_; (· (first | decide | omega | (simp only [IntKind.wrap_i64]; omega) | (simp only [List.length_append]; omega) | (simp only [IntKind.wrap_i64, List.length_append]; omega) | (simp only [IntKind.wrap_i64, List.length_append, Int.natCast_add]; omega) | exact keepP_same _ _ _ | (repeat (first | exact trivial | refine And.intro rfl ?_)))); (conv => whnf)) | (refine fun (nc : Nat) (hnc : _ ≤ nc) => ?_; (conv => whnf)) | (refine bif2_true ?_ ?_; (· assumption); (conv => whnf)) | (refine bif2_false ?_ ?_; (· assumption); (conv => whnf)) | (refine bif2_split (fun h => ?_) (fun h => ?_) <;> (conv => whnf)))
    all_goals refine ⟨?_, rfl⟩
    all_goals ((try simp only [dlt, bne_n, Bool.not_eq_true', Bool.not_eq_false', Bool.not_not] at *); simp only [*, dlt, bne_n, doR, nodeR, nodeV, i64, doE, joinE, newE, resizeE, goneE, takeE, giveE, takesB, rightB, doLd, doC, doU, doUp, chI_t, chI_f, chB_t, chB_f, Bool.and_true, Bool.true_and, Bool.and_false, Bool.false_and, Bool.or_true, Bool.true_or, Bool.or_false, Bool.false_or, Bool.not_true, Bool.not_false, Bool.and_self, Bool.or_self, Int.reduceBEq, beq_self_eq_true])
set_option maxHeartbeats 4000000 in
theorem refDo3 (id inc ld c0 c1 c2 u0 u1 u2 : Int) (up : Bool) (x a b c : Int) : Pure Try.prog 0 47 [nodeV id inc ld c0 c1 c2 u0 u1 u2 up, actV 3 x a b c] (fun v => v = doR id inc ld c0 c1 c2 u0 u1 u2 up 3 x a b c) := by
  have hs := beq_sym inc x
  cases up
  all_goals
    refine Pure.body tt_ok mixed Try.func47 rfl (Nat.le_of_ble_eq_true rfl) ?_
    (conv => whnf)
    repeat' (first | (refine CallG.val (refNodeRight_s _ _ _ _ _ _ _ _ _ _) pl59 rfl (Nat.zero_le _) ?_; (conv => whnf)) | (refine CallG.val (refRight_s _ _ _) pl60 rfl (Nat.zero_le _) ?_; (conv => whnf)) | (refine CallG.val (refFits_s _ _ _ _ _ _) pl62 rfl (Nat.zero_le _) ?_; (conv => whnf)) | (refine CallG.val (refFree_s _ _ _ _ _ _ _ _ _ _) pl21 rfl (Nat.zero_le _) ?_; (conv => whnf)) | (refine CallG.val (refAdd_s _ _ _ _ _ _) pl63 rfl (Nat.zero_le _) ?_; (conv => whnf)) | (refine CallG.val (refSub_s _ _ _ _ _ _) pl64 rfl (Nat.zero_le _) ?_; (conv => whnf)) | (refine CallG.val (refNew_s _ _ _ _ _) pl61 rfl (Nat.zero_le _) ?_; (conv => whnf)) | (refine @And.intro (chkAll _ = true) _ ?_ ?_; (· kernel_rfl); (conv => whnf)) | (refine JoinG.direct ?_; (conv => whnf)) | (refine AppG.mk ?_; (conv => whnf)) | (refine both_intro ?_ ?_ <;> (conv => whnf)) | (exact VR.int _ _) | (exact VR.bool _) | (refine VR.ptr ?_; kernel_rfl) | (refine VR.slice ?_; kernel_rfl) | (exact VR.sliceN _ _) | (refine VR.map ?_; kernel_rfl) | (exact VR.clean _ rfl) | (refine VR.aggOf ?_) | (refine OR.cellsOf ?_) | (exact AR.same _ rfl) | (exact trivial) | (refine amb_no ?_ ?_; (· exact Nat.succ_ne_zero _); (conv => whnf)) | (refine And.intro ?_ ?_; (· (first | decide | omega | (simp only [IntKind.wrap_i64]; omega) | (simp only [List.length_append]; omega) | (simp only [IntKind.wrap_i64, List.length_append]; omega) | (simp only [IntKind.wrap_i64, List.length_append, Int.natCast_add]; omega) | exact keepP_same _ _ _ | (repeat (first | exact trivial | refine And.intro rfl ?_)))); (conv => whnf)) | (refine fun (nc : Nat) (hnc : _ ≤ nc) => ?_; (conv => whnf)) | (refine bif2_true ?_ ?_; (· assumption); (conv => whnf)) | (refine bif2_false ?_ ?_; (· assumption); (conv => whnf)) | (refine bif2_split (fun h => ?_) (fun h => ?_) <;> (conv => whnf)))
    all_goals refine ⟨?_, rfl⟩
    all_goals ((try simp only [dlt, bne_n, Bool.not_eq_true', Bool.not_eq_false', Bool.not_not] at *); simp only [*, dlt, bne_n, doR, nodeR, nodeV, i64, doE, joinE, newE, resizeE, goneE, takeE, giveE, takesB, rightB, doLd, doC, doU, doUp, chI_t, chI_f, chB_t, chB_f, Bool.and_true, Bool.true_and, Bool.and_false, Bool.false_and, Bool.or_true, Bool.true_or, Bool.or_false, Bool.false_or, Bool.not_true, Bool.not_false, Bool.and_self, Bool.or_self, Int.reduceBEq, beq_self_eq_true])
set_option maxHeartbeats 4000000 in
theorem refDo4 (id inc ld c0 c1 c2 u0 u1 u2 : Int) (up : Bool) (x a b c : Int) : Pure Try.prog 0 47 [nodeV id inc ld c0 c1 c2 u0 u1 u2 up, actV 4 x a b c] (fun v => v = doR id inc ld c0 c1 c2 u0 u1 u2 up 4 x a b c) := by
  have hld : nodeB id inc ld c0 c1 c2 u0 u1 u2 up = true → decide (64 ≤ ld) = (ld == 64) := by
    intro h
    rw [nodeB_iff] at h
    rw [Bool.eq_iff_iff]; simp; omega
  have hs := beq_sym inc x
  cases up
  all_goals
    refine Pure.body tt_ok mixed Try.func47 rfl (Nat.le_of_ble_eq_true rfl) ?_
    (conv => whnf)
    repeat' (first | (refine CallG.val (refNodeRight_s _ _ _ _ _ _ _ _ _ _) pl59 rfl (Nat.zero_le _) ?_; (conv => whnf)) | (refine CallG.val (refRight_s _ _ _) pl60 rfl (Nat.zero_le _) ?_; (conv => whnf)) | (refine CallG.val (refFits_s _ _ _ _ _ _) pl62 rfl (Nat.zero_le _) ?_; (conv => whnf)) | (refine CallG.val (refFree_s _ _ _ _ _ _ _ _ _ _) pl21 rfl (Nat.zero_le _) ?_; (conv => whnf)) | (refine CallG.val (refAdd_s _ _ _ _ _ _) pl63 rfl (Nat.zero_le _) ?_; (conv => whnf)) | (refine CallG.val (refSub_s _ _ _ _ _ _) pl64 rfl (Nat.zero_le _) ?_; (conv => whnf)) | (refine CallG.val (refNew_s _ _ _ _ _) pl61 rfl (Nat.zero_le _) ?_; (conv => whnf)) | (refine @And.intro (chkAll _ = true) _ ?_ ?_; (· kernel_rfl); (conv => whnf)) | (refine JoinG.direct ?_; (conv => whnf)) | (refine AppG.mk ?_; (conv => whnf)) | (refine both_intro ?_ ?_ <;> (conv => whnf)) | (exact VR.int _ _) | (exact VR.bool _) | (refine VR.ptr ?_; kernel_rfl) | (refine VR.slice ?_; kernel_rfl) | (exact VR.sliceN _ _) | (refine VR.map ?_; kernel_rfl) | (exact VR.clean _ rfl) | (refine VR.aggOf ?_) | (refine OR.cellsOf ?_) | (exact AR.same _ rfl) | (exact trivial) | (refine amb_no ?_ ?_; (· exact Nat.succ_ne_zero _); (conv => whnf)) | (refine And.intro ?_ ?_; (· (first | decide | omega | (simp only [IntKind.wrap_i64]; omega) | (simp only [List.length_append]; omega) | (simp only [IntKind.wrap_i64, List.length_append]; omega) | (simp only [IntKind.wrap_i64, List.length_append, Int.natCast_add]; omega) | exact keepP_same _ _ _ | (repeat (first | exact trivial | refine And.intro rfl ?_)))); (conv => whnf)) | (refine fun (nc : Nat) (hnc : _ ≤ nc) => ?_; (conv => whnf)) | (refine bif2_true ?_ ?_; (· assumption); (conv => whnf)) | (refine bif2_false ?_ ?_; (· assumption); (conv => whnf)) | (refine bif2_split (fun h => ?_) (fun h => ?_) <;> (conv => whnf)))
    all_goals refine ⟨?_, rfl⟩
    all_goals (try simp only [Bool.not_eq_true', Bool.not_eq_false'] at *)
    all_goals (try have hld := hld (by assumption))
    all_goals ((try simp only [dlt, bne_n, Bool.not_eq_true', Bool.not_eq_false', Bool.not_not] at *); simp only [*, dlt, bne_n, doR, nodeR, nodeV, i64, doE, joinE, newE, resizeE, goneE, takeE, giveE, takesB, rightB, doLd, doC, doU, doUp, chI_t, chI_f, chB_t, chB_f, Bool.and_true, Bool.true_and, Bool.and_false, Bool.false_and, Bool.or_true, Bool.true_or, Bool.or_false, Bool.false_or, Bool.not_true, Bool.not_false, Bool.and_self, Bool.or_self, Int.reduceBEq, beq_self_eq_true])
set_option maxHeartbeats 8000000 in
theorem refDo5 (id inc ld c0 c1 c2 u0 u1 u2 : Int) (up : Bool) (k x a b c : Int) (h1 : (k == 1) = false) (h2 : (k == 2) = false) (h3 : (k == 3) = false) (h4 : (k == 4) = false) :
    Pure Try.prog 0 47 [nodeV id inc ld c0 c1 c2 u0 u1 u2 up, actV k x a b c] (fun v => v = doR id inc ld c0 c1 c2 u0 u1 u2 up k x a b c) := by
  have hld : nodeB id inc ld c0 c1 c2 u0 u1 u2 up = true → decide (ld ≤ 0) = (ld == 0) ∧ decide (ld ≤ 1) = ((ld == 0) || (ld == 1)) := by
    intro h
    rw [nodeB_iff] at h
    constructor
    · rw [Bool.eq_iff_iff]; simp; omega
    · rw [Bool.eq_iff_iff]; simp; omega
  have hk : decide (1 ≤ k) = false ∨ (decide (1 ≤ k) = true ∧ decide (k ≤ 4) = false) := by
    simp at h1 h2 h3 h4 ⊢; omega
  have h3' : (k != 3) = true := by simp at h3 ⊢; exact h3
  rcases hk with hk | ⟨hk, hk2⟩
  all_goals
    refine Pure.body tt_ok mixed Try.func47 rfl (Nat.le_of_ble_eq_true rfl) ?_
    (conv => whnf)
    repeat' (first | (refine CallG.val (refNodeRight_s _ _ _ _ _ _ _ _ _ _) pl59 rfl (Nat.zero_le _) ?_; (conv => whnf)) | (refine CallG.val (refRight_s _ _ _) pl60 rfl (Nat.zero_le _) ?_; (conv => whnf)) | (refine CallG.val (refFits_s _ _ _ _ _ _) pl62 rfl (Nat.zero_le _) ?_; (conv => whnf)) | (refine CallG.val (refFree_s _ _ _ _ _ _ _ _ _ _) pl21 rfl (Nat.zero_le _) ?_; (conv => whnf)) | (refine CallG.val (refAdd_s _ _ _ _ _ _) pl63 rfl (Nat.zero_le _) ?_; (conv => whnf)) | (refine CallG.val (refSub_s _ _ _ _ _ _) pl64 rfl (Nat.zero_le _) ?_; (conv => whnf)) | (refine CallG.val (refNew_s _ _ _ _ _) pl61 rfl (Nat.zero_le _) ?_; (conv => whnf)) | (refine @And.intro (chkAll _ = true) _ ?_ ?_; (· kernel_rfl); (conv => whnf)) | (refine JoinG.direct ?_; (conv => whnf)) | (refine AppG.mk ?_; (conv => whnf)) | (refine both_intro ?_ ?_ <;> (conv => whnf)) | (exact VR.int _ _) | (exact VR.bool _) | (refine VR.ptr ?_; kernel_rfl) | (refine VR.slice ?_; kernel_rfl) | (exact VR.sliceN _ _) | (refine VR.map ?_; kernel_rfl) | (exact VR.clean _ rfl) | (refine VR.aggOf ?_) | (refine OR.cellsOf ?_) | (exact AR.same _ rfl) | (exact trivial) | (refine amb_no ?_ ?_; (· exact Nat.succ_ne_zero _); (conv => whnf)) | (refine And.intro ?_ ?_; (· (first | decide | omega | (simp only [IntKind.wrap_i64]; omega) | (simp only [List.length_append]; omega) | (simp only [IntKind.wrap_i64, List.length_append]; omega) | (simp only [IntKind.wrap_i64, List.length_append, Int.natCast_add]; omega) | exact keepP_same _ _ _ | (repeat (first | exact trivial | refine And.intro rfl ?_)))); (conv => whnf)) | (refine fun (nc : Nat) (hnc : _ ≤ nc) => ?_; (conv => whnf)) | (refine bif2_true ?_ ?_; (· assumption); (conv => whnf)) | (refine bif2_false ?_ ?_; (· assumption); (conv => whnf)) | (refine bif2_split (fun h => ?_) (fun h => ?_) <;> (conv => whnf)))
    all_goals refine ⟨?_, rfl⟩
    all_goals (try simp only [Bool.not_eq_true', Bool.not_eq_false'] at *)
    all_goals (try have hld := hld (by assumption))
    all_goals (try obtain ⟨hld1, hld2⟩ := hld)
    all_goals (try simp only [*, chI_t, chI_f, Bool.and_true] at h)
    all_goals ((try simp only [dlt, bne_n, Bool.not_eq_true', Bool.not_eq_false', Bool.not_not] at *); simp only [*, dlt, bne_n, doR, nodeR, nodeV, i64, doE, joinE, newE, resizeE, goneE, takeE, giveE, takesB, rightB, doLd, doC, doU, doUp, chI_t, chI_f, chB_t, chB_f, Bool.and_true, Bool.true_and, Bool.and_false, Bool.false_and, Bool.or_true, Bool.true_or, Bool.or_false, Bool.false_or, Bool.not_true, Bool.not_false, Bool.and_self, Bool.or_self, Int.reduceBEq, beq_self_eq_true])
theorem refDo_s (id inc ld c0 c1 c2 u0 u1 u2 : Int) (up : Bool) (k x a b c : Int) :
    Pure Try.prog 0 47 [nodeV id inc ld c0 c1 c2 u0 u1 u2 up, actV k x a b c] (fun v => v = doR id inc ld c0 c1 c2 u0 u1 u2 up k x a b c) := by
  cases h1 : k == 1
  · cases h2 : k == 2
    · cases h3 : k == 3
      · cases h4 : k == 4
        · exact refDo5 _ _ _ _ _ _ _ _ _ _ _ _ _ _ _ h1 h2 h3 h4
        · rw [beq_iff_eq] at h4; subst h4; exact refDo4 _ _ _ _ _ _ _ _ _ _ _ _ _ _
      · rw [beq_iff_eq] at h3; subst h3; exact refDo3 _ _ _ _ _ _ _ _ _ _ _ _ _ _
    · rw [beq_iff_eq] at h2; subst h2; exact refDo2 _ _ _ _ _ _ _ _ _ _ _ _ _ _
  · rw [beq_iff_eq] at h1; subst h1; exact refDo1 _ _ _ _ _ _ _ _ _ _ _ _ _ _
end Go.Proofs.Ytkoabiahebakjaa

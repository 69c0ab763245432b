/- Contracts of functions of the program and of the reference: what each call comes to. -/
import Derived.Test.YtdligbcmhjhkfaaM1
namespace Go.Proofs.Ytdligbcmhjhkfaa
open Go.RowKit
theorem pl77 : Plain Try.prog 77 := Plain.of Try.func77 (by kernel_rfl) rfl
theorem pl62 : Plain Try.prog 62 := Plain.of Try.func62 (by kernel_rfl) rfl
theorem pl75 : Plain Try.prog 75 := Plain.of Try.func75 (by kernel_rfl) rfl
abbrev nodeV (id inc ld c0 c1 c2 u0 u1 u2 : Int) (up : Bool) : Value := .agg #[.int .i64 id, .int .i64 inc, .int .i64 ld, .int .i64 c0, .int .i64 c1, .int .i64 c2, .int .i64 u0, .int .i64 u1, .int .i64 u2, .bool up]
/-- what is left -/
def frI (c u : Int) : Int := chI (decide (u < c)) (IntKind.i64.wrap (c - u)) 0
theorem free_s (id inc ld c0 c1 c2 u0 u1 u2 : Int) (up : Bool) : Pure Try.prog 0 77 [nodeV id inc ld c0 c1 c2 u0 u1 u2 up] (fun v => v = r3 (frI c0 u0) (frI c1 u1) (frI c2 u2)) := by
  refine Pure.body tt_ok mixed Try.func77 rfl (Nat.le_of_ble_eq_true rfl) ?_
  (conv => whnf)
  refine LoopG.unroll 4 ?_
  (conv => whnf)
  repeat' (first | (refine @And.intro (chkAll _ = true) _ ?_ ?_; (· kernel_rfl); (conv => whnf)) | (refine JoinG.direct ?_; (conv => whnf)) | (refine AppG.mk ?_; (conv => whnf)) | (refine both_intro ?_ ?_ <;> (conv => whnf)) | (exact VR.int _ _) | (exact VR.bool _) | (refine VR.ptr ?_; kernel_rfl) | (refine VR.slice ?_; kernel_rfl) | (exact VR.sliceN _ _) | (refine VR.map ?_; kernel_rfl) | (exact VR.clean _ rfl) | (refine VR.aggOf ?_) | (refine OR.cellsOf ?_) | (exact AR.same _ rfl) | (exact trivial) | (refine amb_no ?_ ?_; (· exact Nat.succ_ne_zero _); (conv => whnf)) | (refine And.intro ?_ ?_; (· (first | decide | omega | (simp only [IntKind.wrap_i64]; omega) | (simp only [List.length_append]; omega) | (simp only [IntKind.wrap_i64, List.length_append]; omega) | (simp only [IntKind.wrap_i64, List.length_append, Int.natCast_add]; omega) | exact keepP_same _ _ _ | (repeat (first | exact trivial | refine And.intro rfl ?_)))); (conv => whnf)) | (refine fun (nc : Nat) (hnc : _ ≤ nc) => ?_; (conv => whnf)) | (refine bif2_true ?_ ?_; (· assumption); (conv => whnf)) | (refine bif2_false ?_ ?_; (· assumption); (conv => whnf)) | (refine bif2_split (fun h => ?_) (fun h => ?_) <;> (conv => whnf)))
  all_goals (refine ⟨?_, rfl⟩; simp only [frI, chI, *])
theorem refFree_s (id inc ld c0 c1 c2 u0 u1 u2 : Int) (up : Bool) : Pure Try.prog 0 75 [nodeV id inc ld c0 c1 c2 u0 u1 u2 up] (fun v => v = r3 (frI c0 u0) (frI c1 u1) (frI c2 u2)) := by
  refine Pure.body tt_ok mixed Try.func75 rfl (Nat.le_of_ble_eq_true rfl) ?_
  (conv => whnf)
  refine LoopG.unroll 4 ?_
  (conv => whnf)
  repeat' (first | (refine @And.intro (chkAll _ = true) _ ?_ ?_; (· kernel_rfl); (conv => whnf)) | (refine JoinG.direct ?_; (conv => whnf)) | (refine AppG.mk ?_; (conv => whnf)) | (refine both_intro ?_ ?_ <;> (conv => whnf)) | (exact VR.int _ _) | (exact VR.bool _) | (refine VR.ptr ?_; kernel_rfl) | (refine VR.slice ?_; kernel_rfl) | (exact VR.sliceN _ _) | (refine VR.map ?_; kernel_rfl) | (exact VR.clean _ rfl) | (refine VR.aggOf ?_) | (refine OR.cellsOf ?_) | (exact AR.same _ rfl) | (exact trivial) | (refine amb_no ?_ ?_; (· exact Nat.succ_ne_zero _); (conv => whnf)) | (refine And.intro ?_ ?_; (· (first | decide | omega | (simp only [IntKind.wrap_i64]; omega) | (simp only [List.length_append]; omega) | (simp only [IntKind.wrap_i64, List.length_append]; omega) | (simp only [IntKind.wrap_i64, List.length_append, Int.natCast_add]; omega) | exact keepP_same _ _ _ | (repeat (first | exact trivial | refine And.intro rfl ?_)))); (conv => whnf)) | (refine fun (nc : Nat) (hnc : _ ≤ nc) => ?_; (conv => whnf)) | (refine bif2_true ?_ ?_; (· assumption); (conv => whnf)) | (refine bif2_false ?_ ?_; (· assumption); (conv => whnf)) | (refine bif2_split (fun h => ?_) (fun h => ?_) <;> (conv => whnf)))
  all_goals (refine ⟨?_, rfl⟩; simp only [frI, chI, *])
def takesB (c0 c1 c2 u0 u1 u2 : Int) (up : Bool) (x y z : Int) : Bool := up && fitsR x y z (frI c0 u0) (frI c1 u1) (frI c2 u2)
theorem takes_s (id inc ld c0 c1 c2 u0 u1 u2 : Int) (up : Bool) (x y z : Int) : Pure Try.prog 0 62 [nodeV id inc ld c0 c1 c2 u0 u1 u2 up, r3 x y z] (fun v => v = .bool (takesB c0 c1 c2 u0 u1 u2 up x y z)) := by
  refine Pure.body tt_ok mixed Try.func62 rfl (Nat.le_of_ble_eq_true rfl) ?_
  cases up
  all_goals
    (conv => whnf)
    repeat' (first | (refine CallG.val (free_s _ _ _ _ _ _ _ _ _ _) pl77 rfl (Nat.zero_le _) ?_; (conv => whnf)) | (refine CallG.val (fits_s _ _ _ _ _ _) pl76 rfl (Nat.zero_le _) ?_; (conv => whnf)) | (refine @And.intro (chkAll _ = true) _ ?_ ?_; (· kernel_rfl); (conv => whnf)) | (refine JoinG.direct ?_; (conv => whnf)) | (refine AppG.mk ?_; (conv => whnf)) | (refine both_intro ?_ ?_ <;> (conv => whnf)) | (exact VR.int _ _) | (exact VR.bool _) | (refine VR.ptr ?_; kernel_rfl) | (refine VR.slice ?_; kernel_rfl) | (exact VR.sliceN _ _) | (refine VR.map ?_; kernel_rfl) | (exact VR.clean _ rfl) | (refine VR.aggOf ?_) | (refine OR.cellsOf ?_) | (exact AR.same _ rfl) | (exact trivial) | (refine amb_no ?_ ?_; (· exact Nat.succ_ne_zero _); (conv => whnf)) | (refine And.intro ?_ ?_; (· (first | decide | omega | (simp only [IntKind.wrap_i64]; omega) | (simp only [List.length_append]; omega) | (simp only [IntKind.wrap_i64, List.length_append]; omega) | (simp only [IntKind.wrap_i64, List.length_append, Int.natCast_add]; omega) | exact keepP_same _ _ _ | (repeat (first | exact trivial | refine And.intro rfl ?_)))); (conv => whnf)) | (refine fun (nc : Nat) (hnc : _ ≤ nc) => ?_; (conv => whnf)) | (refine bif2_true ?_ ?_; (· assumption); (conv => whnf)) | (refine bif2_false ?_ ?_; (· assumption); (conv => whnf)) | (refine bif2_split (fun h => ?_) (fun h => ?_) <;> (conv => whnf)))
    all_goals (refine ⟨?_, rfl⟩; simp_all [takesB])
def nodeB (id inc ld c0 c1 c2 u0 u1 u2 : Int) (up : Bool) : Bool :=
  rightR c0 c1 c2 && (rightR u0 u1 u2 && (fitsR u0 u1 u2 c0 c1 c2 && (rightB id 0 15 && (rightB inc 1 2147483647 && (rightB ld 0 64 && ((ld == 0 && (u0 == 0 && (u1 == 0 && u2 == 0))) || (up && decide (0 < ld))))))))
end Go.Proofs.Ytdligbcmhjhkfaa

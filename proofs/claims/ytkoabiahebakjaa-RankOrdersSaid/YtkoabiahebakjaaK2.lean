/- What the reference's own checks of the ranks come to: the fixed examples. -/
import Derived.Test.YtkoabiahebakjaaK1
import Derived.Test.YtkoabiahebakjaaGf

namespace Go.Proofs.Ytkoabiahebakjaa
open Go.RowKit
theorem pl9 : Plain Try.prog 9 := Plain.of Try.func9 (by kernel_rfl) rfl
theorem pl15 : Plain Try.prog 15 := Plain.of Try.func15 (by kernel_rfl) rfl
theorem pl14 : Plain Try.prog 14 := Plain.of Try.func14 (by kernel_rfl) rfl
theorem pl4 : Plain Try.prog 4 := Plain.of Try.func4 (by kernel_rfl) rfl
theorem pl5 : Plain Try.prog 5 := Plain.of Try.func5 (by kernel_rfl) rfl
set_option maxRecDepth 100000 in
set_option maxHeartbeats 40000000 in
theorem awake10_s : Pure Try.prog 0 9 [] (fun v => v = .bool true) := by
  refine Pure.body tt_ok mixed Try.func9 rfl (Nat.le_of_ble_eq_true rfl) ?_
  (conv => whnf)
  repeat' (first | (refine CallG.val (job_s _ _ _ _ _ _ _ _ _ _ _ _ _ _ _ _) pl10 rfl (Nat.zero_le _) ?_; (conv => whnf)) | (refine CallG.val (compare_s _ _ _ _ _ _ _ _ _ _ _ _ _ _ _ _) pl34 rfl (Nat.zero_le _) ?_; (conv => whnf)) | (refine CallG.val (free_s _ _ _ _ _ _ _ _ _ _) pl20 rfl (Nat.zero_le _) ?_; (conv => whnf)) | (refine CallG.val (takes_s _ _ _ _ _ _ _ _ _ _ _ _ _) pl22 rfl (Nat.zero_le _) ?_; (conv => whnf)) | (refine CallG.body tt_ok mixed Try.func15 (by kernel_rfl) rfl (Nat.le_of_ble_eq_true rfl) ?_; (conv => whnf)) | (refine CallG.body tt_ok mixed Try.func35 (by kernel_rfl) rfl (Nat.le_of_ble_eq_true rfl) ?_; (conv => whnf)) | (refine CallG.body tt_ok mixed Try.func36 (by kernel_rfl) rfl (Nat.le_of_ble_eq_true rfl) ?_; (conv => whnf)) | (refine CallG.body tt_ok mixed Try.func48 (by kernel_rfl) rfl (Nat.le_of_ble_eq_true rfl) ?_; (conv => whnf)) | (refine CallG.body tt_ok mixed Try.func65 (by kernel_rfl) rfl (Nat.le_of_ble_eq_true rfl) ?_; (conv => whnf)) | (refine CallG.body tt_ok mixed Try.func14 (by kernel_rfl) rfl (Nat.le_of_ble_eq_true rfl) ?_; (conv => whnf)) | (refine LoopG.unroll 6 ?_; (conv => whnf)) | (refine @And.intro (chkAll _ = true) _ ?_ ?_; (· kernel_rfl); (conv => whnf)) | (refine JoinG.direct ?_; (conv => whnf)) | (refine AppG.mk ?_; (conv => whnf)) | (refine both_intro ?_ ?_ <;> (conv => whnf)) | (exact VR.int _ _) | (exact VR.bool _) | (refine VR.ptr ?_; kernel_rfl) | (refine VR.slice ?_; kernel_rfl) | (exact VR.sliceN _ _) | (refine VR.map ?_; kernel_rfl) | (exact VR.clean _ rfl) | (refine VR.aggOf ?_) | (refine OR.cellsOf ?_) | (exact AR.same _ rfl) | (exact trivial) | (refine amb_no ?_ ?_; (· exact Nat.succ_ne_zero _); (conv => whnf)) | (refine And.intro ?_ ?_; (· (first | decide | omega | (simp only [IntKind.wrap_i64]; omega) | (simp only [List.length_append]; omega) | (simp only [IntKind.wrap_i64, List.length_append]; omega) | (simp only [IntKind.wrap_i64, List.length_append, Int.natCast_add]; omega) | exact keepP_same _ _ _ | (repeat (first | exact trivial | refine And.intro rfl ?_)))); (conv => whnf)) | (refine fun (nc : Nat) (hnc : _ ≤ nc) => ?_; (conv => whnf)) | (refine bif2_true ?_ ?_; (· assumption); (conv => whnf)) | (refine bif2_false ?_ ?_; (· assumption); (conv => whnf)) | (refine bif2_split (fun h => ?_) (fun h => ?_) <;> (conv => whnf)))
  all_goals exact ⟨rfl, rfl⟩
end Go.Proofs.Ytkoabiahebakjaa

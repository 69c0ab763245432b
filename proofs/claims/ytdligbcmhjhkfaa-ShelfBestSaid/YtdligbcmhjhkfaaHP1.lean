/- Keys, and which of two things is less. -/
import Derived.Test.YtdligbcmhjhkfaaK1
import Derived.Test.YtdligbcmhjhkfaaGg

namespace Go.Proofs.Ytdligbcmhjhkfaa
open Go.RowKit
abbrev t4 (i a b c : Int) : Value := .agg #[.int .i64 i, .int .i64 a, .int .i64 b, .int .i64 c]
def encT (t : Th) : List Value := [.int .i64 t.id, .int .i64 t.k0, .int .i64 t.k1, .int .i64 t.k2]
theorem encT_len (t : Th) : (encT t).length = 4 := rfl
abbrev evN (p : Nat) : Value := .int .i64 (p : Int)
theorem evN_clean (p : Nat) : clean (evN p) = true := rfl
theorem pl56 : Plain Try.prog 56 := Plain.of Try.func56 (by kernel_rfl) rfl
theorem pl19 : Plain Try.prog 19 := Plain.of Try.func19 (by kernel_rfl) rfl
theorem pl58 : Plain Try.prog 58 := Plain.of Try.func58 (by kernel_rfl) rfl
theorem pl11 : Plain Try.prog 11 := Plain.of Try.func11 (by kernel_rfl) rfl
theorem pl12 : Plain Try.prog 12 := Plain.of Try.func12 (by kernel_rfl) rfl
theorem pl13 : Plain Try.prog 13 := Plain.of Try.func13 (by kernel_rfl) rfl
theorem pl14 : Plain Try.prog 14 := Plain.of Try.func14 (by kernel_rfl) rfl
theorem pl15 : Plain Try.prog 15 := Plain.of Try.func15 (by kernel_rfl) rfl
theorem pl17 : Plain Try.prog 17 := Plain.of Try.func17 (by kernel_rfl) rfl
theorem pl23 : Plain Try.prog 23 := Plain.of Try.func23 (by kernel_rfl) rfl
theorem pl24 : Plain Try.prog 24 := Plain.of Try.func24 (by kernel_rfl) rfl
theorem pl52 : Plain Try.prog 52 := Plain.of Try.func52 (by kernel_rfl) rfl
theorem pl69 : Plain Try.prog 69 := Plain.of Try.func69 (by kernel_rfl) rfl
theorem pl70 : Plain Try.prog 70 := Plain.of Try.func70 (by kernel_rfl) rfl
theorem pl71 : Plain Try.prog 71 := Plain.of Try.func71 (by kernel_rfl) rfl
theorem pl55 : Plain Try.prog 55 := Plain.of Try.func55 (by kernel_rfl) rfl
theorem lessB_eq (a b c x y z : Int) : lessB a b c x y z = ltK a b c x y z := by
  unfold lessB ltK
  rw [Bool.eq_iff_iff, orI_eq, orI_eq]
  rcases cmpI_cases a x with ⟨h1, e1⟩ | ⟨h1, e1⟩ | ⟨h1, e1⟩ <;> rcases cmpI_cases b y with ⟨h2, e2⟩ | ⟨h2, e2⟩ | ⟨h2, e2⟩ <;> rcases cmpI_cases c z with ⟨h3, e3⟩ | ⟨h3, e3⟩ | ⟨h3, e3⟩ <;> rw [e1, e2, e3] <;> simp <;> omega
theorem lessK_s (a b c x y z : Int) : Pure Try.prog 0 18 [k3 a b c, k3 x y z] (fun v => v = .bool (ltK a b c x y z)) := by
  rw [← lessB_eq]; exact less_s a b c x y z
theorem refLess_s (a b c x y z : Int) : Pure Try.prog 0 19 [k3 a b c, k3 x y z] (fun v => v = .bool (ltK a b c x y z)) := by
  refine Pure.body tt_ok mixed Try.func19 rfl (Nat.le_of_ble_eq_true rfl) ?_
  (conv => whnf)
  repeat' (first | (refine LoopG.unroll 5 ?_; (conv => whnf)) | (refine @And.intro (chkAll _ = true) _ ?_ ?_; (· kernel_rfl); (conv => whnf)) | (refine JoinG.direct ?_; (conv => whnf)) | (refine AppG.mk ?_; (conv => whnf)) | (refine both_intro ?_ ?_ <;> (conv => whnf)) | (exact VR.int _ _) | (exact VR.bool _) | (refine VR.ptr ?_; kernel_rfl) | (refine VR.slice ?_; kernel_rfl) | (exact VR.sliceN _ _) | (refine VR.map ?_; kernel_rfl) | (exact VR.clean _ rfl) | (refine VR.aggOf ?_) | (refine OR.cellsOf ?_) | (exact AR.same _ rfl) | (exact trivial) | (refine amb_no ?_ ?_; (· exact Nat.succ_ne_zero _); (conv => whnf)) | (refine And.intro ?_ ?_; (· (first | decide | omega | (simp only [IntKind.wrap_i64]; omega) | (simp only [List.length_append]; omega) | (simp only [IntKind.wrap_i64, List.length_append]; omega) | (simp only [IntKind.wrap_i64, List.length_append, Int.natCast_add]; omega) | exact keepP_same _ _ _ | (repeat (first | exact trivial | refine And.intro rfl ?_)))); (conv => whnf)) | (refine fun (nc : Nat) (hnc : _ ≤ nc) => ?_; (conv => whnf)) | (refine bif2_true ?_ ?_; (· assumption); (conv => whnf)) | (refine bif2_false ?_ ?_; (· assumption); (conv => whnf)) | (refine bif2_split (fun h => ?_) (fun h => ?_) <;> (conv => whnf)))
  all_goals (refine ⟨congrArg Value.bool ?_, rfl⟩; unfold ltK; rw [Bool.eq_iff_iff]; simp_all <;> omega)
theorem ltT_K (i a b c j x y z : Int) : ltT ⟨i, a, b, c⟩ ⟨j, x, y, z⟩ = (ltK a b c x y z || ((a == x && (b == y && c == z)) && decide (i < j))) := by
  unfold ltT ltK
  rw [Bool.eq_iff_iff]
  simp
  omega
theorem lessT_s (i a b c j x y z : Int) : Pure Try.prog 0 56 [t4 i a b c, t4 j x y z] (fun v => v = .bool (ltT ⟨i, a, b, c⟩ ⟨j, x, y, z⟩)) := by
  refine Pure.body tt_ok mixed Try.func56 rfl (Nat.le_of_ble_eq_true rfl) ?_
  (conv => whnf)
  repeat' (first | (refine CallG.val (lessK_s _ _ _ _ _ _) pl18 rfl (Nat.zero_le _) ?_; (conv => whnf)) | (refine @And.intro (chkAll _ = true) _ ?_ ?_; (· kernel_rfl); (conv => whnf)) | (refine JoinG.direct ?_; (conv => whnf)) | (refine AppG.mk ?_; (conv => whnf)) | (refine both_intro ?_ ?_ <;> (conv => whnf)) | (exact VR.int _ _) | (exact VR.bool _) | (refine VR.ptr ?_; kernel_rfl) | (refine VR.slice ?_; kernel_rfl) | (exact VR.sliceN _ _) | (refine VR.map ?_; kernel_rfl) | (exact VR.clean _ rfl) | (refine VR.aggOf ?_) | (refine OR.cellsOf ?_) | (exact AR.same _ rfl) | (exact trivial) | (refine amb_no ?_ ?_; (· exact Nat.succ_ne_zero _); (conv => whnf)) | (refine And.intro ?_ ?_; (· (first | decide | omega | (simp only [IntKind.wrap_i64]; omega) | (simp only [List.length_append]; omega) | (simp only [IntKind.wrap_i64, List.length_append]; omega) | (simp only [IntKind.wrap_i64, List.length_append, Int.natCast_add]; omega) | exact keepP_same _ _ _ | (repeat (first | exact trivial | refine And.intro rfl ?_)))); (conv => whnf)) | (refine fun (nc : Nat) (hnc : _ ≤ nc) => ?_; (conv => whnf)) | (refine bif2_true ?_ ?_; (· assumption); (conv => whnf)) | (refine bif2_false ?_ ?_; (· assumption); (conv => whnf)) | (refine bif2_split (fun h => ?_) (fun h => ?_) <;> (conv => whnf)))
  all_goals (refine ⟨congrArg Value.bool ?_, rfl⟩; rw [ltT_K]; simp_all)
theorem ahead_s (i a b c j x y z : Int) : Pure Try.prog 0 58 [t4 i a b c, t4 j x y z] (fun v => v = .bool (ltT ⟨i, a, b, c⟩ ⟨j, x, y, z⟩)) := by
  refine Pure.body tt_ok mixed Try.func58 rfl (Nat.le_of_ble_eq_true rfl) ?_
  (conv => whnf)
  repeat' (first | (refine CallG.val (refLess_s _ _ _ _ _ _) pl19 rfl (Nat.zero_le _) ?_; (conv => whnf)) | (refine @And.intro (chkAll _ = true) _ ?_ ?_; (· kernel_rfl); (conv => whnf)) | (refine JoinG.direct ?_; (conv => whnf)) | (refine AppG.mk ?_; (conv => whnf)) | (refine both_intro ?_ ?_ <;> (conv => whnf)) | (exact VR.int _ _) | (exact VR.bool _) | (refine VR.ptr ?_; kernel_rfl) | (refine VR.slice ?_; kernel_rfl) | (exact VR.sliceN _ _) | (refine VR.map ?_; kernel_rfl) | (exact VR.clean _ rfl) | (refine VR.aggOf ?_) | (refine OR.cellsOf ?_) | (exact AR.same _ rfl) | (exact trivial) | (refine amb_no ?_ ?_; (· exact Nat.succ_ne_zero _); (conv => whnf)) | (refine And.intro ?_ ?_; (· (first | decide | omega | (simp only [IntKind.wrap_i64]; omega) | (simp only [List.length_append]; omega) | (simp only [IntKind.wrap_i64, List.length_append]; omega) | (simp only [IntKind.wrap_i64, List.length_append, Int.natCast_add]; omega) | exact keepP_same _ _ _ | (repeat (first | exact trivial | refine And.intro rfl ?_)))); (conv => whnf)) | (refine fun (nc : Nat) (hnc : _ ≤ nc) => ?_; (conv => whnf)) | (refine bif2_true ?_ ?_; (· assumption); (conv => whnf)) | (refine bif2_false ?_ ?_; (· assumption); (conv => whnf)) | (refine bif2_split (fun h => ?_) (fun h => ?_) <;> (conv => whnf)))
  all_goals (refine ⟨congrArg Value.bool ?_, rfl⟩; rw [ltT_K]; simp_all)
end Go.Proofs.Ytdligbcmhjhkfaa

/- Which of two jobs, of two nodes, of two keys is ahead. -/
import Derived.Test.YtdligbcmhjhkfaaM2

namespace Go.Proofs.Ytdligbcmhjhkfaa
open Go.RowKit
theorem pl34 : Plain Try.prog 34 := Plain.of Try.func34 (by kernel_rfl) rfl
theorem pl78 : Plain Try.prog 78 := Plain.of Try.func78 (by kernel_rfl) rfl
theorem pl74 : Plain Try.prog 74 := Plain.of Try.func74 (by kernel_rfl) rfl
theorem pl90 : Plain Try.prog 90 := Plain.of Try.func90 (by kernel_rfl) rfl
theorem pl59 : Plain Try.prog 59 := Plain.of Try.func59 (by kernel_rfl) rfl
theorem pl66 : Plain Try.prog 66 := Plain.of Try.func66 (by kernel_rfl) rfl
theorem pl63 : Plain Try.prog 63 := Plain.of Try.func63 (by kernel_rfl) rfl
theorem pl18 : Plain Try.prog 18 := Plain.of Try.func18 (by kernel_rfl) rfl
theorem pl61 : Plain Try.prog 61 := Plain.of Try.func61 (by kernel_rfl) rfl
theorem pl57 : Plain Try.prog 57 := Plain.of Try.func57 (by kernel_rfl) rfl
abbrev jobV (id pr sq ph nd n0 n1 n2 : Int) : Value := .agg #[.int .i64 id, .int .i64 pr, .int .i64 sq, .int .i64 ph, .int .i64 nd, .int .i64 n0, .int .i64 n1, .int .i64 n2]
def cmpI (a b : Int) : Int := chI (decide (a < b)) (-1) (chI (decide (b < a)) 1 0)
def orI (x y : Int) : Int := chI (x == 0) y x
def jobB (i p s i' p' s' : Int) : Bool := decide (p' < p) || (p == p' && (decide (s < s') || (s == s' && decide (i < i'))))
def nodeLB (i l i' l' : Int) : Bool := decide (l < l') || (l == l' && decide (i < i'))
theorem nan_s (a : Int) : Pure Try.prog 0 90 [i64 a] (fun v => v = .bool false) := by
  refine Pure.body tt_ok mixed Try.func90 rfl (Nat.le_of_ble_eq_true rfl) ?_
  (conv => whnf)
  refine ⟨?_, rfl⟩
  simp
theorem cmp_s (a b : Int) : Pure Try.prog 0 74 [i64 a, i64 b] (fun v => v = i64 (cmpI a b)) := by
  refine Pure.body tt_ok mixed Try.func74 rfl (Nat.le_of_ble_eq_true rfl) ?_
  (conv => whnf)
  repeat' (first | (refine CallG.val (nan_s _) pl90 rfl (Nat.zero_le _) ?_; (conv => whnf)) | (refine @And.intro (chkAll _ = true) _ ?_ ?_; (· kernel_rfl); (conv => whnf)) | (refine JoinG.direct ?_; (conv => whnf)) | (refine AppG.mk ?_; (conv => whnf)) | (refine both_intro ?_ ?_ <;> (conv => whnf)) | (exact VR.int _ _) | (exact VR.bool _) | (refine VR.ptr ?_; kernel_rfl) | (refine VR.slice ?_; kernel_rfl) | (exact VR.sliceN _ _) | (refine VR.map ?_; kernel_rfl) | (exact VR.clean _ rfl) | (refine VR.aggOf ?_) | (refine OR.cellsOf ?_) | (exact AR.same _ rfl) | (exact trivial) | (refine amb_no ?_ ?_; (· exact Nat.succ_ne_zero _); (conv => whnf)) | (refine And.intro ?_ ?_; (· (first | decide | omega | (simp only [IntKind.wrap_i64]; omega) | (simp only [List.length_append]; omega) | (simp only [IntKind.wrap_i64, List.length_append]; omega) | (simp only [IntKind.wrap_i64, List.length_append, Int.natCast_add]; omega) | exact keepP_same _ _ _ | (repeat (first | exact trivial | refine And.intro rfl ?_)))); (conv => whnf)) | (refine fun (nc : Nat) (hnc : _ ≤ nc) => ?_; (conv => whnf)) | (refine bif2_true ?_ ?_; (· assumption); (conv => whnf)) | (refine bif2_false ?_ ?_; (· assumption); (conv => whnf)) | (refine bif2_split (fun h => ?_) (fun h => ?_) <;> (conv => whnf)))
  all_goals (refine ⟨congrArg i64 ?_, rfl⟩; unfold cmpI chI; split <;> (try split) <;> simp_all <;> omega)
theorem cmpI_zero (a b : Int) : (cmpI a b == 0) = (a == b) := by
  unfold cmpI chI
  rw [Bool.eq_iff_iff]
  split <;> (try split) <;> simp_all <;> omega
theorem orI_eq (x y : Int) : orI x y = if x = 0 then y else x := by
  unfold orI
  by_cases h : x = 0
  · rw [if_pos h, h]; rfl
  · rw [if_neg h, show (x == 0) = false from by simpa using h]; rfl
theorem cmpI_cases (a b : Int) : (a < b ∧ cmpI a b = -1) ∨ (a = b ∧ cmpI a b = 0) ∨ (b < a ∧ cmpI a b = 1) := by
  unfold cmpI
  by_cases h1 : a < b
  · exact Or.inl ⟨h1, by rw [decide_eq_true h1]; rfl⟩
  · by_cases h2 : b < a
    · exact Or.inr (Or.inr ⟨h2, by rw [decide_eq_false h1, decide_eq_true h2]; rfl⟩)
    · exact Or.inr (Or.inl ⟨by omega, by rw [decide_eq_false h1, decide_eq_false h2]; rfl⟩)
theorem orI_neg (i p s i' p' s' : Int) : decide (orI (cmpI p' p) (orI (cmpI s s') (cmpI i i')) < 0) = jobB i p s i' p' s' := by
  unfold jobB
  rw [Bool.eq_iff_iff, orI_eq, orI_eq]
  rcases cmpI_cases p' p with ⟨h, e⟩ | ⟨h, e⟩ | ⟨h, e⟩ <;> rcases cmpI_cases s s' with ⟨g, d⟩ | ⟨g, d⟩ | ⟨g, d⟩ <;> rcases cmpI_cases i i' with ⟨k, c⟩ | ⟨k, c⟩ | ⟨k, c⟩ <;> rw [e, d, c] <;> simp <;> omega
theorem orI_neg2 (i l i' l' : Int) : decide (orI (cmpI l l') (cmpI i i') < 0) = nodeLB i l i' l' := by
  unfold nodeLB
  rw [Bool.eq_iff_iff, orI_eq]
  rcases cmpI_cases l l' with ⟨g, d⟩ | ⟨g, d⟩ | ⟨g, d⟩ <;> rcases cmpI_cases i i' with ⟨k, c⟩ | ⟨k, c⟩ | ⟨k, c⟩ <;> rw [d, c] <;> simp <;> omega
theorem refJob_s (i p s h n a b c i' p' s' h' n' a' b' c' : Int) : Pure Try.prog 0 34 [jobV i p s h n a b c, jobV i' p' s' h' n' a' b' c'] (fun v => v = .bool (jobB i p s i' p' s')) := by
  refine Pure.body tt_ok mixed Try.func34 rfl (Nat.le_of_ble_eq_true rfl) ?_
  (conv => whnf)
  repeat' (first | (refine @And.intro (chkAll _ = true) _ ?_ ?_; (· kernel_rfl); (conv => whnf)) | (refine JoinG.direct ?_; (conv => whnf)) | (refine AppG.mk ?_; (conv => whnf)) | (refine both_intro ?_ ?_ <;> (conv => whnf)) | (exact VR.int _ _) | (exact VR.bool _) | (refine VR.ptr ?_; kernel_rfl) | (refine VR.slice ?_; kernel_rfl) | (exact VR.sliceN _ _) | (refine VR.map ?_; kernel_rfl) | (exact VR.clean _ rfl) | (refine VR.aggOf ?_) | (refine OR.cellsOf ?_) | (exact AR.same _ rfl) | (exact trivial) | (refine amb_no ?_ ?_; (· exact Nat.succ_ne_zero _); (conv => whnf)) | (refine And.intro ?_ ?_; (· (first | decide | omega | (simp only [IntKind.wrap_i64]; omega) | (simp only [List.length_append]; omega) | (simp only [IntKind.wrap_i64, List.length_append]; omega) | (simp only [IntKind.wrap_i64, List.length_append, Int.natCast_add]; omega) | exact keepP_same _ _ _ | (repeat (first | exact trivial | refine And.intro rfl ?_)))); (conv => whnf)) | (refine fun (nc : Nat) (hnc : _ ≤ nc) => ?_; (conv => whnf)) | (refine bif2_true ?_ ?_; (· assumption); (conv => whnf)) | (refine bif2_false ?_ ?_; (· assumption); (conv => whnf)) | (refine bif2_split (fun h => ?_) (fun h => ?_) <;> (conv => whnf)))
  all_goals (refine ⟨congrArg Value.bool ?_, rfl⟩; unfold jobB; rw [Bool.eq_iff_iff]; simp_all <;> omega)
abbrev k3 (a b c : Int) : Value := .agg #[.int .i64 a, .int .i64 b, .int .i64 c]
theorem jobKey_s (i p s h n a b c : Int) : Pure Try.prog 0 59 [jobV i p s h n a b c] (fun v => v = k3 (IntKind.i64.wrap (9223372036854775807 - imax p 0)) s i) := by
  refine Pure.body tt_ok mixed Try.func59 rfl (Nat.le_of_ble_eq_true rfl) ?_
  (conv => whnf)
  exact ⟨rfl, rfl⟩
theorem nodeL_s (id inc ld c0 c1 c2 u0 u1 u2 : Int) (up : Bool) (id' inc' ld' c0' c1' c2' u0' u1' u2' : Int) (up' : Bool) : Pure Try.prog 0 66 [nodeV id inc ld c0 c1 c2 u0 u1 u2 up, nodeV id' inc' ld' c0' c1' c2' u0' u1' u2' up'] (fun v => v = .bool (nodeLB id ld id' ld')) := by
  refine Pure.body tt_ok mixed Try.func66 rfl (Nat.le_of_ble_eq_true rfl) ?_
  (conv => whnf)
  repeat' (first | (refine CallG.val (cmp_s _ _) pl74 rfl (Nat.zero_le _) ?_; (conv => whnf)) | (refine CallG.body tt_ok mixed Try.func78 (by kernel_rfl) rfl (Nat.le_of_ble_eq_true rfl) ?_; (conv => whnf)) | (refine LoopG.unroll 5 ?_; (conv => whnf)) | (refine @And.intro (chkAll _ = true) _ ?_ ?_; (· kernel_rfl); (conv => whnf)) | (refine JoinG.direct ?_; (conv => whnf)) | (refine AppG.mk ?_; (conv => whnf)) | (refine both_intro ?_ ?_ <;> (conv => whnf)) | (exact VR.int _ _) | (exact VR.bool _) | (refine VR.ptr ?_; kernel_rfl) | (refine VR.slice ?_; kernel_rfl) | (exact VR.sliceN _ _) | (refine VR.map ?_; kernel_rfl) | (exact VR.clean _ rfl) | (refine VR.aggOf ?_) | (refine OR.cellsOf ?_) | (exact AR.same _ rfl) | (exact trivial) | (refine amb_no ?_ ?_; (· exact Nat.succ_ne_zero _); (conv => whnf)) | (refine And.intro ?_ ?_; (· (first | decide | omega | (simp only [IntKind.wrap_i64]; omega) | (simp only [List.length_append]; omega) | (simp only [IntKind.wrap_i64, List.length_append]; omega) | (simp only [IntKind.wrap_i64, List.length_append, Int.natCast_add]; omega) | exact keepP_same _ _ _ | (repeat (first | exact trivial | refine And.intro rfl ?_)))); (conv => whnf)) | (refine fun (nc : Nat) (hnc : _ ≤ nc) => ?_; (conv => whnf)) | (refine bif2_true ?_ ?_; (· assumption); (conv => whnf)) | (refine bif2_false ?_ ?_; (· assumption); (conv => whnf)) | (refine bif2_split (fun h => ?_) (fun h => ?_) <;> (conv => whnf)))
  all_goals (refine ⟨congrArg Value.bool ?_, rfl⟩; rw [← orI_neg2]; refine congrArg (fun x => decide (x < 0)) ?_; simp_all [orI_eq])
theorem nodeKey_s (id inc ld c0 c1 c2 u0 u1 u2 : Int) (up : Bool) : Pure Try.prog 0 63 [nodeV id inc ld c0 c1 c2 u0 u1 u2 up] (fun v => v = k3 ld id 0) := by
  refine Pure.body tt_ok mixed Try.func63 rfl (Nat.le_of_ble_eq_true rfl) ?_
  (conv => whnf)
  exact ⟨rfl, rfl⟩
theorem refTakes_s (id inc ld c0 c1 c2 u0 u1 u2 : Int) (up : Bool) (x y z : Int) : Pure Try.prog 0 61 [nodeV id inc ld c0 c1 c2 u0 u1 u2 up, r3 x y z] (fun v => v = .bool (takesB c0 c1 c2 u0 u1 u2 up x y z)) := by
  refine Pure.body tt_ok mixed Try.func61 rfl (Nat.le_of_ble_eq_true rfl) ?_
  cases up
  all_goals
    (conv => whnf)
    repeat' (first | (refine CallG.val (refFree_s _ _ _ _ _ _ _ _ _ _) pl75 rfl (Nat.zero_le _) ?_; (conv => whnf)) | (refine @And.intro (chkAll _ = true) _ ?_ ?_; (· kernel_rfl); (conv => whnf)) | (refine JoinG.direct ?_; (conv => whnf)) | (refine AppG.mk ?_; (conv => whnf)) | (refine both_intro ?_ ?_ <;> (conv => whnf)) | (exact VR.int _ _) | (exact VR.bool _) | (refine VR.ptr ?_; kernel_rfl) | (refine VR.slice ?_; kernel_rfl) | (exact VR.sliceN _ _) | (refine VR.map ?_; kernel_rfl) | (exact VR.clean _ rfl) | (refine VR.aggOf ?_) | (refine OR.cellsOf ?_) | (exact AR.same _ rfl) | (exact trivial) | (refine amb_no ?_ ?_; (· exact Nat.succ_ne_zero _); (conv => whnf)) | (refine And.intro ?_ ?_; (· (first | decide | omega | (simp only [IntKind.wrap_i64]; omega) | (simp only [List.length_append]; omega) | (simp only [IntKind.wrap_i64, List.length_append]; omega) | (simp only [IntKind.wrap_i64, List.length_append, Int.natCast_add]; omega) | exact keepP_same _ _ _ | (repeat (first | exact trivial | refine And.intro rfl ?_)))); (conv => whnf)) | (refine fun (nc : Nat) (hnc : _ ≤ nc) => ?_; (conv => whnf)) | (refine bif2_true ?_ ?_; (· assumption); (conv => whnf)) | (refine bif2_false ?_ ?_; (· assumption); (conv => whnf)) | (refine bif2_split (fun h => ?_) (fun h => ?_) <;> (conv => whnf)))
    all_goals (refine ⟨?_, rfl⟩; simp_all [takesB, fitsR] <;> omega)
def lessB (a b c a' b' c' : Int) : Bool := decide (orI (cmpI a a') (orI (cmpI b b') (cmpI c c')) < 0)
theorem less_s (a b c a' b' c' : Int) : Pure Try.prog 0 18 [k3 a b c, k3 a' b' c'] (fun v => v = .bool (lessB a b c a' b' c')) := by
  refine Pure.body tt_ok mixed Try.func18 rfl (Nat.le_of_ble_eq_true rfl) ?_
  (conv => whnf)
  repeat' (first | (refine CallG.val (cmp_s _ _) pl74 rfl (Nat.zero_le _) ?_; (conv => whnf)) | (refine CallG.body tt_ok mixed Try.func57 (by kernel_rfl) rfl (Nat.le_of_ble_eq_true rfl) ?_; (conv => whnf)) | (refine LoopG.unroll 5 ?_; (conv => whnf)) | (refine @And.intro (chkAll _ = true) _ ?_ ?_; (· kernel_rfl); (conv => whnf)) | (refine JoinG.direct ?_; (conv => whnf)) | (refine AppG.mk ?_; (conv => whnf)) | (refine both_intro ?_ ?_ <;> (conv => whnf)) | (exact VR.int _ _) | (exact VR.bool _) | (refine VR.ptr ?_; kernel_rfl) | (refine VR.slice ?_; kernel_rfl) | (exact VR.sliceN _ _) | (refine VR.map ?_; kernel_rfl) | (exact VR.clean _ rfl) | (refine VR.aggOf ?_) | (refine OR.cellsOf ?_) | (exact AR.same _ rfl) | (exact trivial) | (refine amb_no ?_ ?_; (· exact Nat.succ_ne_zero _); (conv => whnf)) | (refine And.intro ?_ ?_; (· (first | decide | omega | (simp only [IntKind.wrap_i64]; omega) | (simp only [List.length_append]; omega) | (simp only [IntKind.wrap_i64, List.length_append]; omega) | (simp only [IntKind.wrap_i64, List.length_append, Int.natCast_add]; omega) | exact keepP_same _ _ _ | (repeat (first | exact trivial | refine And.intro rfl ?_)))); (conv => whnf)) | (refine fun (nc : Nat) (hnc : _ ≤ nc) => ?_; (conv => whnf)) | (refine bif2_true ?_ ?_; (· assumption); (conv => whnf)) | (refine bif2_false ?_ ?_; (· assumption); (conv => whnf)) | (refine bif2_split (fun h => ?_) (fun h => ?_) <;> (conv => whnf)))
  all_goals (refine ⟨congrArg Value.bool ?_, rfl⟩; unfold lessB; refine congrArg (fun x => decide (x < 0)) ?_; simp_all [orI_eq])
end Go.Proofs.Ytdligbcmhjhkfaa

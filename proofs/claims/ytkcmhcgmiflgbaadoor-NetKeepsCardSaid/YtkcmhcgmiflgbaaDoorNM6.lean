/- Which messages may be: what each of the two says. -/
import Derived.Test.YtkcmhcgmiflgbaaDoorNM5

namespace Go.Proofs.YtkcmhcgmiflgbaaDoor
open Go.RowKit
set_option maxRecDepth 100000
set_option maxHeartbeats 4000000
def endF (k : Int) : Int := if k = 1 then 2 else if k = 2 ∨ k = 3 ∨ k = 4 then 1 else if k = 5 then 2 else if k = 6 ∨ k = 7 then 3 else 1
def endT (k : Int) : Int := if k = 1 then 1 else if k = 2 ∨ k = 3 ∨ k = 4 then 2 else if k = 5 then 1 else if k = 6 ∨ k = 7 then 1 else 3
def kindB (k : Int) : Bool := decide (1 ≤ k) && decide (k ≤ 8)
def okM (m : Msg) : Bool := kindB m.k && (decide (pureM m = m) && (placeI m.f == endF m.k && (placeI m.t == endT m.k && (numsB m && rightR m.x m.y m.z))))
def chkM (m : Msg) : Int := if kindB m.k then (if okM m then 0 else 1) else 5
abbrev waysL : List Value := [i64 2, i64 1, i64 1, i64 2, i64 1, i64 2, i64 1, i64 2, i64 2, i64 1, i64 3, i64 1, i64 3, i64 1, i64 1, i64 3]
theorem check_1 (t0 : TypeId) (fz : Nat × Nat) (f t e i j q p c x y z : Int) : PureV Tryd.prog (.cells ⟨waysL⟩ t0 fz) 25 [mA 1 f t e i j q p c x y z] (fun v => v = i64 (chkM ⟨1, f, t, e, i, j, q, p, c, x, y, z⟩)) := by
  refine PureV.body tt_ok mixed Tryd.func25 rfl (Nat.le_of_ble_eq_true rfl) ?_
  obtain ⟨pm, hpm⟩ : ∃ pm, pureM ⟨1, f, t, e, i, j, q, p, c, x, y, z⟩ = pm := ⟨_, rfl⟩
  have hP := pure_a 1 f t e i j q p c x y z
  rw [hpm] at hP
  obtain ⟨k', f', t', e', i', j', q', p', c', x', y', z'⟩ := pm
  have hR := right_1 f t e i j q p c x y z
  generalize hr : (numsB ⟨1, f, t, e, i, j, q, p, c, x, y, z⟩ && rightR x y z) = rr at hR
  (conv => whnf)
  repeat' (first | (refine CallG.body tt_ok mixed Tryd.func38 (by kernel_rfl) rfl (Nat.le_of_ble_eq_true rfl) ?_; (conv => whnf)) | (refine CallG.body tt_ok mixed Tryd.func46 (by kernel_rfl) rfl (Nat.le_of_ble_eq_true rfl) ?_; (conv => whnf)) | (refine CallG.val0 (place_s _) pl39 rfl ?_; (conv => whnf)) | (refine CallG.val0 (hP) pl40 rfl ?_; (conv => whnf)) | (refine CallG.val0 (hR) pl41 rfl ?_; (conv => whnf)) | (refine @And.intro (chkAll _ = true) _ ?_ ?_; (· kernel_rfl); (conv => whnf)) | (refine JoinG.direct ?_; (conv => whnf)) | (refine AppG.mk ?_; (conv => whnf)) | (refine both_intro ?_ ?_ <;> (conv => whnf)) | (exact VR.int _ _) | (exact VR.bool _) | (refine VR.ptr ?_; kernel_rfl) | (refine VR.slice ?_; kernel_rfl) | (exact VR.sliceN _ _) | (refine VR.map ?_; kernel_rfl) | (exact VR.clean _ rfl) | (refine VR.aggOf ?_) | (refine OR.cellsOf ?_) | (exact AR.same _ rfl) | (exact trivial) | (refine amb_no ?_ ?_; (· exact Nat.succ_ne_zero _); (conv => whnf)) | (refine And.intro ?_ ?_; (· (first | decide | omega | (simp only []; omega) | (simp only []; omega) | (simp only []; omega) | (simp only []; omega) | exact keepP_same _ _ _ | (repeat (first | exact trivial | refine And.intro rfl ?_)))); (conv => whnf)) | (refine fun (nc : Nat) (hnc : _ ≤ nc) => ?_; (conv => whnf)) | (refine bif2_true ?_ ?_; (· assumption); (conv => whnf)) | (refine bif2_false ?_ ?_; (· assumption); (conv => whnf)) | (refine bif2_split (fun h => ?_) (fun h => ?_) <;> (conv => whnf)))
  all_goals (clear hP hR; refine ⟨congrArg i64 ?_, rfl⟩; simp [chkM, okM, kindB, endF, endT, hpm, hr]; first | (simp_all; done) | (simp_all <;> intros <;> exfalso <;> omega))
theorem check_2 (t0 : TypeId) (fz : Nat × Nat) (f t e i j q p c x y z : Int) : PureV Tryd.prog (.cells ⟨waysL⟩ t0 fz) 25 [mA 2 f t e i j q p c x y z] (fun v => v = i64 (chkM ⟨2, f, t, e, i, j, q, p, c, x, y, z⟩)) := by
  refine PureV.body tt_ok mixed Tryd.func25 rfl (Nat.le_of_ble_eq_true rfl) ?_
  obtain ⟨pm, hpm⟩ : ∃ pm, pureM ⟨2, f, t, e, i, j, q, p, c, x, y, z⟩ = pm := ⟨_, rfl⟩
  have hP := pure_a 2 f t e i j q p c x y z
  rw [hpm] at hP
  obtain ⟨k', f', t', e', i', j', q', p', c', x', y', z'⟩ := pm
  have hR := right_2 f t e i j q p c x y z
  generalize hr : (numsB ⟨2, f, t, e, i, j, q, p, c, x, y, z⟩ && rightR x y z) = rr at hR
  (conv => whnf)
  repeat' (first | (refine CallG.body tt_ok mixed Tryd.func38 (by kernel_rfl) rfl (Nat.le_of_ble_eq_true rfl) ?_; (conv => whnf)) | (refine CallG.body tt_ok mixed Tryd.func46 (by kernel_rfl) rfl (Nat.le_of_ble_eq_true rfl) ?_; (conv => whnf)) | (refine CallG.val0 (place_s _) pl39 rfl ?_; (conv => whnf)) | (refine CallG.val0 (hP) pl40 rfl ?_; (conv => whnf)) | (refine CallG.val0 (hR) pl41 rfl ?_; (conv => whnf)) | (refine @And.intro (chkAll _ = true) _ ?_ ?_; (· kernel_rfl); (conv => whnf)) | (refine JoinG.direct ?_; (conv => whnf)) | (refine AppG.mk ?_; (conv => whnf)) | (refine both_intro ?_ ?_ <;> (conv => whnf)) | (exact VR.int _ _) | (exact VR.bool _) | (refine VR.ptr ?_; kernel_rfl) | (refine VR.slice ?_; kernel_rfl) | (exact VR.sliceN _ _) | (refine VR.map ?_; kernel_rfl) | (exact VR.clean _ rfl) | (refine VR.aggOf ?_) | (refine OR.cellsOf ?_) | (exact AR.same _ rfl) | (exact trivial) | (refine amb_no ?_ ?_; (· exact Nat.succ_ne_zero _); (conv => whnf)) | (refine And.intro ?_ ?_; (· (first | decide | omega | (simp only []; omega) | (simp only []; omega) | (simp only []; omega) | (simp only []; omega) | exact keepP_same _ _ _ | (repeat (first | exact trivial | refine And.intro rfl ?_)))); (conv => whnf)) | (refine fun (nc : Nat) (hnc : _ ≤ nc) => ?_; (conv => whnf)) | (refine bif2_true ?_ ?_; (· assumption); (conv => whnf)) | (refine bif2_false ?_ ?_; (· assumption); (conv => whnf)) | (refine bif2_split (fun h => ?_) (fun h => ?_) <;> (conv => whnf)))
  all_goals (clear hP hR; refine ⟨congrArg i64 ?_, rfl⟩; simp [chkM, okM, kindB, endF, endT, hpm, hr]; first | (simp_all; done) | (simp_all <;> intros <;> exfalso <;> omega))
theorem check_3 (t0 : TypeId) (fz : Nat × Nat) (f t e i j q p c x y z : Int) : PureV Tryd.prog (.cells ⟨waysL⟩ t0 fz) 25 [mA 3 f t e i j q p c x y z] (fun v => v = i64 (chkM ⟨3, f, t, e, i, j, q, p, c, x, y, z⟩)) := by
  refine PureV.body tt_ok mixed Tryd.func25 rfl (Nat.le_of_ble_eq_true rfl) ?_
  obtain ⟨pm, hpm⟩ : ∃ pm, pureM ⟨3, f, t, e, i, j, q, p, c, x, y, z⟩ = pm := ⟨_, rfl⟩
  have hP := pure_a 3 f t e i j q p c x y z
  rw [hpm] at hP
  obtain ⟨k', f', t', e', i', j', q', p', c', x', y', z'⟩ := pm
  have hR := right_3 f t e i j q p c x y z
  generalize hr : (numsB ⟨3, f, t, e, i, j, q, p, c, x, y, z⟩ && rightR x y z) = rr at hR
  (conv => whnf)
  repeat' (first | (refine CallG.body tt_ok mixed Tryd.func38 (by kernel_rfl) rfl (Nat.le_of_ble_eq_true rfl) ?_; (conv => whnf)) | (refine CallG.body tt_ok mixed Tryd.func46 (by kernel_rfl) rfl (Nat.le_of_ble_eq_true rfl) ?_; (conv => whnf)) | (refine CallG.val0 (place_s _) pl39 rfl ?_; (conv => whnf)) | (refine CallG.val0 (hP) pl40 rfl ?_; (conv => whnf)) | (refine CallG.val0 (hR) pl41 rfl ?_; (conv => whnf)) | (refine @And.intro (chkAll _ = true) _ ?_ ?_; (· kernel_rfl); (conv => whnf)) | (refine JoinG.direct ?_; (conv => whnf)) | (refine AppG.mk ?_; (conv => whnf)) | (refine both_intro ?_ ?_ <;> (conv => whnf)) | (exact VR.int _ _) | (exact VR.bool _) | (refine VR.ptr ?_; kernel_rfl) | (refine VR.slice ?_; kernel_rfl) | (exact VR.sliceN _ _) | (refine VR.map ?_; kernel_rfl) | (exact VR.clean _ rfl) | (refine VR.aggOf ?_) | (refine OR.cellsOf ?_) | (exact AR.same _ rfl) | (exact trivial) | (refine amb_no ?_ ?_; (· exact Nat.succ_ne_zero _); (conv => whnf)) | (refine And.intro ?_ ?_; (· (first | decide | omega | (simp only []; omega) | (simp only []; omega) | (simp only []; omega) | (simp only []; omega) | exact keepP_same _ _ _ | (repeat (first | exact trivial | refine And.intro rfl ?_)))); (conv => whnf)) | (refine fun (nc : Nat) (hnc : _ ≤ nc) => ?_; (conv => whnf)) | (refine bif2_true ?_ ?_; (· assumption); (conv => whnf)) | (refine bif2_false ?_ ?_; (· assumption); (conv => whnf)) | (refine bif2_split (fun h => ?_) (fun h => ?_) <;> (conv => whnf)))
  all_goals (clear hP hR; refine ⟨congrArg i64 ?_, rfl⟩; simp [chkM, okM, kindB, endF, endT, hpm, hr]; first | (simp_all; done) | (simp_all <;> intros <;> exfalso <;> omega))
theorem check_4 (t0 : TypeId) (fz : Nat × Nat) (f t e i j q p c x y z : Int) : PureV Tryd.prog (.cells ⟨waysL⟩ t0 fz) 25 [mA 4 f t e i j q p c x y z] (fun v => v = i64 (chkM ⟨4, f, t, e, i, j, q, p, c, x, y, z⟩)) := by
  refine PureV.body tt_ok mixed Tryd.func25 rfl (Nat.le_of_ble_eq_true rfl) ?_
  obtain ⟨pm, hpm⟩ : ∃ pm, pureM ⟨4, f, t, e, i, j, q, p, c, x, y, z⟩ = pm := ⟨_, rfl⟩
  have hP := pure_a 4 f t e i j q p c x y z
  rw [hpm] at hP
  obtain ⟨k', f', t', e', i', j', q', p', c', x', y', z'⟩ := pm
  have hR := right_4 f t e i j q p c x y z
  generalize hr : (numsB ⟨4, f, t, e, i, j, q, p, c, x, y, z⟩ && rightR x y z) = rr at hR
  (conv => whnf)
  repeat' (first | (refine CallG.body tt_ok mixed Tryd.func38 (by kernel_rfl) rfl (Nat.le_of_ble_eq_true rfl) ?_; (conv => whnf)) | (refine CallG.body tt_ok mixed Tryd.func46 (by kernel_rfl) rfl (Nat.le_of_ble_eq_true rfl) ?_; (conv => whnf)) | (refine CallG.val0 (place_s _) pl39 rfl ?_; (conv => whnf)) | (refine CallG.val0 (hP) pl40 rfl ?_; (conv => whnf)) | (refine CallG.val0 (hR) pl41 rfl ?_; (conv => whnf)) | (refine @And.intro (chkAll _ = true) _ ?_ ?_; (· kernel_rfl); (conv => whnf)) | (refine JoinG.direct ?_; (conv => whnf)) | (refine AppG.mk ?_; (conv => whnf)) | (refine both_intro ?_ ?_ <;> (conv => whnf)) | (exact VR.int _ _) | (exact VR.bool _) | (refine VR.ptr ?_; kernel_rfl) | (refine VR.slice ?_; kernel_rfl) | (exact VR.sliceN _ _) | (refine VR.map ?_; kernel_rfl) | (exact VR.clean _ rfl) | (refine VR.aggOf ?_) | (refine OR.cellsOf ?_) | (exact AR.same _ rfl) | (exact trivial) | (refine amb_no ?_ ?_; (· exact Nat.succ_ne_zero _); (conv => whnf)) | (refine And.intro ?_ ?_; (· (first | decide | omega | (simp only []; omega) | (simp only []; omega) | (simp only []; omega) | (simp only []; omega) | exact keepP_same _ _ _ | (repeat (first | exact trivial | refine And.intro rfl ?_)))); (conv => whnf)) | (refine fun (nc : Nat) (hnc : _ ≤ nc) => ?_; (conv => whnf)) | (refine bif2_true ?_ ?_; (· assumption); (conv => whnf)) | (refine bif2_false ?_ ?_; (· assumption); (conv => whnf)) | (refine bif2_split (fun h => ?_) (fun h => ?_) <;> (conv => whnf)))
  all_goals (clear hP hR; refine ⟨congrArg i64 ?_, rfl⟩; simp [chkM, okM, kindB, endF, endT, hpm, hr]; first | (simp_all; done) | (simp_all <;> intros <;> exfalso <;> omega))
theorem check_5 (t0 : TypeId) (fz : Nat × Nat) (f t e i j q p c x y z : Int) : PureV Tryd.prog (.cells ⟨waysL⟩ t0 fz) 25 [mA 5 f t e i j q p c x y z] (fun v => v = i64 (chkM ⟨5, f, t, e, i, j, q, p, c, x, y, z⟩)) := by
  refine PureV.body tt_ok mixed Tryd.func25 rfl (Nat.le_of_ble_eq_true rfl) ?_
  obtain ⟨pm, hpm⟩ : ∃ pm, pureM ⟨5, f, t, e, i, j, q, p, c, x, y, z⟩ = pm := ⟨_, rfl⟩
  have hP := pure_a 5 f t e i j q p c x y z
  rw [hpm] at hP
  obtain ⟨k', f', t', e', i', j', q', p', c', x', y', z'⟩ := pm
  have hR := right_5 f t e i j q p c x y z
  generalize hr : (numsB ⟨5, f, t, e, i, j, q, p, c, x, y, z⟩ && rightR x y z) = rr at hR
  (conv => whnf)
  repeat' (first | (refine CallG.body tt_ok mixed Tryd.func38 (by kernel_rfl) rfl (Nat.le_of_ble_eq_true rfl) ?_; (conv => whnf)) | (refine CallG.body tt_ok mixed Tryd.func46 (by kernel_rfl) rfl (Nat.le_of_ble_eq_true rfl) ?_; (conv => whnf)) | (refine CallG.val0 (place_s _) pl39 rfl ?_; (conv => whnf)) | (refine CallG.val0 (hP) pl40 rfl ?_; (conv => whnf)) | (refine CallG.val0 (hR) pl41 rfl ?_; (conv => whnf)) | (refine @And.intro (chkAll _ = true) _ ?_ ?_; (· kernel_rfl); (conv => whnf)) | (refine JoinG.direct ?_; (conv => whnf)) | (refine AppG.mk ?_; (conv => whnf)) | (refine both_intro ?_ ?_ <;> (conv => whnf)) | (exact VR.int _ _) | (exact VR.bool _) | (refine VR.ptr ?_; kernel_rfl) | (refine VR.slice ?_; kernel_rfl) | (exact VR.sliceN _ _) | (refine VR.map ?_; kernel_rfl) | (exact VR.clean _ rfl) | (refine VR.aggOf ?_) | (refine OR.cellsOf ?_) | (exact AR.same _ rfl) | (exact trivial) | (refine amb_no ?_ ?_; (· exact Nat.succ_ne_zero _); (conv => whnf)) | (refine And.intro ?_ ?_; (· (first | decide | omega | (simp only []; omega) | (simp only []; omega) | (simp only []; omega) | (simp only []; omega) | exact keepP_same _ _ _ | (repeat (first | exact trivial | refine And.intro rfl ?_)))); (conv => whnf)) | (refine fun (nc : Nat) (hnc : _ ≤ nc) => ?_; (conv => whnf)) | (refine bif2_true ?_ ?_; (· assumption); (conv => whnf)) | (refine bif2_false ?_ ?_; (· assumption); (conv => whnf)) | (refine bif2_split (fun h => ?_) (fun h => ?_) <;> (conv => whnf)))
  all_goals (clear hP hR; refine ⟨congrArg i64 ?_, rfl⟩; simp [chkM, okM, kindB, endF, endT, hpm, hr]; first | (simp_all; done) | (simp_all <;> intros <;> exfalso <;> omega))
theorem check_6 (t0 : TypeId) (fz : Nat × Nat) (f t e i j q p c x y z : Int) : PureV Tryd.prog (.cells ⟨waysL⟩ t0 fz) 25 [mA 6 f t e i j q p c x y z] (fun v => v = i64 (chkM ⟨6, f, t, e, i, j, q, p, c, x, y, z⟩)) := by
  refine PureV.body tt_ok mixed Tryd.func25 rfl (Nat.le_of_ble_eq_true rfl) ?_
  obtain ⟨pm, hpm⟩ : ∃ pm, pureM ⟨6, f, t, e, i, j, q, p, c, x, y, z⟩ = pm := ⟨_, rfl⟩
  have hP := pure_a 6 f t e i j q p c x y z
  rw [hpm] at hP
  obtain ⟨k', f', t', e', i', j', q', p', c', x', y', z'⟩ := pm
  have hR := right_6 f t e i j q p c x y z
  generalize hr : (numsB ⟨6, f, t, e, i, j, q, p, c, x, y, z⟩ && rightR x y z) = rr at hR
  (conv => whnf)
  repeat' (first | (refine CallG.body tt_ok mixed Tryd.func38 (by kernel_rfl) rfl (Nat.le_of_ble_eq_true rfl) ?_; (conv => whnf)) | (refine CallG.body tt_ok mixed Tryd.func46 (by kernel_rfl) rfl (Nat.le_of_ble_eq_true rfl) ?_; (conv => whnf)) | (refine CallG.val0 (place_s _) pl39 rfl ?_; (conv => whnf)) | (refine CallG.val0 (hP) pl40 rfl ?_; (conv => whnf)) | (refine CallG.val0 (hR) pl41 rfl ?_; (conv => whnf)) | (refine @And.intro (chkAll _ = true) _ ?_ ?_; (· kernel_rfl); (conv => whnf)) | (refine JoinG.direct ?_; (conv => whnf)) | (refine AppG.mk ?_; (conv => whnf)) | (refine both_intro ?_ ?_ <;> (conv => whnf)) | (exact VR.int _ _) | (exact VR.bool _) | (refine VR.ptr ?_; kernel_rfl) | (refine VR.slice ?_; kernel_rfl) | (exact VR.sliceN _ _) | (refine VR.map ?_; kernel_rfl) | (exact VR.clean _ rfl) | (refine VR.aggOf ?_) | (refine OR.cellsOf ?_) | (exact AR.same _ rfl) | (exact trivial) | (refine amb_no ?_ ?_; (· exact Nat.succ_ne_zero _); (conv => whnf)) | (refine And.intro ?_ ?_; (· (first | decide | omega | (simp only []; omega) | (simp only []; omega) | (simp only []; omega) | (simp only []; omega) | exact keepP_same _ _ _ | (repeat (first | exact trivial | refine And.intro rfl ?_)))); (conv => whnf)) | (refine fun (nc : Nat) (hnc : _ ≤ nc) => ?_; (conv => whnf)) | (refine bif2_true ?_ ?_; (· assumption); (conv => whnf)) | (refine bif2_false ?_ ?_; (· assumption); (conv => whnf)) | (refine bif2_split (fun h => ?_) (fun h => ?_) <;> (conv => whnf)))
  all_goals (clear hP hR; refine ⟨congrArg i64 ?_, rfl⟩; simp [chkM, okM, kindB, endF, endT, hpm, hr]; first | (simp_all; done) | (simp_all <;> intros <;> exfalso <;> omega))
theorem check_7 (t0 : TypeId) (fz : Nat × Nat) (f t e i j q p c x y z : Int) : PureV Tryd.prog (.cells ⟨waysL⟩ t0 fz) 25 [mA 7 f t e i j q p c x y z] (fun v => v = i64 (chkM ⟨7, f, t, e, i, j, q, p, c, x, y, z⟩)) := by
  refine PureV.body tt_ok mixed Tryd.func25 rfl (Nat.le_of_ble_eq_true rfl) ?_
  obtain ⟨pm, hpm⟩ : ∃ pm, pureM ⟨7, f, t, e, i, j, q, p, c, x, y, z⟩ = pm := ⟨_, rfl⟩
  have hP := pure_a 7 f t e i j q p c x y z
  rw [hpm] at hP
  obtain ⟨k', f', t', e', i', j', q', p', c', x', y', z'⟩ := pm
  have hR := right_7 f t e i j q p c x y z
  generalize hr : (numsB ⟨7, f, t, e, i, j, q, p, c, x, y, z⟩ && rightR x y z) = rr at hR
  (conv => whnf)
  repeat' (first | (refine CallG.body tt_ok mixed Tryd.func38 (by kernel_rfl) rfl (Nat.le_of_ble_eq_true rfl) ?_; (conv => whnf)) | (refine CallG.body tt_ok mixed Tryd.func46 (by kernel_rfl) rfl (Nat.le_of_ble_eq_true rfl) ?_; (conv => whnf)) | (refine CallG.val0 (place_s _) pl39 rfl ?_; (conv => whnf)) | (refine CallG.val0 (hP) pl40 rfl ?_; (conv => whnf)) | (refine CallG.val0 (hR) pl41 rfl ?_; (conv => whnf)) | (refine @And.intro (chkAll _ = true) _ ?_ ?_; (· kernel_rfl); (conv => whnf)) | (refine JoinG.direct ?_; (conv => whnf)) | (refine AppG.mk ?_; (conv => whnf)) | (refine both_intro ?_ ?_ <;> (conv => whnf)) | (exact VR.int _ _) | (exact VR.bool _) | (refine VR.ptr ?_; kernel_rfl) | (refine VR.slice ?_; kernel_rfl) | (exact VR.sliceN _ _) | (refine VR.map ?_; kernel_rfl) | (exact VR.clean _ rfl) | (refine VR.aggOf ?_) | (refine OR.cellsOf ?_) | (exact AR.same _ rfl) | (exact trivial) | (refine amb_no ?_ ?_; (· exact Nat.succ_ne_zero _); (conv => whnf)) | (refine And.intro ?_ ?_; (· (first | decide | omega | (simp only []; omega) | (simp only []; omega) | (simp only []; omega) | (simp only []; omega) | exact keepP_same _ _ _ | (repeat (first | exact trivial | refine And.intro rfl ?_)))); (conv => whnf)) | (refine fun (nc : Nat) (hnc : _ ≤ nc) => ?_; (conv => whnf)) | (refine bif2_true ?_ ?_; (· assumption); (conv => whnf)) | (refine bif2_false ?_ ?_; (· assumption); (conv => whnf)) | (refine bif2_split (fun h => ?_) (fun h => ?_) <;> (conv => whnf)))
  all_goals (clear hP hR; refine ⟨congrArg i64 ?_, rfl⟩; simp [chkM, okM, kindB, endF, endT, hpm, hr]; first | (simp_all; done) | (simp_all <;> intros <;> exfalso <;> omega))
theorem check_8 (t0 : TypeId) (fz : Nat × Nat) (f t e i j q p c x y z : Int) : PureV Tryd.prog (.cells ⟨waysL⟩ t0 fz) 25 [mA 8 f t e i j q p c x y z] (fun v => v = i64 (chkM ⟨8, f, t, e, i, j, q, p, c, x, y, z⟩)) := by
  refine PureV.body tt_ok mixed Tryd.func25 rfl (Nat.le_of_ble_eq_true rfl) ?_
  obtain ⟨pm, hpm⟩ : ∃ pm, pureM ⟨8, f, t, e, i, j, q, p, c, x, y, z⟩ = pm := ⟨_, rfl⟩
  have hP := pure_a 8 f t e i j q p c x y z
  rw [hpm] at hP
  obtain ⟨k', f', t', e', i', j', q', p', c', x', y', z'⟩ := pm
  have hR := right_8 f t e i j q p c x y z
  generalize hr : (numsB ⟨8, f, t, e, i, j, q, p, c, x, y, z⟩ && rightR x y z) = rr at hR
  (conv => whnf)
  repeat' (first | (refine CallG.body tt_ok mixed Tryd.func38 (by kernel_rfl) rfl (Nat.le_of_ble_eq_true rfl) ?_; (conv => whnf)) | (refine CallG.body tt_ok mixed Tryd.func46 (by kernel_rfl) rfl (Nat.le_of_ble_eq_true rfl) ?_; (conv => whnf)) | (refine CallG.val0 (place_s _) pl39 rfl ?_; (conv => whnf)) | (refine CallG.val0 (hP) pl40 rfl ?_; (conv => whnf)) | (refine CallG.val0 (hR) pl41 rfl ?_; (conv => whnf)) | (refine @And.intro (chkAll _ = true) _ ?_ ?_; (· kernel_rfl); (conv => whnf)) | (refine JoinG.direct ?_; (conv => whnf)) | (refine AppG.mk ?_; (conv => whnf)) | (refine both_intro ?_ ?_ <;> (conv => whnf)) | (exact VR.int _ _) | (exact VR.bool _) | (refine VR.ptr ?_; kernel_rfl) | (refine VR.slice ?_; kernel_rfl) | (exact VR.sliceN _ _) | (refine VR.map ?_; kernel_rfl) | (exact VR.clean _ rfl) | (refine VR.aggOf ?_) | (refine OR.cellsOf ?_) | (exact AR.same _ rfl) | (exact trivial) | (refine amb_no ?_ ?_; (· exact Nat.succ_ne_zero _); (conv => whnf)) | (refine And.intro ?_ ?_; (· (first | decide | omega | (simp only []; omega) | (simp only []; omega) | (simp only []; omega) | (simp only []; omega) | exact keepP_same _ _ _ | (repeat (first | exact trivial | refine And.intro rfl ?_)))); (conv => whnf)) | (refine fun (nc : Nat) (hnc : _ ≤ nc) => ?_; (conv => whnf)) | (refine bif2_true ?_ ?_; (· assumption); (conv => whnf)) | (refine bif2_false ?_ ?_; (· assumption); (conv => whnf)) | (refine bif2_split (fun h => ?_) (fun h => ?_) <;> (conv => whnf)))
  all_goals (clear hP hR; refine ⟨congrArg i64 ?_, rfl⟩; simp [chkM, okM, kindB, endF, endT, hpm, hr]; first | (simp_all; done) | (simp_all <;> intros <;> exfalso <;> omega))
theorem check_no (t0 : TypeId) (fz : Nat × Nat) (k f t e i j q p c x y z : Int) (hk : k ≠ 1 ∧ k ≠ 2 ∧ k ≠ 3 ∧ k ≠ 4 ∧ k ≠ 5 ∧ k ≠ 6 ∧ k ≠ 7 ∧ k ≠ 8) : PureV Tryd.prog (.cells ⟨waysL⟩ t0 fz) 25 [mA k f t e i j q p c x y z] (fun v => v = i64 (chkM ⟨k, f, t, e, i, j, q, p, c, x, y, z⟩)) := by
  refine PureV.body tt_ok mixed Tryd.func25 rfl (Nat.le_of_ble_eq_true rfl) ?_
  have hb : kindB k = false := by unfold kindB; rw [Bool.eq_false_iff]; simp; omega
  obtain ⟨h1, h2, h3, h4, h5, h6, h7, h8⟩ := hk
  (conv => whnf)
  repeat' (first | (refine CallG.body tt_ok mixed Tryd.func38 (by kernel_rfl) rfl (Nat.le_of_ble_eq_true rfl) ?_; (conv => whnf)) | (refine CallG.body tt_ok mixed Tryd.func46 (by kernel_rfl) rfl (Nat.le_of_ble_eq_true rfl) ?_; (conv => whnf)) | (refine @And.intro (chkAll _ = true) _ ?_ ?_; (· kernel_rfl); (conv => whnf)) | (refine JoinG.direct ?_; (conv => whnf)) | (refine AppG.mk ?_; (conv => whnf)) | (refine both_intro ?_ ?_ <;> (conv => whnf)) | (exact VR.int _ _) | (exact VR.bool _) | (refine VR.ptr ?_; kernel_rfl) | (refine VR.slice ?_; kernel_rfl) | (exact VR.sliceN _ _) | (refine VR.map ?_; kernel_rfl) | (exact VR.clean _ rfl) | (refine VR.aggOf ?_) | (refine OR.cellsOf ?_) | (exact AR.same _ rfl) | (exact trivial) | (refine amb_no ?_ ?_; (· exact Nat.succ_ne_zero _); (conv => whnf)) | (refine And.intro ?_ ?_; (· (first | decide | omega | (simp only []; omega) | (simp only []; omega) | (simp only []; omega) | (simp only []; omega) | exact keepP_same _ _ _ | (repeat (first | exact trivial | refine And.intro rfl ?_)))); (conv => whnf)) | (refine fun (nc : Nat) (hnc : _ ≤ nc) => ?_; (conv => whnf)) | (refine bif2_true ?_ ?_; (· assumption); (conv => whnf)) | (refine bif2_false ?_ ?_; (· assumption); (conv => whnf)) | (refine bif2_split (fun h => ?_) (fun h => ?_) <;> (conv => whnf)))
  all_goals first | (exfalso; simp at *; omega) | (refine ⟨congrArg i64 ?_, rfl⟩; simp [chkM, hb])
theorem check_v (t0 : TypeId) (fz : Nat × Nat) (m : Msg) : PureV Tryd.prog (.cells ⟨waysL⟩ t0 fz) 25 [mv m] (fun v => v = i64 (chkM m)) := by
  obtain ⟨k, f, t, e, i, j, q, p, c, x, y, z⟩ := m
  rcases kind_or k with rfl | rfl | rfl | rfl | rfl | rfl | rfl | rfl | hk
  · exact check_1 t0 fz f t e i j q p c x y z
  · exact check_2 t0 fz f t e i j q p c x y z
  · exact check_3 t0 fz f t e i j q p c x y z
  · exact check_4 t0 fz f t e i j q p c x y z
  · exact check_5 t0 fz f t e i j q p c x y z
  · exact check_6 t0 fz f t e i j q p c x y z
  · exact check_7 t0 fz f t e i j q p c x y z
  · exact check_8 t0 fz f t e i j q p c x y z
  · exact check_no t0 fz k f t e i j q p c x y z hk
end Go.Proofs.YtkcmhcgmiflgbaaDoor

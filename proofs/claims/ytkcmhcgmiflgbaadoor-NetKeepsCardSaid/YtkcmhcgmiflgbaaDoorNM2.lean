/- A message without what its kind does not name: the program's, and the document's. -/
import Derived.Test.YtkcmhcgmiflgbaaDoorNM1

namespace Go.Proofs.YtkcmhcgmiflgbaaDoor
open Go.RowKit
theorem kind_or (k : Int) : k = 1 ∨ k = 2 ∨ k = 3 ∨ k = 4 ∨ k = 5 ∨ k = 6 ∨ k = 7 ∨ k = 8 ∨ (k ≠ 1 ∧ k ≠ 2 ∧ k ≠ 3 ∧ k ≠ 4 ∧ k ≠ 5 ∧ k ≠ 6 ∧ k ≠ 7 ∧ k ≠ 8) := by omega
theorem pureM_no {m : Msg} (h : m.k ≠ 1 ∧ m.k ≠ 2 ∧ m.k ≠ 3 ∧ m.k ≠ 4 ∧ m.k ≠ 5 ∧ m.k ≠ 6 ∧ m.k ≠ 7 ∧ m.k ≠ 8) : pureM m = m0 := by
  obtain ⟨h1, h2, h3, h4, h5, h6, h7, h8⟩ := h
  simp [pureM, h1, h2, h3, h4, h5, h6, h7, h8]
abbrev mA (k f t e i j q p c x y z : Int) : Value := .agg #[.int .i64 k, .int .i64 f, .int .i64 t, .int .i64 e, .int .i64 i, .int .i64 j, .int .i64 q, .int .i64 p, .int .i64 c, .int .i64 x, .int .i64 y, .int .i64 z]
abbrev sA (l : List UInt8) : ByteArray := ⟨⟨l⟩⟩
abbrev emptyE (l : List UInt8) : Bool := (sA l).toList == (sA []).toList
theorem ee0 : emptyE [] = true := by decide +kernel
theorem ee1 : emptyE [73, 84, 82] = false := by decide +kernel
theorem ee2 : emptyE [69, 73, 84] = false := by decide +kernel
theorem ee3 : emptyE [69, 73, 74] = false := by decide +kernel
theorem ee5 : emptyE [73, 74] = false := by decide +kernel
theorem ee6 : emptyE [74, 80, 82] = false := by decide +kernel
theorem ee7 : emptyE [74] = false := by decide +kernel
theorem ee8 : emptyE [74, 67] = false := by decide +kernel
set_option maxRecDepth 100000
set_option maxHeartbeats 4000000
theorem pure_a (k f t e i j q p c x y z : Int) : Pure Tryd.prog 0 40 [mA k f t e i j q p c x y z] (fun v => v = mv (pureM ⟨k, f, t, e, i, j, q, p, c, x, y, z⟩)) := by
  rcases kind_or k with rfl | rfl | rfl | rfl | rfl | rfl | rfl | rfl | hk
  case inr.inr.inr.inr.inr.inr.inr.inr =>
    have hp : pureM ⟨k, f, t, e, i, j, q, p, c, x, y, z⟩ = m0 := pureM_no hk
    obtain ⟨h1, h2, h3, h4, h5, h6, h7, h8⟩ := hk
    rw [hp]
    refine Pure.body tt_ok mixed Tryd.func40 rfl (Nat.le_of_ble_eq_true rfl) ?_
    (conv => whnf)
    repeat' (first | (refine CallG.body tt_ok mixed Tryd.func38 (by kernel_rfl) rfl (Nat.le_of_ble_eq_true rfl) ?_; (conv => whnf)) | (refine CallG.body tt_ok mixed Tryd.func46 (by kernel_rfl) rfl (Nat.le_of_ble_eq_true rfl) ?_; (conv => whnf)) | (refine LoopG.unroll 7 ?_; (conv => whnf)) | (refine @And.intro (chkAll _ = true) _ ?_ ?_; (· kernel_rfl); (conv => whnf)) | (refine JoinG.direct ?_; (conv => whnf)) | (refine AppG.mk ?_; (conv => whnf)) | (refine both_intro ?_ ?_ <;> (conv => whnf)) | (exact VR.int _ _) | (exact VR.bool _) | (refine VR.ptr ?_; kernel_rfl) | (refine VR.slice ?_; kernel_rfl) | (exact VR.sliceN _ _) | (refine VR.map ?_; kernel_rfl) | (exact VR.clean _ rfl) | (refine VR.aggOf ?_) | (refine OR.cellsOf ?_) | (exact AR.same _ rfl) | (exact trivial) | (refine amb_no ?_ ?_; (· exact Nat.succ_ne_zero _); (conv => whnf)) | (refine And.intro ?_ ?_; (· (first | decide | omega | (simp only []; omega) | (simp only []; omega) | (simp only []; omega) | (simp only []; omega) | exact keepP_same _ _ _ | (repeat (first | exact trivial | refine And.intro rfl ?_)))); (conv => whnf)) | (refine fun (nc : Nat) (hnc : _ ≤ nc) => ?_; (conv => whnf)) | (refine bif2_true ?_ ?_; (· assumption); (conv => whnf)) | (refine bif2_false ?_ ?_; (· assumption); (conv => whnf)) | (refine bif2_split (fun h => ?_) (fun h => ?_) <;> (conv => whnf)))
    all_goals first | (exfalso; simp at *; omega) | exact ⟨rfl, rfl⟩
  all_goals refine Pure.body tt_ok mixed Tryd.func40 rfl (Nat.le_of_ble_eq_true rfl) ?_
  all_goals (conv => whnf)
  all_goals repeat' (first | (refine CallG.body tt_ok mixed Tryd.func38 (by kernel_rfl) rfl (Nat.le_of_ble_eq_true rfl) ?_; (conv => whnf)) | (refine CallG.body tt_ok mixed Tryd.func46 (by kernel_rfl) rfl (Nat.le_of_ble_eq_true rfl) ?_; (conv => whnf)) | (refine LoopG.unroll 7 ?_; (conv => whnf)) | (refine @And.intro (chkAll _ = true) _ ?_ ?_; (· kernel_rfl); (conv => whnf)) | (refine JoinG.direct ?_; (conv => whnf)) | (refine AppG.mk ?_; (conv => whnf)) | (refine both_intro ?_ ?_ <;> (conv => whnf)) | (exact VR.int _ _) | (exact VR.bool _) | (refine VR.ptr ?_; kernel_rfl) | (refine VR.slice ?_; kernel_rfl) | (exact VR.sliceN _ _) | (refine VR.map ?_; kernel_rfl) | (exact VR.clean _ rfl) | (refine VR.aggOf ?_) | (refine OR.cellsOf ?_) | (exact AR.same _ rfl) | (exact trivial) | (refine amb_no ?_ ?_; (· exact Nat.succ_ne_zero _); (conv => whnf)) | (refine And.intro ?_ ?_; (· (first | decide | omega | (simp only []; omega) | (simp only []; omega) | (simp only []; omega) | (simp only []; omega) | exact keepP_same _ _ _ | (repeat (first | exact trivial | refine And.intro rfl ?_)))); (conv => whnf)) | (refine fun (nc : Nat) (hnc : _ ≤ nc) => ?_; (conv => whnf)) | (refine bif2_true ?_ ?_; (· assumption); (conv => whnf)) | (refine bif2_false ?_ ?_; (· assumption); (conv => whnf)) | (refine bif2_split (fun h => ?_) (fun h => ?_) <;> (conv => whnf)))
  all_goals exact ⟨rfl, rfl⟩
theorem pure_s (m : Msg) : Pure Tryd.prog 0 40 [mv m] (fun v => v = mv (pureM m)) := pure_a m.k m.f m.t m.e m.i m.j m.q m.p m.c m.x m.y m.z
end Go.Proofs.YtkcmhcgmiflgbaaDoor

/- Which jobs may be, what is submitted, and what any step with any job comes to: the walk. -/
import Derived.Test.YtpicmpfcmgocmaaDoorJD3

namespace Go.Proofs.YtpicmpfcmgocmaaDoor
open Go.RowKit
abbrev V1 (t : TypeId) (fz : Nat × Nat) (k : Nat) (args : List Value) (v : Value) : Prop := PureV Tryd.prog (.cells ⟨namesL⟩ t fz) k args (· = v)
theorem pl13' : Plain Tryd.prog 13 := pl13
set_option maxRecDepth 100000 in
set_option maxHeartbeats 40000000 in
theorem over_v (t : TypeId) (fz : Nat × Nat) (id pr sq ph nd n0 n1 n2 : Int) : PureV Tryd.prog (.cells ⟨namesL⟩ t fz) 12 [jobV id pr sq ph nd n0 n1 n2] (fun v => v = .bool (ph == 3 || ph == 4)) := by
  refine PureV.body tt_ok mixed Tryd.func12 rfl (Nat.le_of_ble_eq_true rfl) ?_
  (conv => whnf)
  repeat' (first | (refine CallG.body tt_ok mixed Tryd.func24 (by kernel_rfl) rfl (Nat.le_of_ble_eq_true rfl) ?_; (conv => whnf)) | (refine CallG.body tt_ok mixed Tryd.func18 (by kernel_rfl) rfl (Nat.le_of_ble_eq_true rfl) ?_; (conv => whnf)) | (refine CallG.body tt_ok mixed Tryd.func25 (by kernel_rfl) rfl (Nat.le_of_ble_eq_true rfl) ?_; (conv => whnf)) | (refine @And.intro (chkAll _ = true) _ ?_ ?_; (· kernel_rfl); (conv => whnf)) | (refine JoinG.direct ?_; (conv => whnf)) | (refine AppG.mk ?_; (conv => whnf)) | (refine both_intro ?_ ?_ <;> (conv => whnf)) | (exact VR.int _ _) | (exact VR.bool _) | (refine VR.ptr ?_; kernel_rfl) | (refine VR.slice ?_; kernel_rfl) | (exact VR.sliceN _ _) | (refine VR.map ?_; kernel_rfl) | (exact VR.clean _ rfl) | (refine VR.aggOf ?_) | (exact OR.win (flatR_clean (fun _ => rfl) _)) | (exact OR.clean rfl (flatR_clean (fun _ => rfl) _)) | (refine OR.cellsOf ?_) | (exact AR.same _ rfl) | (refine AR.consOf ?_ ?_) | (exact trivial) | (exact VR.sliceZ _ _ _) | (refine GR.rw ?_) | (refine GR.ro ?_) | (exact GR.abs rfl) | (exact idle_rw _) | (exact idle_ro _) | (refine VR.intOf ?_; (· first | rfl | (simp only [IntKind.wrap_i64]; omega) | (simp; done) | (simp; omega))) |  (refine And.intro ?_ ?_; (· (first | decide | omega | (simp only [IntKind.wrap_i64]; omega) | (simp only [List.length_append]; omega) | (simp only [IntKind.wrap_i64, List.length_append]; omega) | (simp only [IntKind.wrap_i64, List.length_append, Int.natCast_add]; omega) | exact keepP_same _ _ _ | (repeat (first | exact trivial | refine And.intro rfl ?_)))); (conv => whnf)) | (refine fun (nc : Nat) (hnc : _ ≤ nc) => ?_; (conv => whnf)) | (refine bif2_true ?_ ?_; (· assumption); (conv => whnf)) | (refine bif2_false ?_ ?_; (· assumption); (conv => whnf)) | (refine bif2_true ?_ ?_; (· first | assumption | (refine decide_eq_true ?_; omega) | (refine decide_eq_false ?_; omega) | (refine beq_t ?_; omega) | (refine beq_f ?_; omega) | (refine bne_t ?_; omega) | (refine bne_f ?_; omega) | (refine ble_t ?_; omega) | (refine ble_f ?_; omega) | (simp [*]; done)); (conv => whnf)) | (refine bif2_false ?_ ?_; (· first | assumption | (refine decide_eq_true ?_; omega) | (refine decide_eq_false ?_; omega) | (refine beq_t ?_; omega) | (refine beq_f ?_; omega) | (refine bne_t ?_; omega) | (refine bne_f ?_; omega) | (refine ble_t ?_; omega) | (refine ble_f ?_; omega) | (simp [*]; done)); (conv => whnf)) | (refine bif2_not ?_; (conv => whnf)) | (refine amb_no ?_ ?_; (· first | exact Nat.succ_ne_zero _ | omega); (conv => whnf)) | (refine And.intro ?_ (fun (hc0 : _ = 0) => ?_) <;> (conv => whnf)) | (refine bif2_ble (fun h => ?_) (fun h => ?_) <;> (conv => whnf)) | (refine bif2_dec (fun h => ?_) (fun h => ?_) <;> (conv => whnf)) | (refine bif2_beq (fun h => ?_) (fun h => ?_) <;> (conv => whnf)) | (refine bif2_bne (fun h => ?_) (fun h => ?_) <;> (conv => whnf)) | (refine bif2_split (fun h => ?_) (fun h => ?_) <;> (conv => whnf)))
  all_goals (refine ⟨congrArg Value.bool ?_, rfl⟩; simp_all)
theorem en1 : ((nameS 1).toList == (ByteArray.mk #[112, 101, 110, 100, 105, 110, 103]).toList) = true := by decide +kernel
theorem en2 : ((nameS 2).toList == (ByteArray.mk #[114, 117, 110, 110, 105, 110, 103]).toList) = true := by decide +kernel
theorem en3 : ((nameS 3).toList == (ByteArray.mk #[100, 111, 110, 101]).toList) = true := by decide +kernel
theorem en4 : ((nameS 4).toList == (ByteArray.mk #[99, 97, 110, 99, 101, 108, 108, 101, 100]).toList) = true := by decide +kernel
theorem en5 : ((ByteArray.mk #[]).toList == (ByteArray.mk #[]).toList) = true := by decide +kernel
theorem em1 : (nameB 1 == !((ByteArray.mk #[112, 101, 110, 100, 105, 110, 103]).toList == (ByteArray.mk #[]).toList)) = true := by decide +kernel
theorem em2 : (nameB 2 == !((ByteArray.mk #[114, 117, 110, 110, 105, 110, 103]).toList == (ByteArray.mk #[]).toList)) = true := by decide +kernel
theorem em3 : (nameB 3 == !((ByteArray.mk #[100, 111, 110, 101]).toList == (ByteArray.mk #[]).toList)) = true := by decide +kernel
theorem em4 : (nameB 4 == !((ByteArray.mk #[99, 97, 110, 99, 101, 108, 108, 101, 100]).toList == (ByteArray.mk #[]).toList)) = true := by decide +kernel
theorem em5 : (false == !((ByteArray.mk #[]).toList == (ByteArray.mk #[]).toList)) = true := by decide +kernel
theorem name_no {t : TypeId} {fz : Nat × Nat} {ph : Int} (h : ¬ (1 ≤ ph ∧ ph ≤ 4)) : PureV Tryd.prog (.cells ⟨namesL⟩ t fz) 9 [i64 ph] (fun v => v = .tuple #[.string s0, .bool false]) := by
  have e1 : nameS ph = s0 := by unfold nameS; rw [if_neg (by omega), if_neg (by omega), if_neg (by omega), if_neg (by omega)]
  have e2 : nameB ph = false := by unfold nameB; simp; omega
  rw [← e1, ← e2]; exact name_v t fz ph
theorem over_no {t : TypeId} {fz : Nat × Nat} {id pr sq ph nd n0 n1 n2 : Int} (h3 : (ph == 3) = false) (h4 : (ph == 4) = false) : PureV Tryd.prog (.cells ⟨namesL⟩ t fz) 12 [jobV id pr sq ph nd n0 n1 n2] (fun v => v = .bool false) := by
  have := over_v t fz id pr sq ph nd n0 n1 n2
  rwa [h3, h4] at this
end Go.Proofs.YtpicmpfcmgocmaaDoor

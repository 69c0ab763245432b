/- The contracts of the package num and of its reference: sums, differences, products, spans. -/
import Derived.Test.YtpicmpfcmgocmaaBase
namespace Go.Proofs.Ytpicmpfcmgocmaa
open Go.RowKit

def addB (a b : Int) : Bool := decide (-9223372036854775808 ≤ a + b ∧ a + b ≤ 9223372036854775807)
def addV (a b : Int) : Int := if addB a b then a + b else 0
def subB (a b : Int) : Bool := decide (-9223372036854775808 ≤ a - b ∧ a - b ≤ 9223372036854775807)
def subV (a b : Int) : Int := if subB a b then a - b else 0
def mulB (a b : Int) : Bool := decide (-9223372036854775808 ≤ a * b ∧ a * b ≤ 9223372036854775807)
def mulV (a b : Int) : Int := if mulB a b then a * b else 0
theorem addB_t {a b : Int} (ha : I64 a) (hb : I64 b) (h : (!decide (wrap64 (a + b) < a) == decide (b < 0)) = false) : addB a b = true := by
  unfold I64 at ha hb
  unfold addB
  simp only [decide_eq_true_eq]
  by_cases h2 : b < 0 <;> simp [h2] at h <;> unfold wrap64 at h <;> omega
theorem addB_f {a b : Int} (ha : I64 a) (hb : I64 b) (h : (!decide (wrap64 (a + b) < a) == decide (b < 0)) = true) : addB a b = false := by
  unfold I64 at ha hb
  unfold addB
  simp only [decide_eq_false_iff_not]
  by_cases h2 : b < 0 <;> simp [h2] at h <;> unfold wrap64 at h <;> omega
theorem addV_t {a b : Int} (h : addB a b = true) : addV a b = a + b := by simp [addV, h]
theorem addV_f {a b : Int} (h : addB a b = false) : addV a b = 0 := by simp [addV, h]
theorem addV_w {a b : Int} (h : addB a b = true) : wrap64 (a + b) = addV a b := by
  rw [addV_t h]; apply wrap64_id; unfold addB at h; unfold I64; simpa using h
theorem subB_t {a b : Int} (ha : I64 a) (hb : I64 b) (h : (!decide (a < wrap64 (a - b)) == decide (b < 0)) = false) : subB a b = true := by
  unfold I64 at ha hb
  unfold subB
  simp only [decide_eq_true_eq]
  by_cases h2 : b < 0 <;> simp [h2] at h <;> unfold wrap64 at h <;> omega
theorem subB_f {a b : Int} (ha : I64 a) (hb : I64 b) (h : (!decide (a < wrap64 (a - b)) == decide (b < 0)) = true) : subB a b = false := by
  unfold I64 at ha hb
  unfold subB
  simp only [decide_eq_false_iff_not]
  by_cases h2 : b < 0 <;> simp [h2] at h <;> unfold wrap64 at h <;> omega
theorem subV_t {a b : Int} (h : subB a b = true) : subV a b = a - b := by simp [subV, h]
theorem subV_f {a b : Int} (h : subB a b = false) : subV a b = 0 := by simp [subV, h]
theorem subV_w {a b : Int} (h : subB a b = true) : wrap64 (a - b) = subV a b := by
  rw [subV_t h]; apply wrap64_id; unfold subB at h; unfold I64; simpa using h

set_option maxHeartbeats 400000 in
theorem add_c (a b : Int) (ha : I64 a) (hb : I64 b) (w : World) :
    Calls Try.prog 13 #[.int .i64 a, .int .i64 b] w fun e w' => e = .returned (.tuple #[.int .i64 (addV a b), .bool (addB a b)]) ∧ Gr w w' := by
  have hT := hid (@addB_t a b ha hb)
  have hF := hid (@addB_f a b ha hb)
  go_enter Try.func13, Try.ntmps13
  go_wp2_with (first | go_in | fail)
  · have h1 := hF.out (by assumption)
    go_ret2
    refine ⟨?_, ?_⟩
    · simp [h1, addV_f h1]
    · repeat (first | exact Gr.refl _ | assumption | apply Gr.alloc | (refine Gr.trans ?_ (by assumption)))
  · have h1 := hT.out (by assumption)
    go_ret2
    refine ⟨?_, ?_⟩
    · simp [h1, addV_w h1]
    · repeat (first | exact Gr.refl _ | assumption | apply Gr.alloc | (refine Gr.trans ?_ (by assumption)))

set_option maxHeartbeats 400000 in
theorem sub_c (a b : Int) (ha : I64 a) (hb : I64 b) (w : World) :
    Calls Try.prog 15 #[.int .i64 a, .int .i64 b] w fun e w' => e = .returned (.tuple #[.int .i64 (subV a b), .bool (subB a b)]) ∧ Gr w w' := by
  have hT := hid (@subB_t a b ha hb)
  have hF := hid (@subB_f a b ha hb)
  go_enter Try.func15, Try.ntmps15
  go_wp2_with (first | go_in | fail)
  · have h1 := hF.out (by assumption)
    go_ret2
    refine ⟨?_, ?_⟩
    · simp [h1, subV_f h1]
    · repeat (first | exact Gr.refl _ | assumption | apply Gr.alloc | (refine Gr.trans ?_ (by assumption)))
  · have h1 := hT.out (by assumption)
    go_ret2
    refine ⟨?_, ?_⟩
    · simp [h1, subV_w h1]
    · repeat (first | exact Gr.refl _ | assumption | apply Gr.alloc | (refine Gr.trans ?_ (by assumption)))

set_option maxHeartbeats 400000 in
theorem radd_c (a b : Int) (ha : I64 a) (hb : I64 b) (w : World) :
    Calls Try.prog 14 #[.int .i64 a, .int .i64 b] w fun e w' => e = .returned (.tuple #[.int .i64 (addV a b), .bool (addB a b)]) ∧ w = w' := by
  go_enter Try.func14, Try.ntmps14
  go_wp2
  all_goals
    have hc : addB a b = true ∨ addB a b = false := by cases addB a b <;> simp
    rcases hc with h1 | h1
    · go_ret2
      refine ⟨?_, rfl⟩
      first
      | (simp [h1, addV_w h1]; done)
      | (exfalso; unfold addB at h1; simp only [decide_eq_true_eq] at h1; unfold I64 at ha hb; try unfold wrap64 at *
         omega)
    · go_ret2
      refine ⟨?_, rfl⟩
      first
      | (simp [h1, addV_f h1]; done)
      | (exfalso; unfold addB at h1; simp only [decide_eq_false_iff_not] at h1; unfold I64 at ha hb; try unfold wrap64 at *
         omega)

set_option maxHeartbeats 400000 in
theorem rsub_c (a b : Int) (ha : I64 a) (hb : I64 b) (w : World) :
    Calls Try.prog 16 #[.int .i64 a, .int .i64 b] w fun e w' => e = .returned (.tuple #[.int .i64 (subV a b), .bool (subB a b)]) ∧ w = w' := by
  go_enter Try.func16, Try.ntmps16
  go_wp2
  all_goals
    have hc : subB a b = true ∨ subB a b = false := by cases subB a b <;> simp
    rcases hc with h1 | h1
    · go_ret2
      refine ⟨?_, rfl⟩
      first
      | (simp [h1, subV_w h1]; done)
      | (exfalso; unfold subB at h1; simp only [decide_eq_true_eq] at h1; unfold I64 at ha hb; try unfold wrap64 at *
         omega)
    · go_ret2
      refine ⟨?_, rfl⟩
      first
      | (simp [h1, subV_f h1]; done)
      | (exfalso; unfold subB at h1; simp only [decide_eq_false_iff_not] at h1; unfold I64 at ha hb; try unfold wrap64 at *
         omega)

/-! ### spans -/
def rightB (a l m : Int) : Bool := decide (l ≤ a) && decide (a ≤ m)
def spanV (a l m : Int) : Int := max (min a m) l
set_option maxHeartbeats 400000 in
theorem right_c (a b c : Int) (w : World) :
    Calls Try.prog 22 #[.int .i64 a, .int .i64 b, .int .i64 c] w fun e w' => e = .returned (.bool (rightB a b c)) ∧ w = w' := by
  go_enter Try.func22, Try.ntmps22
  go_wp2
  all_goals
    go_ret
    refine ⟨?_, rfl⟩
    unfold rightB
    first | (simp_all; done) | (simp; intros; omega)
set_option maxHeartbeats 400000 in
theorem span_c (a b c : Int) (w : World) :
    Calls Try.prog 24 #[.int .i64 a, .int .i64 b, .int .i64 c] w fun e w' => e = .returned (.int .i64 (spanV a b c)) ∧ w = w' := by
  go_enter Try.func24, Try.ntmps24
  go_wp2
  all_goals
    go_ret
    refine ⟨?_, rfl⟩
    unfold spanV
    simp
    omega
set_option maxHeartbeats 400000 in
theorem rright_c (a b c : Int) (w : World) :
    Calls Try.prog 23 #[.int .i64 a, .int .i64 b, .int .i64 c] w fun e w' => e = .returned (.bool (rightB a b c)) ∧ w = w' := by
  go_enter Try.func23, Try.ntmps23
  go_wp2
  all_goals
    go_ret
    refine ⟨?_, rfl⟩
    unfold rightB
    first | (simp_all; done) | (simp; intros; omega)
set_option maxHeartbeats 400000 in
theorem rspan_c (a b c : Int) (w : World) :
    Calls Try.prog 25 #[.int .i64 a, .int .i64 b, .int .i64 c] w fun e w' => e = .returned (.int .i64 (spanV a b c)) ∧ w = w' := by
  go_enter Try.func25, Try.ntmps25
  go_wp2
  all_goals
    go_ret
    refine ⟨?_, rfl⟩
    unfold spanV
    simp
    omega

/-- A tick so many ticks later. -/
def laterV (t b : Int) : Int := spanV (spanV t 0 1099511627776 + spanV b 0 1099511627776) 0 1099511627776
theorem spanV_tick (a : Int) : 0 ≤ spanV a 0 1099511627776 ∧ spanV a 0 1099511627776 ≤ 1099511627776 := by unfold spanV; omega
set_option maxHeartbeats 400000 in
theorem later_c (a b : Int) (w : World) :
    Calls Try.prog 26 #[.int .i64 a, .int .i64 b] w fun e w' => e = .returned (.int .i64 (laterV a b)) ∧ w = w' := by
  have h1 := spanV_tick a
  have h2 := spanV_tick b
  go_enter Try.func26, Try.ntmps26
  go_wp2_with (first | (go_at_call 24; refine (span_c _ _ _ _).mono ?_; rintro e w' ⟨rfl, rfl⟩) | go_in)
  go_ret
  exact ⟨rfl, rfl⟩
set_option maxHeartbeats 400000 in
theorem rlater_c (a b : Int) (w : World) :
    Calls Try.prog 27 #[.int .i64 a, .int .i64 b] w fun e w' => e = .returned (.int .i64 (laterV a b)) ∧ w = w' := by
  have h1 := spanV_tick a
  have h2 := spanV_tick b
  go_enter Try.func27, Try.ntmps27
  go_wp2_with (first | (go_at_call 25; refine (rspan_c _ _ _ _).mono ?_; rintro e w' ⟨rfl, rfl⟩) | go_in)
  go_ret
  exact ⟨rfl, rfl⟩
end Go.Proofs.Ytpicmpfcmgocmaa

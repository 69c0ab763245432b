/- The contracts of the package num and of its reference: products. -/
import Derived.Test.YtpicmpfcmgocmaaNumA
import Derived.Lib.Mul64
namespace Go.Proofs.Ytpicmpfcmgocmaa
open Go.RowKit

def absV (a : Int) : Int := if a < 0 then -a else a
theorem absV_b {a : Int} (h : I64 a) : 0 ≤ absV a ∧ absV a < 18446744073709551616 ∧ absV a ≤ 9223372036854775808 := by unfold absV; unfold I64 at h; split <;> omega

set_option maxHeartbeats 400000 in
theorem size_c (a : Int) (ha : I64 a) (w : World) :
    Calls Try.prog 53 #[.int .i64 a] w fun e w' => e = .returned (.int .u64 (absV a)) ∧ w = w' := by
  go_enter Try.func53, Try.ntmps53
  go_wp2
  all_goals
    go_ret
    refine ⟨?_, rfl⟩
    simp
    simp only [IntKind.wrap_u64]
    unfold absV
    unfold I64 at ha
    omega
set_option maxHeartbeats 400000 in
theorem rsize_c (a : Int) (ha : I64 a) (w : World) :
    Calls Try.prog 55 #[.int .i64 a] w fun e w' => e = .returned (.int .u64 (absV a)) ∧ w = w' := by
  go_enter Try.func55, Try.ntmps55
  go_wp2
  all_goals
    go_ret
    refine ⟨?_, rfl⟩
    simp
    simp only [IntKind.wrap_u64]
    try unfold wrap64
    unfold absV
    unfold I64 at ha
    omega

/-! ### math/bits.Mul64: the shelf's proof, turned to this program -/
namespace M64
theorem maskN (a : Nat) (ha : a < 18446744073709551616) : bits .and .u64 (a : Int) 4294967295 = ((a % 4294967296 : Nat) : Int) := by
  have h := bits_and_u64_nat a 4294967295 ha (by omega)
  have e : a &&& 4294967295 = a % 4294967296 := Nat.and_two_pow_sub_one_eq_mod a 32
  rw [e] at h
  exact h
theorem divN (a : Nat) : (a : Int) / 4294967296 = ((a / 4294967296 : Nat) : Int) := by omega
theorem mulN (a b : Nat) : (a : Int) * (b : Int) = ((a * b : Nat) : Int) := (Int.natCast_mul a b).symm
theorem addN (a b : Nat) : (a : Int) + (b : Int) = ((a + b : Nat) : Int) := (Int.natCast_add a b).symm
theorem wrapN (a : Nat) (ha : a < 18446744073709551616) : IntKind.u64.wrap (a : Int) = (a : Int) := by rw [IntKind.wrap_u64]; omega
theorem wrapM (a : Nat) : IntKind.u64.wrap (a : Int) = ((a % 18446744073709551616 : Nat) : Int) := by rw [IntKind.wrap_u64]; omega
end M64
set_option maxHeartbeats 1000000 in
theorem mul64_n (x y : Nat) (hx : x < 18446744073709551616) (hy : y < 18446744073709551616) (w : World) :
    Calls Try.prog 52 #[.int .u64 x, .int .u64 y] w fun e w' => e = .returned (.tuple #[.int .u64 ((x * y / 18446744073709551616 : Nat) : Int), .int .u64 ((x * y % 18446744073709551616 : Nat) : Int)]) ∧ w = w' := by
  obtain ⟨bd, bt, bw, hhi⟩ := Lib.mul64_hi x y hx hy
  have ba := Lib.half_mul_le (a := x / 4294967296) (b := y / 4294967296) (by omega) (by omega)
  have bb := Lib.half_mul_le (a := x / 4294967296) (b := y % 4294967296) (by omega) (by omega)
  have bc := Lib.half_mul_le (a := x % 4294967296) (b := y / 4294967296) (by omega) (by omega)
  have ba' : x / 4294967296 * (y / 4294967296) < 18446744073709551616 := by omega
  have bb' : x / 4294967296 * (y % 4294967296) < 18446744073709551616 := by omega
  have bc' : x % 4294967296 * (y / 4294967296) < 18446744073709551616 := by omega
  have bh1 : x / 4294967296 * (y / 4294967296) + (x / 4294967296 * (y % 4294967296) + x % 4294967296 * (y % 4294967296) / 4294967296) / 4294967296 < 18446744073709551616 := by omega
  have bh : x / 4294967296 * (y / 4294967296) + (x / 4294967296 * (y % 4294967296) + x % 4294967296 * (y % 4294967296) / 4294967296) / 4294967296 + ((x / 4294967296 * (y % 4294967296) + x % 4294967296 * (y % 4294967296) / 4294967296) % 4294967296 + x % 4294967296 * (y / 4294967296)) / 4294967296 < 18446744073709551616 := by omega
  go_enter Try.func52, Try.ntmps52
  go_wp2
  simp only [M64.maskN x hx, M64.maskN y hy, M64.divN, M64.mulN, M64.addN, M64.wrapN _ bd, M64.wrapN _ bb', M64.wrapN _ bt, M64.maskN _ bt, M64.wrapN _ bc', M64.wrapN _ bw, M64.wrapN _ ba', M64.wrapN _ bh1, M64.wrapN _ bh, M64.wrapM (x * y)]
  rw [hhi]
  go_ret2
  exact ⟨rfl, rfl⟩
def hiV (x y : Int) : Int := x * y / 18446744073709551616
def loV (x y : Int) : Int := x * y % 18446744073709551616
theorem mul64_c (x y : Int) (hx : 0 ≤ x ∧ x < 18446744073709551616) (hy : 0 ≤ y ∧ y < 18446744073709551616) (w : World) :
    Calls Try.prog 52 #[.int .u64 x, .int .u64 y] w fun e w' => e = .returned (.tuple #[.int .u64 (hiV x y), .int .u64 (loV x y)]) ∧ w = w' := by
  obtain ⟨n, rfl⟩ := Int.eq_ofNat_of_zero_le hx.1
  obtain ⟨m, rfl⟩ := Int.eq_ofNat_of_zero_le hy.1
  refine (mul64_n n m (by omega) (by omega) w).mono ?_
  rintro e w' ⟨rfl, rfl⟩
  exact ⟨by simp [hiV, loV], rfl⟩

/-! ### products -/
theorem mul_abs (a b : Int) : a * b = if (a < 0 ↔ b < 0) then absV a * absV b else -(absV a * absV b) := by
  unfold absV
  by_cases h1 : a < 0 <;> by_cases h2 : b < 0 <;> simp [h1, h2, Int.neg_mul, Int.mul_neg]
theorem mulB_iff {a b : Int} : mulB a b = true ↔ (-9223372036854775808 ≤ a * b ∧ a * b ≤ 9223372036854775807) := by unfold mulB; simp
theorem mul_nonneg' {a b : Int} (ha : I64 a) (hb : I64 b) : 0 ≤ absV a * absV b := Int.mul_nonneg (absV_b ha).1 (absV_b hb).1
theorem mulV_t {a b : Int} (h : mulB a b = true) : mulV a b = a * b := by simp [mulV, h]
theorem mulV_f {a b : Int} (h : mulB a b = false) : mulV a b = 0 := by simp [mulV, h]
theorem mulV_w {a b : Int} (h : mulB a b = true) : wrap64 (a * b) = mulV a b := by
  rw [mulV_t h]; apply wrap64_id; exact mulB_iff.1 h
/-- The test of num.Mul. -/
def mostV (a b : Int) : Int := if decide (a < 0) == decide (b < 0) then 9223372036854775807 else 9223372036854775808
theorem mulB_hi {a b : Int} (ha : I64 a) (hb : I64 b) : mulB a b = (decide (hiV (absV a) (absV b) = 0) && decide (loV (absV a) (absV b) ≤ mostV a b)) := by
  have h0 := mul_nonneg' ha hb
  have e := mul_abs a b
  rw [Bool.eq_iff_iff, mulB_iff]
  unfold hiV loV mostV
  generalize absV a * absV b = p at *
  rw [e]
  simp only [Bool.and_eq_true, decide_eq_true_eq]
  by_cases h1 : a < 0 <;> by_cases h2 : b < 0 <;> simp [h1, h2] <;> omega
/-- The test of the reference's Mul. -/
theorem mulB_quo {a b : Int} (ha : I64 a) (hb : I64 b) (h0 : (a == 0) = false) : mulB a b = !decide (mostV a b / absV a < absV b) := by
  have hp := mul_nonneg' ha hb
  have e := mul_abs a b
  have hA : 0 < absV a := by simp at h0; unfold absV; split <;> omega
  have hq : mostV a b / absV a < absV b ↔ mostV a b < absV b * absV a := Int.ediv_lt_iff_lt_mul hA
  have hc : absV b * absV a = absV a * absV b := Int.mul_comm _ _
  rw [hc] at hq
  rw [Bool.eq_iff_iff, mulB_iff]
  simp only [Bool.not_eq_true', decide_eq_false_iff_not, hq]
  unfold mostV
  generalize absV a * absV b = p at *
  rw [e]
  by_cases h1 : a < 0 <;> by_cases h2 : b < 0 <;> simp [h1, h2] <;> omega

set_option maxHeartbeats 1000000 in
theorem mul_c (a b : Int) (ha : I64 a) (hb : I64 b) (w : World) :
    Calls Try.prog 17 #[.int .i64 a, .int .i64 b] w fun e w' => e = .returned (.tuple #[.int .i64 (mulV a b), .bool (mulB a b)]) ∧ Gr w w' := by
  have hA := absV_b ha
  have hB := absV_b hb
  have hm : mulB a b = true ∨ mulB a b = false := by cases mulB a b <;> simp
  have ht := mulB_hi ha hb
  unfold mostV at ht
  cases ha0 : decide (a < 0) <;> cases hb0 : decide (b < 0)
  all_goals
    rw [ha0, hb0] at ht
    simp at ht
    have HT := hid ht
    clear ht
    go_enter Try.func17, Try.ntmps17
    go_wp2_with (first | (go_at_call 53; refine (size_c _ (by assumption) _).mono ?_; rintro e w' ⟨rfl, rfl⟩) | (go_at_call 52; refine (mul64_c _ _ ⟨by omega, by omega⟩ ⟨by omega, by omega⟩ _).mono ?_; rintro e w' ⟨rfl, rfl⟩) | go_in)
    all_goals
      go_ret2
      go_light
      have hT := HT.out
      refine ⟨?_, ?_⟩
      · rcases hm with hm | hm
        · first
          | (simp [hm, mulV_w hm]; done)
          | (exfalso; rw [hT] at hm; simp_all <;> omega)
        · first
          | (simp [hm, mulV_f hm]; done)
          | (exfalso; rw [hT] at hm; simp_all <;> omega)
      · repeat (first | exact Gr.refl _ | assumption | apply Gr.alloc | (refine Gr.trans ?_ (by assumption)))

theorem mulB_z (a b : Int) (h : (a == 0) = true ∨ (b == 0) = true) : mulB a b = true ∧ mulV a b = 0 := by
  have h0 : a * b = 0 := by rcases h with h | h <;> simp at h <;> simp [h]
  unfold mulV mulB
  simp [h0]
set_option maxHeartbeats 1000000 in
theorem rmul_z (a b : Int) (h : (a == 0) = true ∨ (b == 0) = true) (w : World) :
    Calls Try.prog 18 #[.int .i64 a, .int .i64 b] w fun e w' => e = .returned (.tuple #[.int .i64 (mulV a b), .bool (mulB a b)]) ∧ w = w' := by
  obtain ⟨e1, e2⟩ := mulB_z a b h
  cases ha : a == 0 <;> cases hb : b == 0
  · simp [ha, hb] at h
  all_goals
    clear h
    go_enter Try.func18, Try.ntmps18
    go_wp2
    go_ret2
    exact ⟨by simp [e1, e2], rfl⟩
set_option maxHeartbeats 1000000 in
theorem rmul_n (a b : Int) (ha : I64 a) (hb : I64 b) (e0 : (a == 0) = false) (e1 : (b == 0) = false) (w : World) :
    Calls Try.prog 18 #[.int .i64 a, .int .i64 b] w fun e w' => e = .returned (.tuple #[.int .i64 (mulV a b), .bool (mulB a b)]) ∧ w = w' := by
  have hm : mulB a b = true ∨ mulB a b = false := by cases mulB a b <;> simp
  have hA := absV_b ha
  have hB := absV_b hb
  have hA0 : 0 < absV a := by simp at e0; unfold absV; split <;> omega
  have ht := mulB_quo ha hb e0
  unfold mostV at ht
  cases ha0 : decide (a < 0) <;> cases hb0 : decide (b < 0)
  all_goals
    rw [ha0, hb0] at ht
    simp at ht
    have HT := hid ht
    clear ht
    go_enter Try.func18, Try.ntmps18
    go_wp2_with (first | (go_at_call 55; refine (rsize_c _ (by assumption) _).mono ?_; rintro e w' ⟨rfl, rfl⟩))
    all_goals
      go_ret2
      go_light
      have hT := HT.out
      refine ⟨?_, rfl⟩
      rcases hm with hm | hm
      · first
        | (simp [hm, mulV_w hm]; done)
        | (exfalso; rw [hT] at hm; simp_all <;> omega)
        | go_goals
      · first
        | (simp [hm, mulV_f hm]; done)
        | (exfalso; rw [hT] at hm; simp_all <;> omega)
        | go_goals
theorem rmul_c (a b : Int) (ha : I64 a) (hb : I64 b) (w : World) :
    Calls Try.prog 18 #[.int .i64 a, .int .i64 b] w fun e w' => e = .returned (.tuple #[.int .i64 (mulV a b), .bool (mulB a b)]) ∧ w = w' := by
  cases h1 : a == 0
  · cases h2 : b == 0
    · exact rmul_n a b ha hb h1 h2 w
    · exact rmul_z a b (.inr h2) w
  · exact rmul_z a b (.inl h1) w
end Go.Proofs.Ytpicmpfcmgocmaa

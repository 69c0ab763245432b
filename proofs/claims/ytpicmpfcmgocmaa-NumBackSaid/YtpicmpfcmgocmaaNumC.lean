/- The contracts of num.Sum and of its reference. -/
import Derived.Test.YtpicmpfcmgocmaaNumB
namespace Go.Proofs.Ytpicmpfcmgocmaa
open Go.RowKit

def sumO : Int → List Int → Option Int
  | n, [] => some n
  | n, k :: l => if addB n k then sumO (n + k) l else none
def sumV (l : List Int) : Int := (sumO 0 l).getD 0
def sumB (l : List Int) : Bool := (sumO 0 l).isSome
/-- A slice of ints in memory. -/
def IntsAt (w : World) (A : Option Addr) (zs : List Int) : Prop := ∀ k, k < zs.length → ∃ b off, A = some ⟨b, off, none⟩ ∧ b < w.heap.size ∧ w.cell? ⟨b, off + k, none⟩ = some (.int .i64 (zs.getD k 0)) ∧ I64 (zs.getD k 0)
theorem IntsAt.below {w w' : World} {A : Option Addr} {zs : List Int} (h : IntsAt w A zs) (hb : Gr w w') : IntsAt w' A zs := by
  intro k hk
  obtain ⟨b, off, e, h1, h2, h3⟩ := h k hk
  exact ⟨b, off, e, Nat.lt_of_lt_of_le h1 hb.size, (hb.cell (p := ⟨b, off + k, none⟩) h1).trans h2, h3⟩
theorem sumO_step {n : Int} {zs : List Int} {k : Nat} (h : k < zs.length) :
    sumO n (zs.drop k) = if addB n (zs.getD k 0) then sumO (n + zs.getD k 0) (zs.drop (k + 1)) else none := by
  rw [List.drop_eq_getElem_cons h]
  simp [sumO, List.getD_eq_getElem?_getD, List.getElem?_eq_getElem h]
theorem sumV_none {zs : List Int} {n : Int} {k : Nat} (h : k < zs.length) (hs : sumO n (zs.drop k) = sumO 0 zs) (hf : addB n (zs.getD k 0) = false) : sumV zs = 0 ∧ sumB zs = false := by
  rw [sumO_step h, hf] at hs
  simp at hs
  simp [sumV, sumB, ← hs]
theorem sumV_some {zs : List Int} {n : Int} {k : Nat} (h : ¬ k < zs.length) (hs : sumO n (zs.drop k) = sumO 0 zs) : sumV zs = n ∧ sumB zs = true := by
  rw [List.drop_of_length_le (by omega)] at hs
  simp [sumO] at hs
  simp [sumV, sumB, ← hs]
theorem I64_add {a b : Int} (h : addB a b = true) : I64 (addV a b) := by rw [addV_t h]; unfold addB at h; unfold I64; simpa using h

def SumRel (zs : List Int) (w : World) (n i : Value) (wr : World) : Prop :=
  ∃ (k : Nat) (v : Int), k ≤ zs.length ∧ i = .int .i64 k ∧ n = .int .i64 v ∧ I64 v ∧ sumO v (zs.drop k) = sumO 0 zs ∧ Gr w wr
set_option maxHeartbeats 400000 in
theorem sum_c (A : Option Addr) (c : Nat) (zs : List Int) (w : World) (hz : IntsAt w A zs) (hm : zs.length ≤ 9223372036854775807) :
    Calls Try.prog 20 #[.slice A zs.length c] w fun e w' => e = .returned (.tuple #[.int .i64 (sumV zs), .bool (sumB zs)]) ∧ Gr w w' := by
  have HZ := hid hz
  clear hz
  go_enter Try.func20, Try.ntmps20
  go_wp2_with fail
  go_loopw [4, 11] (fun n i wr => SumRel zs w n i wr) (fun _ i _ => zs.length - (intOf i).toNat)
  case atStart => exact ⟨0, 0, by omega, rfl, rfl, by unfold I64; omega, rfl, Gr.refl _⟩
  case round =>
    obtain ⟨k, v, hk, rfl, rfl, hv, hs, hb⟩ := hrel
    have HS := hid hs
    clear hs
    by_cases hlt : k < zs.length
    · obtain ⟨b, off, rfl, hbl, hcl, hi⟩ := HZ.out k hlt
      have hcell : wr.cell? ⟨b, off + k, none⟩ = some (.int .i64 (zs.getD k 0)) := (hb.cell (p := ⟨b, off + k, none⟩) hbl).trans hcl
      clear hcl
      obtain ⟨z, hzz⟩ : ∃ z, zs.getD k 0 = z := ⟨_, rfl⟩
      rw [hzz] at hcell hi
      have HE := hid hzz
      clear hzz
      go_wp2_with (go_at_call 13; refine (add_c _ _ hv hi _).mono ?_; rintro e w1 ⟨rfl, hb1⟩)
      · have hf : addB v (zs.getD k 0) = false := by rw [HE.out]; simp_all
        obtain ⟨h1, h2⟩ := sumV_none hlt HS.out hf
        go_ret2
        exact ⟨by simp [h1, h2], hb.trans hb1⟩
      · have hf : addB v z = true := by simp_all
        refine ⟨⟨k + 1, addV v z, by omega, by go_num, rfl, I64_add hf, ?_, hb.trans hb1⟩, by simp [intOf]; omega⟩
        have hs := HS.out
        rw [sumO_step hlt, HE.out, hf, if_pos rfl] at hs
        rw [addV_t hf]; exact hs
    · obtain ⟨h1, h2⟩ := sumV_some hlt HS.out
      go_wp2
      go_ret2
      exact ⟨by simp [h1, h2], hb⟩
set_option maxHeartbeats 400000 in
theorem rsum_c (A : Option Addr) (c : Nat) (zs : List Int) (w : World) (hz : IntsAt w A zs) (hm : zs.length ≤ 9223372036854775807) :
    Calls Try.prog 21 #[.slice A zs.length c] w fun e w' => e = .returned (.tuple #[.int .i64 (sumV zs), .bool (sumB zs)]) ∧ Gr w w' := by
  have HZ := hid hz
  clear hz
  go_enter Try.func21, Try.ntmps21
  go_wp2_with fail
  go_loopw [4, 5] (fun n i wr => SumRel zs w n i wr) (fun _ i _ => zs.length - (intOf i).toNat)
  case atStart => exact ⟨0, 0, by omega, rfl, rfl, by unfold I64; omega, rfl, Gr.refl _⟩
  case round =>
    obtain ⟨k, v, hk, rfl, rfl, hv, hs, hb⟩ := hrel
    have HS := hid hs
    clear hs
    by_cases hlt : k < zs.length
    · obtain ⟨b, off, rfl, hbl, hcl, hi⟩ := HZ.out k hlt
      have hcell : wr.cell? ⟨b, off + k, none⟩ = some (.int .i64 (zs.getD k 0)) := (hb.cell (p := ⟨b, off + k, none⟩) hbl).trans hcl
      clear hcl
      obtain ⟨z, hzz⟩ : ∃ z, zs.getD k 0 = z := ⟨_, rfl⟩
      rw [hzz] at hcell hi
      have HE := hid hzz
      clear hzz
      go_wp2_with (go_at_call 14; refine (radd_c _ _ hv hi _).mono ?_; rintro e w1 ⟨rfl, rfl⟩)
      · have hf : addB v (zs.getD k 0) = false := by rw [HE.out]; simp_all
        obtain ⟨h1, h2⟩ := sumV_none hlt HS.out hf
        go_ret2
        exact ⟨by simp [h1, h2], hb⟩
      · have hf : addB v z = true := by simp_all
        refine ⟨⟨k + 1, addV v z, by omega, by go_num, rfl, I64_add hf, ?_, hb⟩, by simp [intOf]; omega⟩
        have hs := HS.out
        rw [sumO_step hlt, HE.out, hf, if_pos rfl] at hs
        rw [addV_t hf]; exact hs
    · obtain ⟨h1, h2⟩ := sumV_some hlt HS.out
      go_wp2
      go_ret2
      exact ⟨by simp [h1, h2], hb⟩
end Go.Proofs.Ytpicmpfcmgocmaa

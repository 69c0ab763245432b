/- What must come whatever the arguments are (package num). -/
import Derived.Test.YtpicmpfcmgocmaaNumC
namespace Go.Proofs.Ytpicmpfcmgocmaa
open Go.RowKit

theorem add_k (w : World) : Calls Try.prog 13 #[.int .i64 9223372036854775807, .int .i64 1] w fun e w' => e = .returned (.tuple #[.int .i64 0, .bool false]) ∧ Gr w w' := by
  refine (add_c _ _ (by unfold I64; omega) (by unfold I64; omega) w).mono ?_
  rintro e w' ⟨rfl, h⟩
  exact ⟨by simp [addV, addB], h⟩
theorem sub_k (w : World) : Calls Try.prog 15 #[.int .i64 3, .int .i64 5] w fun e w' => e = .returned (.tuple #[.int .i64 (-2), .bool true]) ∧ Gr w w' := by
  refine (sub_c _ _ (by unfold I64; omega) (by unfold I64; omega) w).mono ?_
  rintro e w' ⟨rfl, h⟩
  exact ⟨by simp [subV, subB], h⟩
theorem mul_k (w : World) : Calls Try.prog 17 #[.int .i64 (-9223372036854775808), .int .i64 (-1)] w fun e w' => e = .returned (.tuple #[.int .i64 0, .bool false]) ∧ Gr w w' := by
  refine (mul_c _ _ (by unfold I64; omega) (by unfold I64; omega) w).mono ?_
  rintro e w' ⟨rfl, h⟩
  exact ⟨by simp [mulV, mulB], h⟩
theorem sum_k (g : Nat) (w : World) (hg : Blk w g 3 #[.int .i64 9223372036854775807, .int .i64 1, .int .i64 (-1)]) :
    Calls Try.prog 20 #[.slice (some ⟨g, 0, none⟩) 3 3] w fun e w' => e = .returned (.tuple #[.int .i64 0, .bool false]) ∧ Gr w w' := by
  refine (sum_c (some ⟨g, 0, none⟩) 3 [9223372036854775807, 1, -1] w ?_ (by simp)).mono ?_
  · intro k hk
    refine ⟨g, 0, rfl, hg.lt, ?_, ?_⟩
    · simp at hk
      rw [hg.cell]
      match k, hk with
      | 0, _ => rfl
      | 1, _ => rfl
      | 2, _ => rfl
    · simp at hk
      match k, hk with
      | 0, _ => unfold I64; simp
      | 1, _ => unfold I64; simp
      | 2, _ => unfold I64; simp
  · rintro e w' ⟨rfl, h⟩
    exact ⟨by simp [sumV, sumB, sumO, addB], h⟩
theorem span_k (w : World) : Calls Try.prog 24 #[.int .i64 7, .int .i64 0, .int .i64 5] w fun e w' => e = .returned (.int .i64 5) ∧ w = w' := by
  refine (span_c _ _ _ w).mono ?_
  rintro e w' ⟨rfl, h⟩
  exact ⟨by simp [spanV]; decide, h⟩
theorem right_k (w : World) : Calls Try.prog 22 #[.int .i64 5, .int .i64 0, .int .i64 5] w fun e w' => e = .returned (.bool true) ∧ w = w' := by
  refine (right_c _ _ _ w).mono ?_
  rintro e w' ⟨rfl, h⟩
  exact ⟨by simp [rightB], h⟩

set_option maxHeartbeats 400000 in
theorem awake01_c (w : World) : Calls Try.prog 19 #[] w fun e w' => e = .returned (.bool true) ∧ Gr w w' := by
  go_enter Try.func19, Try.ntmps19
  go_wp2_with (first
    | (go_at_call 13; refine (add_k _).mono ?_; rintro e w1 ⟨rfl, hb1⟩)
    | (go_at_call 17; refine (mul_k _).mono ?_; rintro e w2 ⟨rfl, hb2⟩)
    | (go_at_call 20; refine (sum_k _ _ (Blk.new _ _ _)).mono ?_; rintro e w3 ⟨rfl, hb3⟩)
    | (go_at_call 15; refine (sub_k _).mono ?_; rintro e w4 ⟨rfl, hb4⟩)
    | (go_at_call 24; refine (span_k _).mono ?_; rintro e w5 ⟨rfl, rfl⟩)
    | (go_at_call 22; refine (right_k _).mono ?_; rintro e w5 ⟨rfl, rfl⟩))
  go_ret
  refine ⟨rfl, ?_⟩
  repeat (first | exact Gr.refl _ | assumption | apply Gr.alloc | (refine Gr.trans ?_ (by assumption)))
end Go.Proofs.Ytpicmpfcmgocmaa

/- The contracts of the reference of the package lease; a new store. -/
import Derived.Test.YtpicmpfcmgocmaaLeaseD
namespace Go.Proofs.Ytpicmpfcmgocmaa
open Go.RowKit

theorem rlater_s (a b : Int) (w : World) : Calls Try.prog 27 #[.int .i64 a, .int .i64 b] w fun e w' => e = .returned (.int .i64 (laterV a b)) ∧ w' = w :=
  (rlater_c a b w).mono fun _ _ ⟨h1, h2⟩ => ⟨h1, h2.symm⟩
theorem heldB_r (h u now : Int) (hh : -1 ≤ h) : heldB h u now = (decide (0 ≤ h) && decide (now < u)) := by
  unfold heldB
  rw [Bool.eq_iff_iff]
  simp
  omega
set_option maxHeartbeats 1000000 in
theorem rright15_c (now who : Int) (w : World) :
    Calls Try.prog 61 #[.int .i64 now, .int .i64 who] w fun e w' => e = .returned (.bool (chgR now who)) ∧ w = w' := by
  have hr : chgR now who = ((decide (0 ≤ now) && decide (now ≤ 1099511627776)) && (decide (0 ≤ who) && decide (who ≤ 4))) := rfl
  cases h1 : decide (0 ≤ now) <;> cases h2 : decide (now ≤ 1099511627776) <;> cases h3 : decide (0 ≤ who) <;> cases h4 : decide (who ≤ 4)
  all_goals
    rw [h1, h2, h3, h4] at hr
    go_enter Try.func61, Try.ntmps61
    go_wp2_with fail
    go_ret
    exact ⟨by simp [hr], rfl⟩
set_option maxHeartbeats 1000000 in
theorem rholds_c (now who ep span h e u : Int) (w : World) (hh : -1 ≤ h) (hsp : 0 < span) :
    Calls Try.prog 39 #[.agg #[.int .i64 (span), .int .i64 (h), .int .i64 (e), .int .i64 (u)], .int .i64 now, .int .i64 who, .int .i64 ep] w fun e' w' => e' = .returned (.bool (leadsB h e u now who ep)) ∧ Gr w w' := by
  have hl : leadsB h e u now who ep = ((decide (0 ≤ h) && decide (now < u)) && (h == who && e == ep)) := by rw [← heldB_r h u now hh]; rfl
  cases h1 : decide (0 ≤ h) <;> cases h2 : decide (now < u) <;> cases h3 : h == who <;> cases h4 : e == ep
  all_goals
    rw [h1, h2, h3, h4] at hl
    go_enter Try.func39, Try.ntmps39
    go_wp2_with fail
    go_ret
    refine ⟨by simp [hl], ?_⟩
    repeat (first | exact Gr.refl _ | assumption | apply Gr.alloc | apply Gr.drew | (refine Gr.setCell ?_ (by simp <;> omega) _) | (refine Gr.trans ?_ (by assumption)))
set_option maxRecDepth 100000 in
set_option maxHeartbeats 2000000 in
theorem racquire_c (now who span h e u : Int) (w : World) (hh : -1 ≤ h) (hsp : (span == 0) = false) (he0 : 0 ≤ e) (he1 : e ≤ 4294967295) :
    Calls Try.prog 32 #[.agg #[.int .i64 (span), .int .i64 (h), .int .i64 (e), .int .i64 (u)], .int .i64 now, .int .i64 who] w fun e' w' => e' = .returned (.tuple #[.agg #[.int .i64 span, .int .i64 (pickV (chgOk (chgR now who) (acqE h e u now who)) who h), .int .i64 (pickV (chgOk (chgR now who) (acqE h e u now who)) (e + 1) e), .int .i64 (pickV (chgOk (chgR now who) (acqE h e u now who)) (laterV now span) u)], .int .i64 (acqV (chgOk (chgR now who) (acqE h e u now who)) (e + 1)), .int .i64 (chgE (chgR now who) (acqE h e u now who))]) ∧ Gr w w' := by
  have hE : acqE h e u now who = if (decide (0 ≤ h) && decide (now < u)) then (if h == who then 8 else 12) else (if e == 4294967295 then 6 else 0) := by rw [← heldB_r h u now hh]; rfl
  cases hr : chgR now who
  · have hok : (chgOk (chgR now who) (acqE h e u now who)) = false := by rw [hr]; rfl
    have her : chgE (chgR now who) (acqE h e u now who) = 1 := by rw [hr]; rfl
    rw [hr] at hok her
    clear hE
    go_enter Try.func32, Try.ntmps32
    go_wp2_with (go_at_call 61; refine (rright15_c _ _ _).mono ?_; rintro e' w' ⟨rfl, rfl⟩)
    refine bodyPost_ret (v := (.tuple #[.agg #[.int .i64 span, .int .i64 (pickV (chgOk (chgR now who) (acqE h e u now who)) who h), .int .i64 (pickV (chgOk (chgR now who) (acqE h e u now who)) (e + 1) e), .int .i64 (pickV (chgOk (chgR now who) (acqE h e u now who)) (laterV now span) u)], .int .i64 (acqV (chgOk (chgR now who) (acqE h e u now who)) (e + 1)), .int .i64 (chgE (chgR now who) (acqE h e u now who))])) (by simp [results, Try.results32, go_sem, *]) rfl ⟨by first | rfl | (simp [*]; done), ?_⟩
    repeat (first | exact Gr.refl _ | assumption | apply Gr.alloc | apply Gr.drew | (refine Gr.setCell ?_ (by simp <;> omega) _) | (refine Gr.trans ?_ (by assumption)))
  · have her : chgE (chgR now who) (acqE h e u now who) = (acqE h e u now who) := by rw [hr]; rfl
    have hok0 : (chgOk (chgR now who) (acqE h e u now who)) = ((acqE h e u now who) == 0) := by rw [hr]; rfl
    cases h1 : decide (0 ≤ h) <;> cases h2 : decide (now < u) <;> cases h3 : h == who <;> cases h4 : decide (4294967295 ≤ e)
    all_goals
      have h5 : (e == 4294967295) = decide (4294967295 ≤ e) := by rw [Bool.eq_iff_iff]; simp; omega
      rw [h1, h2, h3, h5, h4] at hE
      simp only [Bool.and_true, Bool.and_false, Bool.true_and, Bool.false_and, if_true, if_false, Bool.false_eq_true] at hE
      have hok : (chgOk (chgR now who) (acqE h e u now who)) = _ := hok0
      rw [hE] at hok her
      rw [hr] at hok her
      simp at hok
      clear hok0 h5
      first
      | (
         go_enter Try.func32, Try.ntmps32
         go_wp2_with (go_at_call 61; refine (rright15_c _ _ _).mono ?_; rintro e' w' ⟨rfl, rfl⟩)
         refine bodyPost_ret (v := (.tuple #[.agg #[.int .i64 span, .int .i64 (pickV (chgOk (chgR now who) (acqE h e u now who)) who h), .int .i64 (pickV (chgOk (chgR now who) (acqE h e u now who)) (e + 1) e), .int .i64 (pickV (chgOk (chgR now who) (acqE h e u now who)) (laterV now span) u)], .int .i64 (acqV (chgOk (chgR now who) (acqE h e u now who)) (e + 1)), .int .i64 (chgE (chgR now who) (acqE h e u now who))])) (by simp [results, Try.results32, go_sem, *]) rfl ⟨by first | rfl | (simp [*]; done), ?_⟩
         repeat (first | exact Gr.refl _ | assumption | apply Gr.alloc | apply Gr.drew | (refine Gr.setCell ?_ (by simp <;> omega) _) | (refine Gr.trans ?_ (by assumption)))
        )
      | (
         go_enter Try.func32, Try.ntmps32
         go_wp2_with (go_at_call 61; refine (rright15_c _ _ _).mono ?_; rintro e' w' ⟨rfl, rfl⟩)
         have hw1 : IntKind.i64.wrap (e + 1) = e + 1 := IntWalk.i64_in _ (by omega)
         go_region_held3 (fun w' => w'.cell? ⟨w.heap.size + 1 + 1, 1, none⟩ = some (.int .i64 e) ∧ w'.cell? ⟨w.heap.size, 0, none⟩ = some (.int .i64 span)) (go_keep) (first | (go_at_call 27; refine (rlater_c _ _ _).mono ?_; rintro e w' ⟨rfl, rfl⟩))
         go_wp2_with fail
         go_region
         all_goals go_wp2_with fail
         refine bodyPost_ret (v := (.tuple #[.agg #[.int .i64 span, .int .i64 (pickV (chgOk (chgR now who) (acqE h e u now who)) who h), .int .i64 (pickV (chgOk (chgR now who) (acqE h e u now who)) (e + 1) e), .int .i64 (pickV (chgOk (chgR now who) (acqE h e u now who)) (laterV now span) u)], .int .i64 (acqV (chgOk (chgR now who) (acqE h e u now who)) (e + 1)), .int .i64 (chgE (chgR now who) (acqE h e u now who))])) (by simp [results, Try.results32, go_sem, *]) rfl ⟨by first | rfl | (simp [*]; done), ?_⟩
         repeat (first | exact Gr.refl _ | assumption | apply Gr.alloc | apply Gr.drew | (refine Gr.setCell ?_ (by simp <;> omega) _) | (refine Gr.trans ?_ (by assumption)))
        )
end Go.Proofs.Ytpicmpfcmgocmaa

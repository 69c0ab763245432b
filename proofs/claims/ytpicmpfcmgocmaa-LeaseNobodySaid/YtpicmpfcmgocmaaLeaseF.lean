/- The contracts of the reference of the package lease: renewing and giving back; a new store. -/
import Derived.Test.YtpicmpfcmgocmaaLeaseE
namespace Go.Proofs.Ytpicmpfcmgocmaa
open Go.RowKit
@[simp] theorem pickV_same (b : Bool) (x : Int) : pickV b x x = x := by cases b <;> rfl
set_option maxRecDepth 100000 in
set_option maxHeartbeats 2000000 in
theorem rrenew_c (now who ep span ho e u : Int) (w : World) (hh : -1 ≤ ho) (hsp : 0 < span) :
    Calls Try.prog 34 #[.agg #[.int .i64 (span), .int .i64 (ho), .int .i64 (e), .int .i64 (u)], .int .i64 now, .int .i64 who, .int .i64 ep] w fun e' w' => e' = .returned (.tuple #[.agg #[.int .i64 span, .int .i64 ho, .int .i64 e, .int .i64 (pickV (chgOk (chgR now who) (ledE (leadsB ho e u now who ep))) (max u (laterV now span)) u)], .int .i64 (chgE (chgR now who) (ledE (leadsB ho e u now who ep)))]) ∧ Gr w w' := by
  have hsp0 : (span == 0) = false := by simp; omega
  cases hr : chgR now who
  · have hok : ∀ x, chgOk false x = false := fun _ => rfl
    have her : ∀ x, chgE false x = 1 := fun _ => rfl
    go_enter Try.func34, Try.ntmps34
    go_wp2_with (first | (go_at_call 61; refine (rright15_c _ _ _).mono ?_; rintro e' w' ⟨rfl, rfl⟩) | (go_at_call 39; refine (rholds_c _ _ _ _ _ _ _ _ hh hsp).mono ?_; rintro e' w1 ⟨rfl, hb1⟩; obtain ⟨hc1, hf1, hz1⟩ := hb1.rules3))
    refine bodyPost_ret (v := (.tuple #[.agg #[.int .i64 span, .int .i64 ho, .int .i64 e, .int .i64 (pickV (chgOk (chgR now who) (ledE (leadsB ho e u now who ep))) (max u (laterV now span)) u)], .int .i64 (chgE (chgR now who) (ledE (leadsB ho e u now who ep)))])) (by simp [results, Try.results34, go_sem, *]) rfl ⟨by first | rfl | (simp [*]; done), ?_⟩
    repeat (first | (with_reducible exact Gr.refl _) | (with_reducible assumption) | (with_reducible apply Gr.alloc) | (with_reducible apply Gr.drew) | ((with_reducible refine Gr.setCell ?_ ?_ _); rotate_left; focus (simp <;> omega)) | (with_reducible refine Gr.trans ?_ (by assumption)))
  · cases hl : (leadsB ho e u now who ep)
    · have hok : chgOk true (ledE false) = false := rfl
      have her : chgE true (ledE false) = 11 := rfl
      have hok' : chgOk true 11 = false := rfl
      have her' : chgE true 11 = 11 := rfl
      go_enter Try.func34, Try.ntmps34
      go_wp2_with (first | (go_at_call 61; refine (rright15_c _ _ _).mono ?_; rintro e' w' ⟨rfl, rfl⟩) | (go_at_call 39; refine (rholds_c _ _ _ _ _ _ _ _ hh hsp).mono ?_; rintro e' w1 ⟨rfl, hb1⟩; obtain ⟨hc1, hf1, hz1⟩ := hb1.rules3))
      refine bodyPost_ret (v := (.tuple #[.agg #[.int .i64 span, .int .i64 ho, .int .i64 e, .int .i64 (pickV (chgOk (chgR now who) (ledE (leadsB ho e u now who ep))) (max u (laterV now span)) u)], .int .i64 (chgE (chgR now who) (ledE (leadsB ho e u now who ep)))])) (by simp [results, Try.results34, go_sem, *]) rfl ⟨by first | rfl | (simp [*]; done), ?_⟩
      repeat (first | (with_reducible exact Gr.refl _) | (with_reducible assumption) | (with_reducible apply Gr.alloc) | (with_reducible apply Gr.drew) | ((with_reducible refine Gr.setCell ?_ ?_ _); rotate_left; focus (simp <;> omega)) | (with_reducible refine Gr.trans ?_ (by assumption)))
    · have hok : chgOk true (ledE true) = true := rfl
      have her : chgE true (ledE true) = 0 := rfl
      have hok' : chgOk true 0 = true := rfl
      have her' : chgE true 0 = 0 := rfl
      by_cases hlt : u < laterV now span
      · have hmx : max u (laterV now span) = laterV now span := by omega
        have HM := hid hmx
        clear hmx
        go_enter Try.func34, Try.ntmps34
        go_wp2_with (first | (go_at_call 61; refine (rright15_c _ _ _).mono ?_; rintro e' w' ⟨rfl, rfl⟩) | (go_at_call 39; refine (rholds_c _ _ _ _ _ _ _ _ hh hsp).mono ?_; rintro e' w1 ⟨rfl, hb1⟩; obtain ⟨hc1, hf1, hz1⟩ := hb1.rules3))
        refine wp_region_still_tail 10 (by kernel_rfl) (by kernel_rfl) ?_
        simp only [List.take_succ_cons, List.take_zero, List.drop_succ_cons, List.drop_zero]
        change wpStill Try.prog _ (World.drew _) (fun a' => wpList Try.prog _ _ _ a' (World.drew _)) _ _
        still_step
        still_step
        still_step
        still_step
        still_step
        still_step
        still_call (rlater_s _ _ _)
        still_step
        still_step
        still_step
        refine wpStill_nil ?_
        go_wp2_with fail
        rw [HM.out]
        refine bodyPost_ret (v := (.tuple #[.agg #[.int .i64 span, .int .i64 ho, .int .i64 e, .int .i64 (pickV (chgOk (chgR now who) (ledE (leadsB ho e u now who ep))) (max u (laterV now span)) u)], .int .i64 (chgE (chgR now who) (ledE (leadsB ho e u now who ep)))])) (by simp [results, Try.results34, go_sem, *, HM.out]) rfl ⟨by first | rfl | (simp [*, HM.out]; done), ?_⟩
        repeat (first | (with_reducible exact Gr.refl _) | (with_reducible assumption) | (with_reducible apply Gr.alloc) | (with_reducible apply Gr.drew) | ((with_reducible refine Gr.setCell ?_ ?_ _); rotate_left; focus (simp <;> omega)) | (with_reducible refine Gr.trans ?_ (by assumption)))
      · have hmx : max u (laterV now span) = u := by omega
        have HM := hid hmx
        clear hmx
        go_enter Try.func34, Try.ntmps34
        go_wp2_with (first | (go_at_call 61; refine (rright15_c _ _ _).mono ?_; rintro e' w' ⟨rfl, rfl⟩) | (go_at_call 39; refine (rholds_c _ _ _ _ _ _ _ _ hh hsp).mono ?_; rintro e' w1 ⟨rfl, hb1⟩; obtain ⟨hc1, hf1, hz1⟩ := hb1.rules3))
        refine wp_region_still_tail 10 (by kernel_rfl) (by kernel_rfl) ?_
        simp only [List.take_succ_cons, List.take_zero, List.drop_succ_cons, List.drop_zero]
        change wpStill Try.prog _ (World.drew _) (fun a' => wpList Try.prog _ _ _ a' (World.drew _)) _ _
        still_step
        still_step
        still_step
        still_step
        still_step
        still_step
        still_call (rlater_s _ _ _)
        still_step
        still_step
        still_step
        refine wpStill_nil ?_
        go_wp2_with fail
        rw [HM.out]
        refine bodyPost_ret (v := (.tuple #[.agg #[.int .i64 span, .int .i64 ho, .int .i64 e, .int .i64 (pickV (chgOk (chgR now who) (ledE (leadsB ho e u now who ep))) (max u (laterV now span)) u)], .int .i64 (chgE (chgR now who) (ledE (leadsB ho e u now who ep)))])) (by simp [results, Try.results34, go_sem, *, HM.out]) rfl ⟨by first | rfl | (simp [*, HM.out]; done), ?_⟩
        repeat (first | (with_reducible exact Gr.refl _) | (with_reducible assumption) | (with_reducible apply Gr.alloc) | (with_reducible apply Gr.drew) | ((with_reducible refine Gr.setCell ?_ ?_ _); rotate_left; focus (simp <;> omega)) | (with_reducible refine Gr.trans ?_ (by assumption)))
set_option maxHeartbeats 2000000 in
theorem rrelease_c (now who ep span ho e u : Int) (w : World) (hh : -1 ≤ ho) (hsp : 0 < span) :
    Calls Try.prog 36 #[.agg #[.int .i64 (span), .int .i64 (ho), .int .i64 (e), .int .i64 (u)], .int .i64 now, .int .i64 who, .int .i64 ep] w fun e' w' => e' = .returned (.tuple #[.agg #[.int .i64 span, .int .i64 (pickV (chgOk (chgR now who) (ledE (leadsB ho e u now who ep))) (-1) ho), .int .i64 e, .int .i64 (pickV (chgOk (chgR now who) (ledE (leadsB ho e u now who ep))) 0 u)], .int .i64 (chgE (chgR now who) (ledE (leadsB ho e u now who ep)))]) ∧ Gr w w' := by
  cases hr : chgR now who
  · have hok : ∀ x, chgOk false x = false := fun _ => rfl
    have her : ∀ x, chgE false x = 1 := fun _ => rfl
    go_enter Try.func36, Try.ntmps36
    go_wp2_with (go_at_call 34; refine (rrenew_c _ _ _ _ _ _ _ _ hh hsp).mono ?_; rintro e' w1 ⟨rfl, hb1⟩; obtain ⟨hc1, hf1, hz1⟩ := hb1.rules3)
    refine bodyPost_ret (v := (.tuple #[.agg #[.int .i64 span, .int .i64 (pickV (chgOk (chgR now who) (ledE (leadsB ho e u now who ep))) (-1) ho), .int .i64 e, .int .i64 (pickV (chgOk (chgR now who) (ledE (leadsB ho e u now who ep))) 0 u)], .int .i64 (chgE (chgR now who) (ledE (leadsB ho e u now who ep)))])) (by simp [results, Try.results36, go_sem, *]) rfl ⟨by first | rfl | (simp [*]; done), ?_⟩
    repeat (first | (with_reducible exact Gr.refl _) | (with_reducible assumption) | (with_reducible apply Gr.alloc) | (with_reducible apply Gr.drew) | ((with_reducible refine Gr.setCell ?_ ?_ _); rotate_left; focus (simp <;> omega)) | (with_reducible refine Gr.trans ?_ (by assumption)))
  · cases hl : (leadsB ho e u now who ep)
    · have hok : chgOk true (ledE false) = false := rfl
      have her : chgE true (ledE false) = 11 := rfl
      have hok' : chgOk true 11 = false := rfl
      have her' : chgE true 11 = 11 := rfl
      go_enter Try.func36, Try.ntmps36
      go_wp2_with (go_at_call 34; refine (rrenew_c _ _ _ _ _ _ _ _ hh hsp).mono ?_; rintro e' w1 ⟨rfl, hb1⟩; obtain ⟨hc1, hf1, hz1⟩ := hb1.rules3)
      refine bodyPost_ret (v := (.tuple #[.agg #[.int .i64 span, .int .i64 (pickV (chgOk (chgR now who) (ledE (leadsB ho e u now who ep))) (-1) ho), .int .i64 e, .int .i64 (pickV (chgOk (chgR now who) (ledE (leadsB ho e u now who ep))) 0 u)], .int .i64 (chgE (chgR now who) (ledE (leadsB ho e u now who ep)))])) (by simp [results, Try.results36, go_sem, *]) rfl ⟨by first | rfl | (simp [*]; done), ?_⟩
      repeat (first | (with_reducible exact Gr.refl _) | (with_reducible assumption) | (with_reducible apply Gr.alloc) | (with_reducible apply Gr.drew) | ((with_reducible refine Gr.setCell ?_ ?_ _); rotate_left; focus (simp <;> omega)) | (with_reducible refine Gr.trans ?_ (by assumption)))
    · have hok : chgOk true (ledE true) = true := rfl
      have her : chgE true (ledE true) = 0 := rfl
      have hok' : chgOk true 0 = true := rfl
      have her' : chgE true 0 = 0 := rfl
      go_enter Try.func36, Try.ntmps36
      go_wp2_with (go_at_call 34; refine (rrenew_c _ _ _ _ _ _ _ _ hh hsp).mono ?_; rintro e' w1 ⟨rfl, hb1⟩; obtain ⟨hc1, hf1, hz1⟩ := hb1.rules3)
      refine bodyPost_ret (v := (.tuple #[.agg #[.int .i64 span, .int .i64 (pickV (chgOk (chgR now who) (ledE (leadsB ho e u now who ep))) (-1) ho), .int .i64 e, .int .i64 (pickV (chgOk (chgR now who) (ledE (leadsB ho e u now who ep))) 0 u)], .int .i64 (chgE (chgR now who) (ledE (leadsB ho e u now who ep)))])) (by simp [results, Try.results36, go_sem, *]) rfl ⟨by first | rfl | (simp [*]; done), ?_⟩
      repeat (first | (with_reducible exact Gr.refl _) | (with_reducible assumption) | (with_reducible apply Gr.alloc) | (with_reducible apply Gr.drew) | ((with_reducible refine Gr.setCell ?_ ?_ _); rotate_left; focus (simp <;> omega)) | (with_reducible refine Gr.trans ?_ (by assumption)))
theorem cell_new1' (w : World) (cs : Array Value) (t : TypeId) (o : Obj) (i : Nat) : ((w.alloc (.cells cs t)).alloc o).cell? ⟨w.heap.size, i, none⟩ = cs[i]? := Blk.cell ((Blk.new w t cs).alloc o) i
def newP (b : Bool) (s : Nat) : Value := if b then .pointer (some ⟨s, 0, none⟩) else .pointer none
def errP (b : Bool) : Int := if b then 0 else 1
@[simp] theorem errP_t : errP true = 0 := rfl
@[simp] theorem errP_f : errP false = 1 := rfl
def NewPost (span : Int) (w : World) (e' : Ending) (w' : World) : Prop :=
  e' = .returned (.tuple #[newP (rightB span 1 64) w.heap.size, .int .i64 (errP (rightB span 1 64))]) ∧ Gr w w' ∧ (rightB span 1 64 = true → StoreAt w' w.heap.size span (-1) 0 0)
set_option maxHeartbeats 1000000 in
theorem new_c (span : Int) (w : World) : Calls Try.prog 29 #[.int .i64 span] w (NewPost span w) := by
  cases hr : rightB span 1 64
  · have h1 : newP false w.heap.size = .pointer none := rfl
    go_enter Try.func29, Try.ntmps29
    go_wp2_with (go_at_call 22; refine (right_c _ _ _ _).mono ?_; rintro e' w' ⟨rfl, rfl⟩)
    go_ret2
    refine ⟨by simp [*], ?_, fun h => by rw [hr] at h; cases h⟩
    repeat (first | (with_reducible exact Gr.refl _) | (with_reducible assumption) | (with_reducible apply Gr.alloc) | (with_reducible apply Gr.drew) | ((with_reducible refine Gr.setCell ?_ ?_ _); rotate_left; focus (simp <;> omega)) | (with_reducible refine Gr.trans ?_ (by assumption)))
  · have h1 : newP true w.heap.size = .pointer (some ⟨w.heap.size, 0, none⟩) := rfl
    go_enter Try.func29, Try.ntmps29
    go_wp2_with (go_at_call 22; refine (right_c _ _ _ _).mono ?_; rintro e' w' ⟨rfl, rfl⟩)
    refine (ptrStore_c w.heap.size 1 (w.heap.size + 1) _ _ _ (cell_new1' _ _ _ _ _) (by simp [go_sem]) (cell_new1 _ _ _ _ _)).mono ?_
    rintro e' w' ⟨rfl, rfl⟩
    go_wp2_with fail
    go_ret2
    refine ⟨by simp [*], ?_, fun _ => ⟨w.heap.size + 1, ?_, ?_⟩⟩
    · repeat (first | (with_reducible exact Gr.refl _) | (with_reducible assumption) | (with_reducible apply Gr.alloc) | (with_reducible apply Gr.drew) | ((with_reducible refine Gr.setCell ?_ ?_ _); rotate_left; focus (simp <;> omega)) | (with_reducible refine Gr.trans ?_ (by assumption)))
    · exact (by repeat (first | (with_reducible assumption) | ((with_reducible refine Blk.new_ ?_); focus (simp <;> omega)) | (with_reducible refine Blk.alloc ?_ _) | (with_reducible refine Blk.drew ?_) | ((with_reducible refine Blk.far ?_ ?_ _); rotate_left; focus (simp <;> omega))))
    · exact (by repeat (first | (with_reducible assumption) | ((with_reducible refine Blk.new_ ?_); focus (simp <;> omega)) | (with_reducible refine Blk.alloc ?_ _) | (with_reducible refine Blk.drew ?_) | ((with_reducible refine Blk.far ?_ ?_ _); rotate_left; focus (simp <;> omega))))
set_option maxHeartbeats 1000000 in
theorem rnew15_c (span : Int) (w : World) :
    Calls Try.prog 30 #[.int .i64 span] w fun e' w' => e' = .returned (.tuple #[.agg #[.int .i64 (pickV (rightB span 1 64) span 0), .int .i64 (pickV (rightB span 1 64) (-1) 0), .int .i64 0, .int .i64 0], .int .i64 (errP (rightB span 1 64))]) ∧ Gr w w' := by
  have hr : rightB span 1 64 = (!decide (span < 1) && !decide (64 < span)) := by unfold rightB; rw [Bool.eq_iff_iff]; simp
  cases h1 : decide (span < 1) <;> cases h2 : decide (64 < span)
  all_goals
    rw [h1, h2] at hr
    simp only [Bool.and_true, Bool.and_false, Bool.true_and, Bool.false_and, Bool.and_self, Bool.not_true, Bool.not_false] at hr
    go_enter Try.func30, Try.ntmps30
    go_wp2_with fail
    refine bodyPost_ret (v := (.tuple #[.agg #[.int .i64 (pickV (rightB span 1 64) span 0), .int .i64 (pickV (rightB span 1 64) (-1) 0), .int .i64 0, .int .i64 0], .int .i64 (errP (rightB span 1 64))])) (by simp [results, Try.results30, go_sem, *]) rfl ⟨by first | rfl | (simp [*]; done), ?_⟩
    repeat (first | (with_reducible exact Gr.refl _) | (with_reducible assumption) | (with_reducible apply Gr.alloc) | (with_reducible apply Gr.drew) | ((with_reducible refine Gr.setCell ?_ ?_ _); rotate_left; focus (simp <;> omega)) | (with_reducible refine Gr.trans ?_ (by assumption)))
end Go.Proofs.Ytpicmpfcmgocmaa

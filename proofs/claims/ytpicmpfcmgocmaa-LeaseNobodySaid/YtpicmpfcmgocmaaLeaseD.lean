/- The contracts of the package lease: its methods. -/
import Derived.Test.YtpicmpfcmgocmaaLeaseC
namespace Go.Proofs.Ytpicmpfcmgocmaa
open Go.RowKit

theorem StoreAt.gr {w w' : World} {s : Nat} {span h e u : Int} (hs : StoreAt w s span h e u) (hg : Gr w w') : StoreAt w' s span h e u := by
  obtain ⟨b, h1, h2⟩ := hs
  exact ⟨b, h1.gr hg, h2.gr hg⟩
theorem StoreAt.alloc {w : World} {s : Nat} {span h e u : Int} (hs : StoreAt w s span h e u) (o : Obj) : StoreAt (w.alloc o) s span h e u := hs.gr ((Gr.refl w).alloc o)
theorem StoreAt.lt {w : World} {s : Nat} {span h e u : Int} (hs : StoreAt w s span h e u) : s < w.heap.size := by
  obtain ⟨b, h1, h2⟩ := hs
  exact h1.lt
/-- What a call of a store comes to. -/
def SPost (w : World) (s : Nat) (span : Int) (r : Bool) (err h e u rh re ru : Int) (res : Value) (e' : Ending) (w' : World) : Prop :=
  e' = .returned res ∧ But s w w' ∧ StoreAt w' s span (pickV (chgOk r err) rh h) (pickV (chgOk r err) re e) (pickV (chgOk r err) ru u)
set_option maxHeartbeats 1000000 in
theorem acquire_c (now who span h e u : Int) (s : Nat) (w : World) (hs : StoreAt w s span h e u) (hsp : (span == 0) = false) (he0 : 0 ≤ e) (he1 : e ≤ 4294967295) :
    Calls Try.prog 31 #[.pointer (some ⟨s, 0, none⟩), .int .i64 now, .int .i64 who] w
      (SPost w s span (chgR now who) (acqE h e u now who) h e u who (e + 1) (laterV now span) (.tuple #[.int .i64 (acqV (chgOk (chgR now who) (acqE h e u now who)) (e + 1)), .int .i64 (chgE (chgR now who) (acqE h e u now who))])) := by
  obtain ⟨b, S_0, L_0⟩ := hs
  go_enter Try.func31, Try.ntmps31
  go_wp2_with fail
  have S_1 : Blk _ s 65 #[.int .i64 span, .pointer (some ⟨b, 0, none⟩)] := ((S_0.alloc (.cells #[.pointer (some ⟨s, 0, none⟩)] 35)).alloc (.cells #[.int .i64 now] 3)).alloc (.cells #[.int .i64 who] 3)
  have L_1 : Blk _ b 40 #[.int .i64 (h), .int .i64 (e), .int .i64 (u)] := ((L_0.alloc (.cells #[.pointer (some ⟨s, 0, none⟩)] 35)).alloc (.cells #[.int .i64 now] 3)).alloc (.cells #[.int .i64 who] 3)
  refine (chgA_c (w.heap.size + 1) (w.heap.size + 1 + 1) w.heap.size now who span h e u s b _ S_1 L_1 hsp (by repeat (first | (with_reducible assumption) | ((with_reducible refine Blk.new_ ?_); focus (simp <;> omega)) | (with_reducible refine Blk.alloc ?_ _) | (with_reducible refine Blk.drew ?_) | ((with_reducible refine Blk.far ?_ ?_ _); rotate_left; focus (simp <;> omega)))) (by repeat (first | (with_reducible assumption) | ((with_reducible refine Blk.new_ ?_); focus (simp <;> omega)) | (with_reducible refine Blk.alloc ?_ _) | (with_reducible refine Blk.drew ?_) | ((with_reducible refine Blk.far ?_ ?_ _); rotate_left; focus (simp <;> omega)))) (by repeat (first | (with_reducible assumption) | ((with_reducible refine Blk.new_ ?_); focus (simp <;> omega)) | (with_reducible refine Blk.alloc ?_ _) | (with_reducible refine Blk.drew ?_) | ((with_reducible refine Blk.far ?_ ?_ _); rotate_left; focus (simp <;> omega)))) he0 he1).mono ?_
  rintro e' w1 ⟨rfl, hb1, hs1⟩
  have hB : But s w w1 := But.trans (.of_gr (by repeat (first | exact Gr.refl _ | assumption | apply Gr.alloc | apply Gr.drew | (refine Gr.setCell ?_ (by simp <;> omega) _) | (refine Gr.trans ?_ (by assumption))))) hb1
  clear hb1
  go_wp2_with fail
  go_ret2
  refine ⟨by rfl, ?_, ?_⟩
  · repeat (first | (with_reducible exact hB) | (with_reducible refine But.alloc ?_ _))
  · repeat (first | (with_reducible exact hs1) | (with_reducible refine StoreAt.alloc ?_ _))
set_option maxHeartbeats 1000000 in
theorem ledR_c (now who ep span h e u : Int) (s nb sb : Nat) (w : World) (hs : StoreAt w s span h e u) (hsp : (span == 0) = false) (M_0 : Blk w nb 3 #[.int .i64 now]) (Q_0 : Blk w sb 35 #[.pointer (some ⟨s, 0, none⟩)]) :
    Calls Try.prog 62 #[.pointer (some ⟨s, 0, none⟩), .int .i64 now, .int .i64 who, .int .i64 ep, .func (.func 63) #[] #[.pointer (some ⟨nb, 0, none⟩), .pointer (some ⟨sb, 0, none⟩)]] w
      (SPost w s span (chgR now who) (ledE (leadsB h e u now who ep)) h e u (h) (e) (max u (laterV now span)) (.int .i64 (chgE (chgR now who) (ledE (leadsB h e u now who ep))))) := by
  obtain ⟨b, S_0, L_0⟩ := hs
  go_enter Try.func62, Try.ntmps62
  go_wp2_with fail
  have S_1 : Blk _ s 65 #[.int .i64 span, .pointer (some ⟨b, 0, none⟩)] := ((((S_0.alloc (.cells #[.int .i64 now] 3)).alloc (.cells #[.int .i64 who] 3)).alloc (.cells #[.int .i64 ep] 3)).alloc (.cells #[.func (.func 63) #[] #[.pointer (some ⟨nb, 0, none⟩), .pointer (some ⟨sb, 0, none⟩)]] 96))
  have L_1 : Blk _ b 40 #[.int .i64 (h), .int .i64 (e), .int .i64 (u)] := ((((L_0.alloc (.cells #[.int .i64 now] 3)).alloc (.cells #[.int .i64 who] 3)).alloc (.cells #[.int .i64 ep] 3)).alloc (.cells #[.func (.func 63) #[] #[.pointer (some ⟨nb, 0, none⟩), .pointer (some ⟨sb, 0, none⟩)]] 96))
  refine (chgR_c ep w.heap.size (w.heap.size + 1) (w.heap.size + 1 + 1) (w.heap.size + 1 + 1 + 1) nb sb now who span h e u s b _ S_1 L_1 hsp (by repeat (first | (with_reducible assumption) | ((with_reducible refine Blk.new_ ?_); focus (simp <;> omega)) | (with_reducible refine Blk.alloc ?_ _) | (with_reducible refine Blk.drew ?_) | ((with_reducible refine Blk.far ?_ ?_ _); rotate_left; focus (simp <;> omega)))) (by repeat (first | (with_reducible assumption) | ((with_reducible refine Blk.new_ ?_); focus (simp <;> omega)) | (with_reducible refine Blk.alloc ?_ _) | (with_reducible refine Blk.drew ?_) | ((with_reducible refine Blk.far ?_ ?_ _); rotate_left; focus (simp <;> omega)))) (by repeat (first | (with_reducible assumption) | ((with_reducible refine Blk.new_ ?_); focus (simp <;> omega)) | (with_reducible refine Blk.alloc ?_ _) | (with_reducible refine Blk.drew ?_) | ((with_reducible refine Blk.far ?_ ?_ _); rotate_left; focus (simp <;> omega)))) (by repeat (first | (with_reducible assumption) | ((with_reducible refine Blk.new_ ?_); focus (simp <;> omega)) | (with_reducible refine Blk.alloc ?_ _) | (with_reducible refine Blk.drew ?_) | ((with_reducible refine Blk.far ?_ ?_ _); rotate_left; focus (simp <;> omega)))) (by repeat (first | (with_reducible assumption) | ((with_reducible refine Blk.new_ ?_); focus (simp <;> omega)) | (with_reducible refine Blk.alloc ?_ _) | (with_reducible refine Blk.drew ?_) | ((with_reducible refine Blk.far ?_ ?_ _); rotate_left; focus (simp <;> omega)))) (by repeat (first | (with_reducible assumption) | ((with_reducible refine Blk.new_ ?_); focus (simp <;> omega)) | (with_reducible refine Blk.alloc ?_ _) | (with_reducible refine Blk.drew ?_) | ((with_reducible refine Blk.far ?_ ?_ _); rotate_left; focus (simp <;> omega))))).mono ?_
  rintro e' w1 ⟨rfl, hb1, hs1⟩
  have hB : But s w w1 := But.trans (.of_gr (by repeat (first | exact Gr.refl _ | assumption | apply Gr.alloc | apply Gr.drew | (refine Gr.setCell ?_ (by simp <;> omega) _) | (refine Gr.trans ?_ (by assumption))))) hb1
  clear hb1
  go_wp2_with fail
  go_ret
  refine ⟨by rfl, ?_, ?_⟩
  · repeat (first | (with_reducible exact hB) | (with_reducible refine But.alloc ?_ _))
  · repeat (first | (with_reducible exact hs1) | (with_reducible refine StoreAt.alloc ?_ _))
set_option maxHeartbeats 1000000 in
theorem ledX_c (now who ep span h e u : Int) (s : Nat) (w : World) (hs : StoreAt w s span h e u) (hsp : (span == 0) = false)  :
    Calls Try.prog 62 #[.pointer (some ⟨s, 0, none⟩), .int .i64 now, .int .i64 who, .int .i64 ep, .func (.func 64) #[] #[]] w
      (SPost w s span (chgR now who) (ledE (leadsB h e u now who ep)) h e u (-1) (e) (0) (.int .i64 (chgE (chgR now who) (ledE (leadsB h e u now who ep))))) := by
  obtain ⟨b, S_0, L_0⟩ := hs
  go_enter Try.func62, Try.ntmps62
  go_wp2_with fail
  have S_1 : Blk _ s 65 #[.int .i64 span, .pointer (some ⟨b, 0, none⟩)] := ((((S_0.alloc (.cells #[.int .i64 now] 3)).alloc (.cells #[.int .i64 who] 3)).alloc (.cells #[.int .i64 ep] 3)).alloc (.cells #[.func (.func 64) #[] #[]] 96))
  have L_1 : Blk _ b 40 #[.int .i64 (h), .int .i64 (e), .int .i64 (u)] := ((((L_0.alloc (.cells #[.int .i64 now] 3)).alloc (.cells #[.int .i64 who] 3)).alloc (.cells #[.int .i64 ep] 3)).alloc (.cells #[.func (.func 64) #[] #[]] 96))
  refine (chgX_c ep w.heap.size (w.heap.size + 1) (w.heap.size + 1 + 1) (w.heap.size + 1 + 1 + 1) now who span h e u s b _ S_1 L_1 hsp (by repeat (first | (with_reducible assumption) | ((with_reducible refine Blk.new_ ?_); focus (simp <;> omega)) | (with_reducible refine Blk.alloc ?_ _) | (with_reducible refine Blk.drew ?_) | ((with_reducible refine Blk.far ?_ ?_ _); rotate_left; focus (simp <;> omega)))) (by repeat (first | (with_reducible assumption) | ((with_reducible refine Blk.new_ ?_); focus (simp <;> omega)) | (with_reducible refine Blk.alloc ?_ _) | (with_reducible refine Blk.drew ?_) | ((with_reducible refine Blk.far ?_ ?_ _); rotate_left; focus (simp <;> omega)))) (by repeat (first | (with_reducible assumption) | ((with_reducible refine Blk.new_ ?_); focus (simp <;> omega)) | (with_reducible refine Blk.alloc ?_ _) | (with_reducible refine Blk.drew ?_) | ((with_reducible refine Blk.far ?_ ?_ _); rotate_left; focus (simp <;> omega)))) (by repeat (first | (with_reducible assumption) | ((with_reducible refine Blk.new_ ?_); focus (simp <;> omega)) | (with_reducible refine Blk.alloc ?_ _) | (with_reducible refine Blk.drew ?_) | ((with_reducible refine Blk.far ?_ ?_ _); rotate_left; focus (simp <;> omega)))) ).mono ?_
  rintro e' w1 ⟨rfl, hb1, hs1⟩
  have hB : But s w w1 := But.trans (.of_gr (by repeat (first | exact Gr.refl _ | assumption | apply Gr.alloc | apply Gr.drew | (refine Gr.setCell ?_ (by simp <;> omega) _) | (refine Gr.trans ?_ (by assumption))))) hb1
  clear hb1
  go_wp2_with fail
  go_ret
  refine ⟨by rfl, ?_, ?_⟩
  · repeat (first | (with_reducible exact hB) | (with_reducible refine But.alloc ?_ _))
  · repeat (first | (with_reducible exact hs1) | (with_reducible refine StoreAt.alloc ?_ _))
set_option maxHeartbeats 1000000 in
theorem renew_c (now who ep span h e u : Int) (s : Nat) (w : World) (hs : StoreAt w s span h e u) (hsp : (span == 0) = false) :
    Calls Try.prog 33 #[.pointer (some ⟨s, 0, none⟩), .int .i64 now, .int .i64 who, .int .i64 ep] w
      (SPost w s span (chgR now who) (ledE (leadsB h e u now who ep)) h e u (h) (e) (max u (laterV now span)) (.int .i64 (chgE (chgR now who) (ledE (leadsB h e u now who ep))))) := by
  go_enter Try.func33, Try.ntmps33
  go_wp2_with fail
  refine (ledR_c now who ep span h e u s (w.heap.size + 1) w.heap.size _ ((hs.alloc (.cells #[.pointer (some ⟨s, 0, none⟩)] 35)).alloc (.cells #[.int .i64 now] 3)) hsp (by repeat (first | (with_reducible assumption) | ((with_reducible refine Blk.new_ ?_); focus (simp <;> omega)) | (with_reducible refine Blk.alloc ?_ _) | (with_reducible refine Blk.drew ?_) | ((with_reducible refine Blk.far ?_ ?_ _); rotate_left; focus (simp <;> omega)))) (by repeat (first | (with_reducible assumption) | ((with_reducible refine Blk.new_ ?_); focus (simp <;> omega)) | (with_reducible refine Blk.alloc ?_ _) | (with_reducible refine Blk.drew ?_) | ((with_reducible refine Blk.far ?_ ?_ _); rotate_left; focus (simp <;> omega))))).mono ?_
  rintro e' w1 ⟨rfl, hb1, hs1⟩
  have hB : But s w w1 := But.trans (.of_gr (by repeat (first | exact Gr.refl _ | assumption | apply Gr.alloc | apply Gr.drew | (refine Gr.setCell ?_ (by simp <;> omega) _) | (refine Gr.trans ?_ (by assumption))))) hb1
  clear hb1
  go_wp2_with fail
  go_ret
  exact ⟨by rfl, hB, hs1⟩
set_option maxHeartbeats 1000000 in
theorem release_c (now who ep span h e u : Int) (s : Nat) (w : World) (hs : StoreAt w s span h e u) (hsp : (span == 0) = false) :
    Calls Try.prog 35 #[.pointer (some ⟨s, 0, none⟩), .int .i64 now, .int .i64 who, .int .i64 ep] w
      (SPost w s span (chgR now who) (ledE (leadsB h e u now who ep)) h e u (-1) (e) (0) (.int .i64 (chgE (chgR now who) (ledE (leadsB h e u now who ep))))) := by
  go_enter Try.func35, Try.ntmps35
  go_wp2_with fail
  refine (ledX_c now who ep span h e u s _ hs hsp).mono ?_
  rintro e' w1 ⟨rfl, hb1, hs1⟩
  have hB : But s w w1 := But.trans (.of_gr (by repeat (first | exact Gr.refl _ | assumption | apply Gr.alloc | apply Gr.drew | (refine Gr.setCell ?_ (by simp <;> omega) _) | (refine Gr.trans ?_ (by assumption))))) hb1
  clear hb1
  go_wp2_with fail
  go_ret
  exact ⟨by rfl, hB, hs1⟩
set_option maxHeartbeats 1000000 in
theorem holds_c (now who ep span h e u : Int) (s : Nat) (w : World) (hs : StoreAt w s span h e u) (hsp : 0 < span) :
    Calls Try.prog 38 #[.pointer (some ⟨s, 0, none⟩), .int .i64 now, .int .i64 who, .int .i64 ep] w fun e' w' => e' = .returned (.bool (leadsB h e u now who ep)) ∧ Gr w w' := by
  obtain ⟨b, S_0, L_0⟩ := hs
  obtain ⟨Sc, Sf, Sz⟩ := S_0.rules
  have hsp' : decide (0 < span) = true := by simpa using hsp
  go_enter Try.func38, Try.ntmps38
  go_wp2_with (first | (go_at_call 37; refine (get_c s span h e u _ ⟨b, S_0, L_0⟩).mono ?_; rintro e' w1 ⟨rfl, hb1⟩) | (go_at_call 66; refine (leads_c _ _ _ _ _ _ _).mono ?_; rintro e' w2 ⟨rfl, hb2⟩))
  go_ret
  refine ⟨by rfl, ?_⟩
  repeat (first | exact Gr.refl _ | assumption | apply Gr.alloc | apply Gr.drew | (refine Gr.setCell ?_ (by simp <;> omega) _) | (refine Gr.trans ?_ (by assumption)))
end Go.Proofs.Ytpicmpfcmgocmaa

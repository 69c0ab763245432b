/- A store that nobody made: the contracts of each call on it. -/
import Derived.Test.YtpicmpfcmgocmaaLeaseG
namespace Go.Proofs.Ytpicmpfcmgocmaa
open Go.RowKit
section
variable {w : World}
theorem run_fromP0 : (convert 61 57 (.pointer none)).run Try.prog w = .ok (.pointer none) w := by
  have hs : Try.prog.underlying 61 = some .unsafePointer := by kernel_rfl
  have hd : Try.prog.underlying 57 = some (.pointer 40) := by kernel_rfl
  simp [convert, Conv.unsafePointer, run_underlying hs, run_underlying hd, Result.andThen]
end
set_option maxHeartbeats 400000 in
theorem ptrLoad0_c (s o : Nat) (w : World) (h : w.cell? ⟨s, o, none⟩ = some (.pointer none)) :
    Calls Try.prog 65 #[.pointer (some ⟨s, o, none⟩)] w fun e w' => e = .returned (.pointer none) ∧ w = w' := by
  have h1 := run_loadP _ _ h
  have h2 := run_fromP0 (w := w)
  go_enter Try.func65, Try.ntmps65
  go_wp2
  go_ret
  exact ⟨rfl, rfl⟩
def Nob (w : World) (p : Option Addr) : Prop := p = none ∨ ∃ s, p = some ⟨s, 0, none⟩ ∧ Blk w s 65 #[.int .i64 0, .pointer none]
theorem Nob.gr {w w' : World} {p : Option Addr} (h : Nob w p) (hg : Gr w w') : Nob w' p := by
  rcases h with rfl | ⟨s, rfl, hb⟩
  · exact .inl rfl
  · exact .inr ⟨s, rfl, hb.gr hg⟩
theorem Nob.alloc {w : World} {p : Option Addr} (h : Nob w p) (o : Obj) : Nob (w.alloc o) p := h.gr ((Gr.refl w).alloc o)

set_option maxHeartbeats 1000000 in
theorem get_n  (p : Option Addr) (w : World) (hp : Nob w p) :
    Calls Try.prog 37 #[.pointer p] w fun e' w' => e' = .returned (.agg #[.int .i64 0, .int .i64 0, .int .i64 0]) ∧ Gr w w' := by
  rcases hp with rfl | ⟨s, rfl, hb⟩
  · skip
    go_enter Try.func37, Try.ntmps37
    go_wp2_with fail
    refine bodyPost_ret (v := (.agg #[.int .i64 0, .int .i64 0, .int .i64 0])) (by simp [results, Try.results37, go_sem, *]) rfl ⟨by first | rfl | (simp [*]; done), ?_⟩
    repeat (first | (with_reducible exact Gr.refl _) | (with_reducible assumption) | (with_reducible apply Gr.alloc) | (with_reducible apply Gr.drew) | ((with_reducible refine Gr.setCell ?_ ?_ _); rotate_left; focus (simp <;> omega)) | (with_reducible refine Gr.trans ?_ (by assumption)))
  · skip
    obtain ⟨Sc, Sf, Sz⟩ := hb.rules
    go_enter Try.func37, Try.ntmps37
    go_wp2_with fail
    refine (ptrLoad0_c s 1 _ ((hb.alloc _).cell 1)).mono ?_
    rintro e' w' ⟨rfl, rfl⟩
    go_wp2_with fail
    refine bodyPost_ret (v := (.agg #[.int .i64 0, .int .i64 0, .int .i64 0])) (by simp [results, Try.results37, go_sem, *]) rfl ⟨by first | rfl | (simp [*]; done), ?_⟩
    repeat (first | (with_reducible exact Gr.refl _) | (with_reducible assumption) | (with_reducible apply Gr.alloc) | (with_reducible apply Gr.drew) | ((with_reducible refine Gr.setCell ?_ ?_ _); rotate_left; focus (simp <;> omega)) | (with_reducible refine Gr.trans ?_ (by assumption)))

set_option maxHeartbeats 1000000 in
theorem holds_n (now who ep : Int) (p : Option Addr) (w : World) (hp : Nob w p) :
    Calls Try.prog 38 #[.pointer p, .int .i64 now, .int .i64 who, .int .i64 ep] w fun e' w' => e' = .returned (.bool false) ∧ Gr w w' := by
  rcases hp with rfl | ⟨s, rfl, hb⟩
  · skip
    go_enter Try.func38, Try.ntmps38
    go_wp2_with fail
    refine bodyPost_ret (v := (.bool false)) (by simp [results, Try.results38, go_sem, *]) rfl ⟨by first | rfl | (simp [*]; done), ?_⟩
    repeat (first | (with_reducible exact Gr.refl _) | (with_reducible assumption) | (with_reducible apply Gr.alloc) | (with_reducible apply Gr.drew) | ((with_reducible refine Gr.setCell ?_ ?_ _); rotate_left; focus (simp <;> omega)) | (with_reducible refine Gr.trans ?_ (by assumption)))
  · skip
    obtain ⟨Sc, Sf, Sz⟩ := hb.rules
    go_enter Try.func38, Try.ntmps38
    go_wp2_with fail
    refine bodyPost_ret (v := (.bool false)) (by simp [results, Try.results38, go_sem, *]) rfl ⟨by first | rfl | (simp [*]; done), ?_⟩
    repeat (first | (with_reducible exact Gr.refl _) | (with_reducible assumption) | (with_reducible apply Gr.alloc) | (with_reducible apply Gr.drew) | ((with_reducible refine Gr.setCell ?_ ?_ _); rotate_left; focus (simp <;> omega)) | (with_reducible refine Gr.trans ?_ (by assumption)))

set_option maxHeartbeats 1000000 in
theorem change_n (now who : Int) (fv : Value) (p : Option Addr) (w : World) (hp : Nob w p) :
    Calls Try.prog 58 #[.pointer p, .int .i64 now, .int .i64 who, fv] w fun e' w' => e' = .returned (.tuple #[.agg #[.int .i64 0, .int .i64 0, .int .i64 0], .int .i64 7]) ∧ Gr w w' := by
  rcases hp with rfl | ⟨s, rfl, hb⟩
  · skip
    go_enter Try.func58, Try.ntmps58
    go_wp2_with fail
    refine bodyPost_ret (v := (.tuple #[.agg #[.int .i64 0, .int .i64 0, .int .i64 0], .int .i64 7])) (by simp [results, Try.results58, go_sem, *]) rfl ⟨by first | rfl | (simp [*]; done), ?_⟩
    repeat (first | (with_reducible exact Gr.refl _) | (with_reducible assumption) | (with_reducible apply Gr.alloc) | (with_reducible apply Gr.drew) | ((with_reducible refine Gr.setCell ?_ ?_ _); rotate_left; focus (simp <;> omega)) | (with_reducible refine Gr.trans ?_ (by assumption)))
  · skip
    obtain ⟨Sc, Sf, Sz⟩ := hb.rules
    go_enter Try.func58, Try.ntmps58
    go_wp2_with fail
    refine bodyPost_ret (v := (.tuple #[.agg #[.int .i64 0, .int .i64 0, .int .i64 0], .int .i64 7])) (by simp [results, Try.results58, go_sem, *]) rfl ⟨by first | rfl | (simp [*]; done), ?_⟩
    repeat (first | (with_reducible exact Gr.refl _) | (with_reducible assumption) | (with_reducible apply Gr.alloc) | (with_reducible apply Gr.drew) | ((with_reducible refine Gr.setCell ?_ ?_ _); rotate_left; focus (simp <;> omega)) | (with_reducible refine Gr.trans ?_ (by assumption)))

set_option maxHeartbeats 1000000 in
theorem acquire_n (now who : Int) (p : Option Addr) (w : World) (hp : Nob w p) :
    Calls Try.prog 31 #[.pointer p, .int .i64 now, .int .i64 who] w fun e' w' => e' = .returned (.tuple #[.int .i64 0, .int .i64 7]) ∧ Gr w w' := by
  go_enter Try.func31, Try.ntmps31
  go_wp2_with fail
  refine (change_n _ _ _ _ _ (by repeat (first | exact hp | refine Nob.alloc ?_ _))).mono ?_
  rintro e' w1 ⟨rfl, hb1⟩
  go_wp2_with fail
  go_ret2
  refine ⟨by first | rfl | (simp [*]; done), ?_⟩
  repeat (first | (with_reducible exact Gr.refl _) | (with_reducible assumption) | (with_reducible apply Gr.alloc) | (with_reducible apply Gr.drew) | ((with_reducible refine Gr.setCell ?_ ?_ _); rotate_left; focus (simp <;> omega)) | (with_reducible refine Gr.trans ?_ (by assumption)))

set_option maxHeartbeats 1000000 in
theorem led_n (now who ep : Int) (fn : Fn) (ts fs : Array Value) (p : Option Addr) (w : World) (hp : Nob w p) :
    Calls Try.prog 62 #[.pointer p, .int .i64 now, .int .i64 who, .int .i64 ep, .func fn ts fs] w fun e' w' => e' = .returned (.int .i64 7) ∧ Gr w w' := by
  go_enter Try.func62, Try.ntmps62
  go_wp2_with fail
  refine (change_n _ _ _ _ _ (by repeat (first | exact hp | refine Nob.alloc ?_ _))).mono ?_
  rintro e' w1 ⟨rfl, hb1⟩
  go_wp2_with fail
  go_ret
  refine ⟨by first | rfl | (simp [*]; done), ?_⟩
  repeat (first | (with_reducible exact Gr.refl _) | (with_reducible assumption) | (with_reducible apply Gr.alloc) | (with_reducible apply Gr.drew) | ((with_reducible refine Gr.setCell ?_ ?_ _); rotate_left; focus (simp <;> omega)) | (with_reducible refine Gr.trans ?_ (by assumption)))

set_option maxHeartbeats 1000000 in
theorem renew_n (now who ep : Int) (p : Option Addr) (w : World) (hp : Nob w p) :
    Calls Try.prog 33 #[.pointer p, .int .i64 now, .int .i64 who, .int .i64 ep] w fun e' w' => e' = .returned (.int .i64 7) ∧ Gr w w' := by
  go_enter Try.func33, Try.ntmps33
  go_wp2_with fail
  refine (led_n _ _ _ _ _ _ _ _ (by repeat (first | exact hp | refine Nob.alloc ?_ _))).mono ?_
  rintro e' w1 ⟨rfl, hb1⟩
  go_wp2_with fail
  go_ret
  refine ⟨by first | rfl | (simp [*]; done), ?_⟩
  repeat (first | (with_reducible exact Gr.refl _) | (with_reducible assumption) | (with_reducible apply Gr.alloc) | (with_reducible apply Gr.drew) | ((with_reducible refine Gr.setCell ?_ ?_ _); rotate_left; focus (simp <;> omega)) | (with_reducible refine Gr.trans ?_ (by assumption)))

set_option maxHeartbeats 1000000 in
theorem release_n (now who ep : Int) (p : Option Addr) (w : World) (hp : Nob w p) :
    Calls Try.prog 35 #[.pointer p, .int .i64 now, .int .i64 who, .int .i64 ep] w fun e' w' => e' = .returned (.int .i64 7) ∧ Gr w w' := by
  go_enter Try.func35, Try.ntmps35
  go_wp2_with fail
  refine (led_n _ _ _ _ _ _ _ _ (by repeat (first | exact hp | refine Nob.alloc ?_ _))).mono ?_
  rintro e' w1 ⟨rfl, hb1⟩
  go_wp2_with fail
  go_ret
  refine ⟨by first | rfl | (simp [*]; done), ?_⟩
  repeat (first | (with_reducible exact Gr.refl _) | (with_reducible assumption) | (with_reducible apply Gr.alloc) | (with_reducible apply Gr.drew) | ((with_reducible refine Gr.setCell ?_ ?_ _); rotate_left; focus (simp <;> omega)) | (with_reducible refine Gr.trans ?_ (by assumption)))

end Go.Proofs.Ytpicmpfcmgocmaa

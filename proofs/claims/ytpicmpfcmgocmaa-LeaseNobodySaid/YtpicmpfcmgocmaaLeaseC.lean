/- The contracts of the package lease: who leads renews, and gives back. -/
import Derived.Test.YtpicmpfcmgocmaaLeaseB
import Derived.StillTailTactics
import Derived.Deep.RegionLaw
import Derived.BigRegion
namespace Go.Proofs.Ytpicmpfcmgocmaa
open Go.RowKit

theorem later_s (a b : Int) (w : World) : Calls Try.prog 26 #[.int .i64 a, .int .i64 b] w fun e w' => e = .returned (.int .i64 (laterV a b)) ∧ w' = w :=
  (later_c a b w).mono fun _ _ ⟨h1, h2⟩ => ⟨h1, h2.symm⟩
set_option maxRecDepth 100000 in
set_option maxHeartbeats 1000000 in
theorem ren1_c (ho e u now span : Int) (n sb s : Nat) (p : Value) (w : World) (N_0 : Blk w n 3 #[.int .i64 now]) (Q_0 : Blk w sb 35 #[.pointer (some ⟨s, 0, none⟩)]) (S_0 : Blk w s 65 #[.int .i64 span, p]) :
    Calls Try.prog 63 #[.agg #[.int .i64 ho, .int .i64 e, .int .i64 u], .pointer (some ⟨n, 0, none⟩), .pointer (some ⟨sb, 0, none⟩)] w fun e' w' => e' = .returned (.agg #[.int .i64 (ho), .int .i64 (e), .int .i64 (max u (laterV now span))]) ∧ Gr w w' := by
  by_cases hlt : u < laterV now span
  · have hmx : max u (laterV now span) = laterV now span := by omega
    obtain ⟨Nc, Nf, Nz⟩ := N_0.rules
    obtain ⟨Qc, Qf, Qz⟩ := Q_0.rules
    obtain ⟨Sc, Sf, Sz⟩ := S_0.rules
    have HM := hid hmx
    clear hmx
    go_enter Try.func63, Try.ntmps63
    go_wp2_with fail
    refine wp_region_still_tail 10 (by kernel_rfl) (by kernel_rfl) ?_
    simp only [List.take_succ_cons, List.take_zero, List.drop_succ_cons, List.drop_zero]
    change wpStill Try.prog _ (World.drew _) (fun a' => wpList Try.prog _ _ _ a' (World.drew _)) _ _
    still_step
    still_step
    still_step
    still_step
    still_step
    still_step
    still_step
    still_call (later_s _ _ _)
    still_step
    still_step
    refine wpStill_nil ?_
    go_wp2_with fail
    rw [HM.out]
    refine bodyPost_ret (v := .agg #[.int .i64 (ho), .int .i64 (e), .int .i64 (laterV now span)]) (by simp [results, Try.results63, go_sem, *]) rfl ⟨rfl, ?_⟩
    repeat (first | exact Gr.refl _ | assumption | apply Gr.alloc | apply Gr.drew | (refine Gr.setCell ?_ (by simp <;> omega) _) | (refine Gr.trans ?_ (by assumption)))
  · have hmx : max u (laterV now span) = u := by omega
    obtain ⟨Nc, Nf, Nz⟩ := N_0.rules
    obtain ⟨Qc, Qf, Qz⟩ := Q_0.rules
    obtain ⟨Sc, Sf, Sz⟩ := S_0.rules
    have HM := hid hmx
    clear hmx
    go_enter Try.func63, Try.ntmps63
    go_wp2_with fail
    refine wp_region_still_tail 10 (by kernel_rfl) (by kernel_rfl) ?_
    simp only [List.take_succ_cons, List.take_zero, List.drop_succ_cons, List.drop_zero]
    change wpStill Try.prog _ (World.drew _) (fun a' => wpList Try.prog _ _ _ a' (World.drew _)) _ _
    still_step
    still_step
    still_step
    still_step
    still_step
    still_step
    still_step
    still_call (later_s _ _ _)
    still_step
    still_step
    refine wpStill_nil ?_
    go_wp2_with fail
    rw [HM.out]
    refine bodyPost_ret (v := .agg #[.int .i64 (ho), .int .i64 (e), .int .i64 (u)]) (by simp [results, Try.results63, go_sem, *]) rfl ⟨rfl, ?_⟩
    repeat (first | exact Gr.refl _ | assumption | apply Gr.alloc | apply Gr.drew | (refine Gr.setCell ?_ (by simp <;> omega) _) | (refine Gr.trans ?_ (by assumption)))
set_option maxHeartbeats 1000000 in
theorem rel1_c (ho e u : Int) (w : World) :
    Calls Try.prog 64 #[.agg #[.int .i64 ho, .int .i64 e, .int .i64 u]] w fun e' w' => e' = .returned (.agg #[.int .i64 (-1), .int .i64 (e), .int .i64 (0)]) ∧ Gr w w' := by
  go_enter Try.func64, Try.ntmps64
  go_wp2_with fail
  refine bodyPost_ret (v := .agg #[.int .i64 (-1), .int .i64 (e), .int .i64 (0)]) (by simp [results, Try.results64, go_sem, *]) rfl ⟨rfl, ?_⟩
  repeat (first | exact Gr.refl _ | assumption | apply Gr.alloc | apply Gr.drew | (refine Gr.setCell ?_ (by simp <;> omega) _) | (refine Gr.trans ?_ (by assumption)))

def ledE (b : Bool) : Int := if b then 0 else 11
theorem ledE_eq (b : Bool) : (ledE b == 0) = b := by cases b <;> rfl
@[simp] theorem ledE_t : ledE true = 0 := rfl
@[simp] theorem ledE_f : ledE false = 11 := rfl
set_option maxHeartbeats 1000000 in
theorem led1R_c (ep : Int) (n wh eb fb nb sb : Nat) (now who span h e u : Int) (s : Nat) (p : Value) (w : World) (N_0 : Blk w n 3 #[.int .i64 now]) (H_0 : Blk w wh 3 #[.int .i64 who]) (E_0 : Blk w eb 3 #[.int .i64 ep]) (F_0 : Blk w fb 96 #[.func (.func 63) #[] #[.pointer (some ⟨nb, 0, none⟩), .pointer (some ⟨sb, 0, none⟩)]]) (M_0 : Blk w nb 3 #[.int .i64 now]) (Q_0 : Blk w sb 35 #[.pointer (some ⟨s, 0, none⟩)]) (S_0 : Blk w s 65 #[.int .i64 span, p]) :
    Calls Try.prog 80 #[.agg #[.int .i64 h, .int .i64 e, .int .i64 u], .pointer (some ⟨n, 0, none⟩), .pointer (some ⟨wh, 0, none⟩), .pointer (some ⟨eb, 0, none⟩), .pointer (some ⟨fb, 0, none⟩)] w fun e' w' => e' = .returned (.tuple #[.agg #[.int .i64 (acqV (leadsB h e u now who ep) (h)), .int .i64 (acqV (leadsB h e u now who ep) (e)), .int .i64 (acqV (leadsB h e u now who ep) (max u (laterV now span)))], .int .i64 (ledE (leadsB h e u now who ep))]) ∧ Gr w w' := by
  cases hl : (leadsB h e u now who ep)
  · skip
    obtain ⟨Nc, Nf, Nz⟩ := N_0.rules
    obtain ⟨Hc, Hf, Hz⟩ := H_0.rules
    obtain ⟨Ec, Ef, Ez⟩ := E_0.rules
    obtain ⟨Fc, Ff, Fz⟩ := F_0.rules
    obtain ⟨Mc, Mf, Mz⟩ := M_0.rules
    obtain ⟨Qc, Qf, Qz⟩ := Q_0.rules
    obtain ⟨Sc, Sf, Sz⟩ := S_0.rules
    go_enter Try.func80, Try.ntmps80
    go_wp2_with fail
    refine (leads_c _ _ _ _ _ _ _).mono ?_
    rintro e w1 ⟨rfl, hb1⟩
    have N_1 : Blk w1 (n) 3 #[.int .i64 now] := Blk.gr (by repeat (first | (with_reducible assumption) | ((with_reducible refine Blk.new_ ?_); focus (simp <;> omega)) | (with_reducible refine Blk.alloc ?_ _) | (with_reducible refine Blk.drew ?_) | ((with_reducible refine Blk.far ?_ ?_ _); rotate_left; focus (simp <;> omega)))) hb1
    have H_1 : Blk w1 (wh) 3 #[.int .i64 who] := Blk.gr (by repeat (first | (with_reducible assumption) | ((with_reducible refine Blk.new_ ?_); focus (simp <;> omega)) | (with_reducible refine Blk.alloc ?_ _) | (with_reducible refine Blk.drew ?_) | ((with_reducible refine Blk.far ?_ ?_ _); rotate_left; focus (simp <;> omega)))) hb1
    have E_1 : Blk w1 (eb) 3 #[.int .i64 ep] := Blk.gr (by repeat (first | (with_reducible assumption) | ((with_reducible refine Blk.new_ ?_); focus (simp <;> omega)) | (with_reducible refine Blk.alloc ?_ _) | (with_reducible refine Blk.drew ?_) | ((with_reducible refine Blk.far ?_ ?_ _); rotate_left; focus (simp <;> omega)))) hb1
    have F_1 : Blk w1 (fb) 96 #[.func (.func 63) #[] #[.pointer (some ⟨nb, 0, none⟩), .pointer (some ⟨sb, 0, none⟩)]] := Blk.gr (by repeat (first | (with_reducible assumption) | ((with_reducible refine Blk.new_ ?_); focus (simp <;> omega)) | (with_reducible refine Blk.alloc ?_ _) | (with_reducible refine Blk.drew ?_) | ((with_reducible refine Blk.far ?_ ?_ _); rotate_left; focus (simp <;> omega)))) hb1
    have M_1 : Blk w1 (nb) 3 #[.int .i64 now] := Blk.gr (by repeat (first | (with_reducible assumption) | ((with_reducible refine Blk.new_ ?_); focus (simp <;> omega)) | (with_reducible refine Blk.alloc ?_ _) | (with_reducible refine Blk.drew ?_) | ((with_reducible refine Blk.far ?_ ?_ _); rotate_left; focus (simp <;> omega)))) hb1
    have Q_1 : Blk w1 (sb) 35 #[.pointer (some ⟨s, 0, none⟩)] := Blk.gr (by repeat (first | (with_reducible assumption) | ((with_reducible refine Blk.new_ ?_); focus (simp <;> omega)) | (with_reducible refine Blk.alloc ?_ _) | (with_reducible refine Blk.drew ?_) | ((with_reducible refine Blk.far ?_ ?_ _); rotate_left; focus (simp <;> omega)))) hb1
    have S_1 : Blk w1 (s) 65 #[.int .i64 span, p] := Blk.gr (by repeat (first | (with_reducible assumption) | ((with_reducible refine Blk.new_ ?_); focus (simp <;> omega)) | (with_reducible refine Blk.alloc ?_ _) | (with_reducible refine Blk.drew ?_) | ((with_reducible refine Blk.far ?_ ?_ _); rotate_left; focus (simp <;> omega)))) hb1
    have B_1 : Blk w1 (w.heap.size) 40 #[.int .i64 (h), .int .i64 (e), .int .i64 (u)] := Blk.gr (by repeat (first | (with_reducible assumption) | ((with_reducible refine Blk.new_ ?_); focus (simp <;> omega)) | (with_reducible refine Blk.alloc ?_ _) | (with_reducible refine Blk.drew ?_) | ((with_reducible refine Blk.far ?_ ?_ _); rotate_left; focus (simp <;> omega)))) hb1
    have R_1 : Blk w1 (w.heap.size + 1) 40 #[.int .i64 (0), .int .i64 (0), .int .i64 (0)] := Blk.gr (by repeat (first | (with_reducible assumption) | ((with_reducible refine Blk.new_ ?_); focus (simp <;> omega)) | (with_reducible refine Blk.alloc ?_ _) | (with_reducible refine Blk.drew ?_) | ((with_reducible refine Blk.far ?_ ?_ _); rotate_left; focus (simp <;> omega)))) hb1
    obtain ⟨Nc, Nf, Nz⟩ := N_1.rules
    obtain ⟨Hc, Hf, Hz⟩ := H_1.rules
    obtain ⟨Ec, Ef, Ez⟩ := E_1.rules
    obtain ⟨Fc, Ff, Fz⟩ := F_1.rules
    obtain ⟨Mc, Mf, Mz⟩ := M_1.rules
    obtain ⟨Qc, Qf, Qz⟩ := Q_1.rules
    obtain ⟨Sc, Sf, Sz⟩ := S_1.rules
    obtain ⟨Bc, Bf, Bz⟩ := B_1.rules
    obtain ⟨Rc, Rf, Rz⟩ := R_1.rules
    go_wp2_with fail
    refine bodyPost_ret (v := (.tuple #[.agg #[.int .i64 (acqV (leadsB h e u now who ep) (h)), .int .i64 (acqV (leadsB h e u now who ep) (e)), .int .i64 (acqV (leadsB h e u now who ep) (max u (laterV now span)))], .int .i64 (ledE (leadsB h e u now who ep))])) (by simp [results, Try.results80, go_sem, *]) rfl ⟨by first | rfl | (simp [*]; done), ?_⟩
    repeat (first | exact Gr.refl _ | assumption | apply Gr.alloc | apply Gr.drew | (refine Gr.setCell ?_ (by simp <;> omega) _) | (refine Gr.trans ?_ (by assumption)))
  · skip
    obtain ⟨Nc, Nf, Nz⟩ := N_0.rules
    obtain ⟨Hc, Hf, Hz⟩ := H_0.rules
    obtain ⟨Ec, Ef, Ez⟩ := E_0.rules
    obtain ⟨Fc, Ff, Fz⟩ := F_0.rules
    obtain ⟨Mc, Mf, Mz⟩ := M_0.rules
    obtain ⟨Qc, Qf, Qz⟩ := Q_0.rules
    obtain ⟨Sc, Sf, Sz⟩ := S_0.rules
    go_enter Try.func80, Try.ntmps80
    go_wp2_with fail
    refine (leads_c _ _ _ _ _ _ _).mono ?_
    rintro e w1 ⟨rfl, hb1⟩
    have N_1 : Blk w1 (n) 3 #[.int .i64 now] := Blk.gr (by repeat (first | (with_reducible assumption) | ((with_reducible refine Blk.new_ ?_); focus (simp <;> omega)) | (with_reducible refine Blk.alloc ?_ _) | (with_reducible refine Blk.drew ?_) | ((with_reducible refine Blk.far ?_ ?_ _); rotate_left; focus (simp <;> omega)))) hb1
    have H_1 : Blk w1 (wh) 3 #[.int .i64 who] := Blk.gr (by repeat (first | (with_reducible assumption) | ((with_reducible refine Blk.new_ ?_); focus (simp <;> omega)) | (with_reducible refine Blk.alloc ?_ _) | (with_reducible refine Blk.drew ?_) | ((with_reducible refine Blk.far ?_ ?_ _); rotate_left; focus (simp <;> omega)))) hb1
    have E_1 : Blk w1 (eb) 3 #[.int .i64 ep] := Blk.gr (by repeat (first | (with_reducible assumption) | ((with_reducible refine Blk.new_ ?_); focus (simp <;> omega)) | (with_reducible refine Blk.alloc ?_ _) | (with_reducible refine Blk.drew ?_) | ((with_reducible refine Blk.far ?_ ?_ _); rotate_left; focus (simp <;> omega)))) hb1
    have F_1 : Blk w1 (fb) 96 #[.func (.func 63) #[] #[.pointer (some ⟨nb, 0, none⟩), .pointer (some ⟨sb, 0, none⟩)]] := Blk.gr (by repeat (first | (with_reducible assumption) | ((with_reducible refine Blk.new_ ?_); focus (simp <;> omega)) | (with_reducible refine Blk.alloc ?_ _) | (with_reducible refine Blk.drew ?_) | ((with_reducible refine Blk.far ?_ ?_ _); rotate_left; focus (simp <;> omega)))) hb1
    have M_1 : Blk w1 (nb) 3 #[.int .i64 now] := Blk.gr (by repeat (first | (with_reducible assumption) | ((with_reducible refine Blk.new_ ?_); focus (simp <;> omega)) | (with_reducible refine Blk.alloc ?_ _) | (with_reducible refine Blk.drew ?_) | ((with_reducible refine Blk.far ?_ ?_ _); rotate_left; focus (simp <;> omega)))) hb1
    have Q_1 : Blk w1 (sb) 35 #[.pointer (some ⟨s, 0, none⟩)] := Blk.gr (by repeat (first | (with_reducible assumption) | ((with_reducible refine Blk.new_ ?_); focus (simp <;> omega)) | (with_reducible refine Blk.alloc ?_ _) | (with_reducible refine Blk.drew ?_) | ((with_reducible refine Blk.far ?_ ?_ _); rotate_left; focus (simp <;> omega)))) hb1
    have S_1 : Blk w1 (s) 65 #[.int .i64 span, p] := Blk.gr (by repeat (first | (with_reducible assumption) | ((with_reducible refine Blk.new_ ?_); focus (simp <;> omega)) | (with_reducible refine Blk.alloc ?_ _) | (with_reducible refine Blk.drew ?_) | ((with_reducible refine Blk.far ?_ ?_ _); rotate_left; focus (simp <;> omega)))) hb1
    have B_1 : Blk w1 (w.heap.size) 40 #[.int .i64 (h), .int .i64 (e), .int .i64 (u)] := Blk.gr (by repeat (first | (with_reducible assumption) | ((with_reducible refine Blk.new_ ?_); focus (simp <;> omega)) | (with_reducible refine Blk.alloc ?_ _) | (with_reducible refine Blk.drew ?_) | ((with_reducible refine Blk.far ?_ ?_ _); rotate_left; focus (simp <;> omega)))) hb1
    have R_1 : Blk w1 (w.heap.size + 1) 40 #[.int .i64 (0), .int .i64 (0), .int .i64 (0)] := Blk.gr (by repeat (first | (with_reducible assumption) | ((with_reducible refine Blk.new_ ?_); focus (simp <;> omega)) | (with_reducible refine Blk.alloc ?_ _) | (with_reducible refine Blk.drew ?_) | ((with_reducible refine Blk.far ?_ ?_ _); rotate_left; focus (simp <;> omega)))) hb1
    obtain ⟨Nc, Nf, Nz⟩ := N_1.rules
    obtain ⟨Hc, Hf, Hz⟩ := H_1.rules
    obtain ⟨Ec, Ef, Ez⟩ := E_1.rules
    obtain ⟨Fc, Ff, Fz⟩ := F_1.rules
    obtain ⟨Mc, Mf, Mz⟩ := M_1.rules
    obtain ⟨Qc, Qf, Qz⟩ := Q_1.rules
    obtain ⟨Sc, Sf, Sz⟩ := S_1.rules
    obtain ⟨Bc, Bf, Bz⟩ := B_1.rules
    obtain ⟨Rc, Rf, Rz⟩ := R_1.rules
    go_wp2_with fail
    refine (ren1_c h e u now span nb sb s p _ M_1 Q_1 S_1).mono ?_
    rintro e w2 ⟨rfl, hb2⟩
    have N_2 : Blk w2 (n) 3 #[.int .i64 now] := Blk.gr (by repeat (first | (with_reducible assumption) | ((with_reducible refine Blk.new_ ?_); focus (simp <;> omega)) | (with_reducible refine Blk.alloc ?_ _) | (with_reducible refine Blk.drew ?_) | ((with_reducible refine Blk.far ?_ ?_ _); rotate_left; focus (simp <;> omega)))) hb2
    have H_2 : Blk w2 (wh) 3 #[.int .i64 who] := Blk.gr (by repeat (first | (with_reducible assumption) | ((with_reducible refine Blk.new_ ?_); focus (simp <;> omega)) | (with_reducible refine Blk.alloc ?_ _) | (with_reducible refine Blk.drew ?_) | ((with_reducible refine Blk.far ?_ ?_ _); rotate_left; focus (simp <;> omega)))) hb2
    have E_2 : Blk w2 (eb) 3 #[.int .i64 ep] := Blk.gr (by repeat (first | (with_reducible assumption) | ((with_reducible refine Blk.new_ ?_); focus (simp <;> omega)) | (with_reducible refine Blk.alloc ?_ _) | (with_reducible refine Blk.drew ?_) | ((with_reducible refine Blk.far ?_ ?_ _); rotate_left; focus (simp <;> omega)))) hb2
    have F_2 : Blk w2 (fb) 96 #[.func (.func 63) #[] #[.pointer (some ⟨nb, 0, none⟩), .pointer (some ⟨sb, 0, none⟩)]] := Blk.gr (by repeat (first | (with_reducible assumption) | ((with_reducible refine Blk.new_ ?_); focus (simp <;> omega)) | (with_reducible refine Blk.alloc ?_ _) | (with_reducible refine Blk.drew ?_) | ((with_reducible refine Blk.far ?_ ?_ _); rotate_left; focus (simp <;> omega)))) hb2
    have M_2 : Blk w2 (nb) 3 #[.int .i64 now] := Blk.gr (by repeat (first | (with_reducible assumption) | ((with_reducible refine Blk.new_ ?_); focus (simp <;> omega)) | (with_reducible refine Blk.alloc ?_ _) | (with_reducible refine Blk.drew ?_) | ((with_reducible refine Blk.far ?_ ?_ _); rotate_left; focus (simp <;> omega)))) hb2
    have Q_2 : Blk w2 (sb) 35 #[.pointer (some ⟨s, 0, none⟩)] := Blk.gr (by repeat (first | (with_reducible assumption) | ((with_reducible refine Blk.new_ ?_); focus (simp <;> omega)) | (with_reducible refine Blk.alloc ?_ _) | (with_reducible refine Blk.drew ?_) | ((with_reducible refine Blk.far ?_ ?_ _); rotate_left; focus (simp <;> omega)))) hb2
    have S_2 : Blk w2 (s) 65 #[.int .i64 span, p] := Blk.gr (by repeat (first | (with_reducible assumption) | ((with_reducible refine Blk.new_ ?_); focus (simp <;> omega)) | (with_reducible refine Blk.alloc ?_ _) | (with_reducible refine Blk.drew ?_) | ((with_reducible refine Blk.far ?_ ?_ _); rotate_left; focus (simp <;> omega)))) hb2
    have B_2 : Blk w2 (w.heap.size) 40 #[.int .i64 (h), .int .i64 (e), .int .i64 (u)] := Blk.gr (by repeat (first | (with_reducible assumption) | ((with_reducible refine Blk.new_ ?_); focus (simp <;> omega)) | (with_reducible refine Blk.alloc ?_ _) | (with_reducible refine Blk.drew ?_) | ((with_reducible refine Blk.far ?_ ?_ _); rotate_left; focus (simp <;> omega)))) hb2
    have R_2 : Blk w2 (w.heap.size + 1) 40 #[.int .i64 (0), .int .i64 (0), .int .i64 (0)] := Blk.gr (by repeat (first | (with_reducible assumption) | ((with_reducible refine Blk.new_ ?_); focus (simp <;> omega)) | (with_reducible refine Blk.alloc ?_ _) | (with_reducible refine Blk.drew ?_) | ((with_reducible refine Blk.far ?_ ?_ _); rotate_left; focus (simp <;> omega)))) hb2
    obtain ⟨Nc, Nf, Nz⟩ := N_2.rules
    obtain ⟨Hc, Hf, Hz⟩ := H_2.rules
    obtain ⟨Ec, Ef, Ez⟩ := E_2.rules
    obtain ⟨Fc, Ff, Fz⟩ := F_2.rules
    obtain ⟨Mc, Mf, Mz⟩ := M_2.rules
    obtain ⟨Qc, Qf, Qz⟩ := Q_2.rules
    obtain ⟨Sc, Sf, Sz⟩ := S_2.rules
    obtain ⟨Bc, Bf, Bz⟩ := B_2.rules
    obtain ⟨Rc, Rf, Rz⟩ := R_2.rules
    go_wp2_with fail
    refine bodyPost_ret (v := (.tuple #[.agg #[.int .i64 (acqV (leadsB h e u now who ep) (h)), .int .i64 (acqV (leadsB h e u now who ep) (e)), .int .i64 (acqV (leadsB h e u now who ep) (max u (laterV now span)))], .int .i64 (ledE (leadsB h e u now who ep))])) (by simp [results, Try.results80, go_sem, *]) rfl ⟨by first | rfl | (simp [*]; done), ?_⟩
    repeat (first | exact Gr.refl _ | assumption | apply Gr.alloc | apply Gr.drew | (refine Gr.setCell ?_ (by simp <;> omega) _) | (refine Gr.trans ?_ (by assumption)))
set_option maxHeartbeats 2000000 in
theorem chgR_c (ep : Int) (n wh eb fb nb sb : Nat) (now who span h e u : Int) (s b : Nat) (w : World) (S_0 : Blk w s 65 #[.int .i64 span, .pointer (some ⟨b, 0, none⟩)]) (L_0 : Blk w b 40 #[.int .i64 (h), .int .i64 (e), .int .i64 (u)]) (hsp : (span == 0) = false) (N_0 : Blk w n 3 #[.int .i64 now]) (H_0 : Blk w wh 3 #[.int .i64 who]) (E_0 : Blk w eb 3 #[.int .i64 ep]) (F_0 : Blk w fb 96 #[.func (.func 63) #[] #[.pointer (some ⟨nb, 0, none⟩), .pointer (some ⟨sb, 0, none⟩)]]) (M_0 : Blk w nb 3 #[.int .i64 now]) (Q_0 : Blk w sb 35 #[.pointer (some ⟨s, 0, none⟩)]) :
    Calls Try.prog 58 #[.pointer (some ⟨s, 0, none⟩), .int .i64 now, .int .i64 who, .func (.func 80) #[] #[.pointer (some ⟨n, 0, none⟩), .pointer (some ⟨wh, 0, none⟩), .pointer (some ⟨eb, 0, none⟩), .pointer (some ⟨fb, 0, none⟩)]] w (LPost w s span (chgR now who) (ledE (leadsB h e u now who ep)) h e u (h) (e) (max u (laterV now span))) := by
  cases r0 : rightB now 0 1099511627776
  · skip
    obtain ⟨Sc, Sf, Sz⟩ := S_0.rules
    obtain ⟨Lc, Lf, Lz⟩ := L_0.rules
    have hr : chgR now who = false := by simp [chgR, r0]
    obtain ⟨Nc, Nf, Nz⟩ := N_0.rules
    obtain ⟨Hc, Hf, Hz⟩ := H_0.rules
    obtain ⟨Ec, Ef, Ez⟩ := E_0.rules
    obtain ⟨Fc, Ff, Fz⟩ := F_0.rules
    obtain ⟨Mc, Mf, Mz⟩ := M_0.rules
    obtain ⟨Qc, Qf, Qz⟩ := Q_0.rules
    go_enter Try.func58, Try.ntmps58
    go_wp2_with (go_at_call 22; refine (right_c _ _ _ _).mono ?_; rintro e' w' ⟨rfl, rfl⟩)
    refine bodyPost_ret (v := (.tuple #[.agg #[.int .i64 (0), .int .i64 (0), .int .i64 (0)], .int .i64 (1)])) (by simp [results, Try.results58, go_sem, *]) rfl ?_
    have hok : chgOk (chgR now who) (ledE (leadsB h e u now who ep)) = false := by simp [chgOk, hr]
    have her : chgE (chgR now who) (ledE (leadsB h e u now who ep)) = 1 := by simp [chgE, hr]
    unfold LPost
    rw [hok, her]
    simp only [acqV_t, acqV_f, pickV_t, pickV_f]
    refine ⟨by first | trivial | rfl, But.of_gr ?_, b, ?_, ?_⟩
    · repeat (first | exact Gr.refl _ | assumption | apply Gr.alloc | apply Gr.drew | (refine Gr.setCell ?_ (by simp <;> omega) _) | (refine Gr.trans ?_ (by assumption)))
    · repeat (first | (with_reducible exact S_0) | (with_reducible refine Blk.alloc ?_ _) | ((with_reducible refine Blk.far ?_ ?_ _); rotate_left; focus (simp <;> omega)))
    · repeat (first | (with_reducible exact L_0) | (with_reducible refine Blk.alloc ?_ _) | ((with_reducible refine Blk.far ?_ ?_ _); rotate_left; focus (simp <;> omega)))
  · cases r1 : rightB who 0 4
    · skip
      obtain ⟨Sc, Sf, Sz⟩ := S_0.rules
      obtain ⟨Lc, Lf, Lz⟩ := L_0.rules
      have hr : chgR now who = false := by simp [chgR, r0, r1]
      obtain ⟨Nc, Nf, Nz⟩ := N_0.rules
      obtain ⟨Hc, Hf, Hz⟩ := H_0.rules
      obtain ⟨Ec, Ef, Ez⟩ := E_0.rules
      obtain ⟨Fc, Ff, Fz⟩ := F_0.rules
      obtain ⟨Mc, Mf, Mz⟩ := M_0.rules
      obtain ⟨Qc, Qf, Qz⟩ := Q_0.rules
      go_enter Try.func58, Try.ntmps58
      go_wp2_with (go_at_call 22; refine (right_c _ _ _ _).mono ?_; rintro e' w' ⟨rfl, rfl⟩)
      refine bodyPost_ret (v := (.tuple #[.agg #[.int .i64 (0), .int .i64 (0), .int .i64 (0)], .int .i64 (1)])) (by simp [results, Try.results58, go_sem, *]) rfl ?_
      have hok : chgOk (chgR now who) (ledE (leadsB h e u now who ep)) = false := by simp [chgOk, hr]
      have her : chgE (chgR now who) (ledE (leadsB h e u now who ep)) = 1 := by simp [chgE, hr]
      unfold LPost
      rw [hok, her]
      simp only [acqV_t, acqV_f, pickV_t, pickV_f]
      refine ⟨by first | trivial | rfl, But.of_gr ?_, b, ?_, ?_⟩
      · repeat (first | exact Gr.refl _ | assumption | apply Gr.alloc | apply Gr.drew | (refine Gr.setCell ?_ (by simp <;> omega) _) | (refine Gr.trans ?_ (by assumption)))
      · repeat (first | (with_reducible exact S_0) | (with_reducible refine Blk.alloc ?_ _) | ((with_reducible refine Blk.far ?_ ?_ _); rotate_left; focus (simp <;> omega)))
      · repeat (first | (with_reducible exact L_0) | (with_reducible refine Blk.alloc ?_ _) | ((with_reducible refine Blk.far ?_ ?_ _); rotate_left; focus (simp <;> omega)))
    · cases eo : (ledE (leadsB h e u now who ep) == 0)
      · skip
        obtain ⟨Sc, Sf, Sz⟩ := S_0.rules
        obtain ⟨Lc, Lf, Lz⟩ := L_0.rules
        have hr : chgR now who = true := by simp [chgR, r0, r1]
        obtain ⟨Nc, Nf, Nz⟩ := N_0.rules
        obtain ⟨Hc, Hf, Hz⟩ := H_0.rules
        obtain ⟨Ec, Ef, Ez⟩ := E_0.rules
        obtain ⟨Fc, Ff, Fz⟩ := F_0.rules
        obtain ⟨Mc, Mf, Mz⟩ := M_0.rules
        obtain ⟨Qc, Qf, Qz⟩ := Q_0.rules
        have q0 : (leadsB h e u now who ep) = false := by rw [← ledE_eq (leadsB h e u now who ep)]; exact eo
        have eo' : ((ledE (leadsB h e u now who ep)) != 0) = true := by simp only [bne, eo]; rfl
        go_enter Try.func58, Try.ntmps58
        go_wp2_with (go_at_call 22; refine (right_c _ _ _ _).mono ?_; rintro e' w' ⟨rfl, rfl⟩)
        refine wp_loop_rounds 1 ?_
        rw [rounds_succ]
        go_wp2_with fail
        refine (ptrLoad_c s 1 b _ _ _ _ ((S_0.alloc _).cell 1) (L_0.alloc _)).mono ?_
        rintro e' w' ⟨rfl, rfl⟩
        go_wp2_with fail
        refine (led1R_c ep n wh eb fb nb sb now who span h e u s (.pointer (some ⟨b, 0, none⟩)) _ (N_0.alloc _) (H_0.alloc _) (E_0.alloc _) (F_0.alloc _) (M_0.alloc _) (Q_0.alloc _) (S_0.alloc _)).mono ?_
        rintro e w1 ⟨rfl, hb1⟩
        have S_1 : Blk w1 (s) 65 #[.int .i64 span, .pointer (some ⟨b, 0, none⟩)] := Blk.gr (by repeat (first | (with_reducible assumption) | ((with_reducible refine Blk.new_ ?_); focus (simp <;> omega)) | (with_reducible refine Blk.alloc ?_ _) | (with_reducible refine Blk.drew ?_) | ((with_reducible refine Blk.far ?_ ?_ _); rotate_left; focus (simp <;> omega)))) hb1
        have L_1 : Blk w1 (b) 40 #[.int .i64 (h), .int .i64 (e), .int .i64 (u)] := Blk.gr (by repeat (first | (with_reducible assumption) | ((with_reducible refine Blk.new_ ?_); focus (simp <;> omega)) | (with_reducible refine Blk.alloc ?_ _) | (with_reducible refine Blk.drew ?_) | ((with_reducible refine Blk.far ?_ ?_ _); rotate_left; focus (simp <;> omega)))) hb1
        have R_1 : Blk w1 (w.heap.size) 40 #[.int .i64 (0), .int .i64 (0), .int .i64 (0)] := Blk.gr (by repeat (first | (with_reducible assumption) | ((with_reducible refine Blk.new_ ?_); focus (simp <;> omega)) | (with_reducible refine Blk.alloc ?_ _) | (with_reducible refine Blk.drew ?_) | ((with_reducible refine Blk.far ?_ ?_ _); rotate_left; focus (simp <;> omega)))) hb1
        have N_1 : Blk w1 (n) 3 #[.int .i64 now] := Blk.gr (by repeat (first | (with_reducible assumption) | ((with_reducible refine Blk.new_ ?_); focus (simp <;> omega)) | (with_reducible refine Blk.alloc ?_ _) | (with_reducible refine Blk.drew ?_) | ((with_reducible refine Blk.far ?_ ?_ _); rotate_left; focus (simp <;> omega)))) hb1
        have H_1 : Blk w1 (wh) 3 #[.int .i64 who] := Blk.gr (by repeat (first | (with_reducible assumption) | ((with_reducible refine Blk.new_ ?_); focus (simp <;> omega)) | (with_reducible refine Blk.alloc ?_ _) | (with_reducible refine Blk.drew ?_) | ((with_reducible refine Blk.far ?_ ?_ _); rotate_left; focus (simp <;> omega)))) hb1
        have E_1 : Blk w1 (eb) 3 #[.int .i64 ep] := Blk.gr (by repeat (first | (with_reducible assumption) | ((with_reducible refine Blk.new_ ?_); focus (simp <;> omega)) | (with_reducible refine Blk.alloc ?_ _) | (with_reducible refine Blk.drew ?_) | ((with_reducible refine Blk.far ?_ ?_ _); rotate_left; focus (simp <;> omega)))) hb1
        have F_1 : Blk w1 (fb) 96 #[.func (.func 63) #[] #[.pointer (some ⟨nb, 0, none⟩), .pointer (some ⟨sb, 0, none⟩)]] := Blk.gr (by repeat (first | (with_reducible assumption) | ((with_reducible refine Blk.new_ ?_); focus (simp <;> omega)) | (with_reducible refine Blk.alloc ?_ _) | (with_reducible refine Blk.drew ?_) | ((with_reducible refine Blk.far ?_ ?_ _); rotate_left; focus (simp <;> omega)))) hb1
        have M_1 : Blk w1 (nb) 3 #[.int .i64 now] := Blk.gr (by repeat (first | (with_reducible assumption) | ((with_reducible refine Blk.new_ ?_); focus (simp <;> omega)) | (with_reducible refine Blk.alloc ?_ _) | (with_reducible refine Blk.drew ?_) | ((with_reducible refine Blk.far ?_ ?_ _); rotate_left; focus (simp <;> omega)))) hb1
        have Q_1 : Blk w1 (sb) 35 #[.pointer (some ⟨s, 0, none⟩)] := Blk.gr (by repeat (first | (with_reducible assumption) | ((with_reducible refine Blk.new_ ?_); focus (simp <;> omega)) | (with_reducible refine Blk.alloc ?_ _) | (with_reducible refine Blk.drew ?_) | ((with_reducible refine Blk.far ?_ ?_ _); rotate_left; focus (simp <;> omega)))) hb1
        obtain ⟨Sc, Sf, Sz⟩ := S_1.rules
        obtain ⟨Lc, Lf, Lz⟩ := L_1.rules
        obtain ⟨Rc, Rf, Rz⟩ := R_1.rules
        obtain ⟨Nc, Nf, Nz⟩ := N_1.rules
        obtain ⟨Hc, Hf, Hz⟩ := H_1.rules
        obtain ⟨Ec, Ef, Ez⟩ := E_1.rules
        obtain ⟨Fc, Ff, Fz⟩ := F_1.rules
        obtain ⟨Mc, Mf, Mz⟩ := M_1.rules
        obtain ⟨Qc, Qf, Qz⟩ := Q_1.rules
        go_wp2_with fail
        refine bodyPost_ret (v := (.tuple #[.agg #[.int .i64 (0), .int .i64 (0), .int .i64 (0)], .int .i64 (ledE (leadsB h e u now who ep))])) (by simp [results, Try.results58, go_sem, *]) rfl ?_
        have hok : chgOk (chgR now who) (ledE (leadsB h e u now who ep)) = false := by simp [chgOk, hr, eo]
        have her : chgE (chgR now who) (ledE (leadsB h e u now who ep)) = ledE (leadsB h e u now who ep) := by simp [chgE, hr]
        unfold LPost
        rw [hok, her]
        simp only [acqV_t, acqV_f, pickV_t, pickV_f]
        refine ⟨by first | trivial | rfl, But.of_gr ?_, b, ?_, ?_⟩
        · repeat (first | exact Gr.refl _ | assumption | apply Gr.alloc | apply Gr.drew | (refine Gr.setCell ?_ (by simp <;> omega) _) | (refine Gr.trans ?_ (by assumption)))
        · repeat (first | (with_reducible exact S_1) | (with_reducible refine Blk.alloc ?_ _) | ((with_reducible refine Blk.far ?_ ?_ _); rotate_left; focus (simp <;> omega)))
        · repeat (first | (with_reducible exact L_1) | (with_reducible refine Blk.alloc ?_ _) | ((with_reducible refine Blk.far ?_ ?_ _); rotate_left; focus (simp <;> omega)))
      · skip
        obtain ⟨Sc, Sf, Sz⟩ := S_0.rules
        obtain ⟨Lc, Lf, Lz⟩ := L_0.rules
        have hr : chgR now who = true := by simp [chgR, r0, r1]
        obtain ⟨Nc, Nf, Nz⟩ := N_0.rules
        obtain ⟨Hc, Hf, Hz⟩ := H_0.rules
        obtain ⟨Ec, Ef, Ez⟩ := E_0.rules
        obtain ⟨Fc, Ff, Fz⟩ := F_0.rules
        obtain ⟨Mc, Mf, Mz⟩ := M_0.rules
        obtain ⟨Qc, Qf, Qz⟩ := Q_0.rules
        have q0 : (leadsB h e u now who ep) = true := by rw [← ledE_eq (leadsB h e u now who ep)]; exact eo
        have e0 : ledE (leadsB h e u now who ep) = 0 := by simpa using eo
        have eo' : ((ledE (leadsB h e u now who ep)) != 0) = false := by simp only [bne, eo]; rfl
        go_enter Try.func58, Try.ntmps58
        go_wp2_with (go_at_call 22; refine (right_c _ _ _ _).mono ?_; rintro e' w' ⟨rfl, rfl⟩)
        refine wp_loop_rounds 1 ?_
        rw [rounds_succ]
        go_wp2_with fail
        refine (ptrLoad_c s 1 b _ _ _ _ ((S_0.alloc _).cell 1) (L_0.alloc _)).mono ?_
        rintro e' w' ⟨rfl, rfl⟩
        go_wp2_with fail
        refine (led1R_c ep n wh eb fb nb sb now who span h e u s (.pointer (some ⟨b, 0, none⟩)) _ (N_0.alloc _) (H_0.alloc _) (E_0.alloc _) (F_0.alloc _) (M_0.alloc _) (Q_0.alloc _) (S_0.alloc _)).mono ?_
        rintro e w1 ⟨rfl, hb1⟩
        have S_1 : Blk w1 (s) 65 #[.int .i64 span, .pointer (some ⟨b, 0, none⟩)] := Blk.gr (by repeat (first | (with_reducible assumption) | ((with_reducible refine Blk.new_ ?_); focus (simp <;> omega)) | (with_reducible refine Blk.alloc ?_ _) | (with_reducible refine Blk.drew ?_) | ((with_reducible refine Blk.far ?_ ?_ _); rotate_left; focus (simp <;> omega)))) hb1
        have L_1 : Blk w1 (b) 40 #[.int .i64 (h), .int .i64 (e), .int .i64 (u)] := Blk.gr (by repeat (first | (with_reducible assumption) | ((with_reducible refine Blk.new_ ?_); focus (simp <;> omega)) | (with_reducible refine Blk.alloc ?_ _) | (with_reducible refine Blk.drew ?_) | ((with_reducible refine Blk.far ?_ ?_ _); rotate_left; focus (simp <;> omega)))) hb1
        have R_1 : Blk w1 (w.heap.size) 40 #[.int .i64 (0), .int .i64 (0), .int .i64 (0)] := Blk.gr (by repeat (first | (with_reducible assumption) | ((with_reducible refine Blk.new_ ?_); focus (simp <;> omega)) | (with_reducible refine Blk.alloc ?_ _) | (with_reducible refine Blk.drew ?_) | ((with_reducible refine Blk.far ?_ ?_ _); rotate_left; focus (simp <;> omega)))) hb1
        have N_1 : Blk w1 (n) 3 #[.int .i64 now] := Blk.gr (by repeat (first | (with_reducible assumption) | ((with_reducible refine Blk.new_ ?_); focus (simp <;> omega)) | (with_reducible refine Blk.alloc ?_ _) | (with_reducible refine Blk.drew ?_) | ((with_reducible refine Blk.far ?_ ?_ _); rotate_left; focus (simp <;> omega)))) hb1
        have H_1 : Blk w1 (wh) 3 #[.int .i64 who] := Blk.gr (by repeat (first | (with_reducible assumption) | ((with_reducible refine Blk.new_ ?_); focus (simp <;> omega)) | (with_reducible refine Blk.alloc ?_ _) | (with_reducible refine Blk.drew ?_) | ((with_reducible refine Blk.far ?_ ?_ _); rotate_left; focus (simp <;> omega)))) hb1
        have E_1 : Blk w1 (eb) 3 #[.int .i64 ep] := Blk.gr (by repeat (first | (with_reducible assumption) | ((with_reducible refine Blk.new_ ?_); focus (simp <;> omega)) | (with_reducible refine Blk.alloc ?_ _) | (with_reducible refine Blk.drew ?_) | ((with_reducible refine Blk.far ?_ ?_ _); rotate_left; focus (simp <;> omega)))) hb1
        have F_1 : Blk w1 (fb) 96 #[.func (.func 63) #[] #[.pointer (some ⟨nb, 0, none⟩), .pointer (some ⟨sb, 0, none⟩)]] := Blk.gr (by repeat (first | (with_reducible assumption) | ((with_reducible refine Blk.new_ ?_); focus (simp <;> omega)) | (with_reducible refine Blk.alloc ?_ _) | (with_reducible refine Blk.drew ?_) | ((with_reducible refine Blk.far ?_ ?_ _); rotate_left; focus (simp <;> omega)))) hb1
        have M_1 : Blk w1 (nb) 3 #[.int .i64 now] := Blk.gr (by repeat (first | (with_reducible assumption) | ((with_reducible refine Blk.new_ ?_); focus (simp <;> omega)) | (with_reducible refine Blk.alloc ?_ _) | (with_reducible refine Blk.drew ?_) | ((with_reducible refine Blk.far ?_ ?_ _); rotate_left; focus (simp <;> omega)))) hb1
        have Q_1 : Blk w1 (sb) 35 #[.pointer (some ⟨s, 0, none⟩)] := Blk.gr (by repeat (first | (with_reducible assumption) | ((with_reducible refine Blk.new_ ?_); focus (simp <;> omega)) | (with_reducible refine Blk.alloc ?_ _) | (with_reducible refine Blk.drew ?_) | ((with_reducible refine Blk.far ?_ ?_ _); rotate_left; focus (simp <;> omega)))) hb1
        obtain ⟨Sc, Sf, Sz⟩ := S_1.rules
        obtain ⟨Lc, Lf, Lz⟩ := L_1.rules
        obtain ⟨Rc, Rf, Rz⟩ := R_1.rules
        obtain ⟨Nc, Nf, Nz⟩ := N_1.rules
        obtain ⟨Hc, Hf, Hz⟩ := H_1.rules
        obtain ⟨Ec, Ef, Ez⟩ := E_1.rules
        obtain ⟨Fc, Ff, Fz⟩ := F_1.rules
        obtain ⟨Mc, Mf, Mz⟩ := M_1.rules
        obtain ⟨Qc, Qf, Qz⟩ := Q_1.rules
        go_wp2_with fail
        have C_1 : Blk (w1.alloc (.cells #[.int .i64 (h), .int .i64 (e), .int .i64 (max u (laterV now span))] 40)) w1.heap.size 40 #[.int .i64 (h), .int .i64 (e), .int .i64 (max u (laterV now span))] := Blk.new _ _ _
        refine (ptrCas_c s 1 b w1.heap.size _ _ _ ((S_1.alloc _).cell 1) ((S_1.alloc _).frozen 1) ((L_1.alloc _).cell 0) (C_1.cell 0)).mono ?_
        rintro e' w' ⟨rfl, rfl⟩
        go_wp2_with fail
        have ne1 : s ≠ w.heap.size := by omega
        have ne2 : w1.heap.size ≠ s := by omega
        have ne3 : w1.heap.size ≠ w.heap.size := by omega
        refine bodyPost_ret (v := (.tuple #[.agg #[.int .i64 (h), .int .i64 (e), .int .i64 (max u (laterV now span))], .int .i64 (0)])) (by simp [results, Try.results58, go_sem, *]) rfl ?_
        have hok : chgOk (chgR now who) (ledE (leadsB h e u now who ep)) = true := by simp [chgOk, hr, e0]
        have her : chgE (chgR now who) (ledE (leadsB h e u now who ep)) = 0 := by simp [chgE, hr, e0]
        unfold LPost
        rw [hok, her]
        simp only [acqV_t, acqV_f, pickV_t, pickV_f]
        have hbb : But s w w1 := .of_gr (by repeat (first | exact Gr.refl _ | assumption | apply Gr.alloc | apply Gr.drew | (refine Gr.setCell ?_ (by simp <;> omega) _) | (refine Gr.trans ?_ (by assumption))))
        have hls : w1.heap.size ≠ s := by omega
        have S_2 := S_1.put (i := 1) (u := .pointer (some ⟨w1.heap.size, 0, none⟩)) (ds := #[.int .i64 span, .pointer (some ⟨w1.heap.size, 0, none⟩)]) rfl
        refine ⟨by first | trivial | rfl, ?_, w1.heap.size, ?_, ?_⟩
        · repeat (first | (with_reducible exact hbb) | (with_reducible refine But.alloc ?_ _) | (with_reducible refine But.set_ ?_ _) | ((with_reducible refine But.far ?_ ?_ _); rotate_left; focus (simp <;> omega)))
        · repeat (first | (with_reducible exact S_2) | (with_reducible refine Blk.alloc ?_ _) | ((with_reducible refine Blk.far ?_ ?_ _); rotate_left; focus (simp <;> omega)))
        · repeat (first | ((with_reducible refine Blk.new_ ?_); focus (simp [World.setCell] <;> omega)) | (with_reducible exact C_1) | (with_reducible refine Blk.alloc ?_ _) | ((with_reducible refine Blk.far ?_ ?_ _); rotate_left; focus (simp <;> omega)))
set_option maxHeartbeats 1000000 in
theorem led1X_c (ep : Int) (n wh eb fb : Nat) (now who span h e u : Int) (s : Nat) (p : Value) (w : World) (N_0 : Blk w n 3 #[.int .i64 now]) (H_0 : Blk w wh 3 #[.int .i64 who]) (E_0 : Blk w eb 3 #[.int .i64 ep]) (F_0 : Blk w fb 96 #[.func (.func 64) #[] #[]])  :
    Calls Try.prog 80 #[.agg #[.int .i64 h, .int .i64 e, .int .i64 u], .pointer (some ⟨n, 0, none⟩), .pointer (some ⟨wh, 0, none⟩), .pointer (some ⟨eb, 0, none⟩), .pointer (some ⟨fb, 0, none⟩)] w fun e' w' => e' = .returned (.tuple #[.agg #[.int .i64 (acqV (leadsB h e u now who ep) (-1)), .int .i64 (acqV (leadsB h e u now who ep) (e)), .int .i64 (acqV (leadsB h e u now who ep) (0))], .int .i64 (ledE (leadsB h e u now who ep))]) ∧ Gr w w' := by
  cases hl : (leadsB h e u now who ep)
  · skip
    obtain ⟨Nc, Nf, Nz⟩ := N_0.rules
    obtain ⟨Hc, Hf, Hz⟩ := H_0.rules
    obtain ⟨Ec, Ef, Ez⟩ := E_0.rules
    obtain ⟨Fc, Ff, Fz⟩ := F_0.rules
    go_enter Try.func80, Try.ntmps80
    go_wp2_with fail
    refine (leads_c _ _ _ _ _ _ _).mono ?_
    rintro e w1 ⟨rfl, hb1⟩
    have N_1 : Blk w1 (n) 3 #[.int .i64 now] := Blk.gr (by repeat (first | (with_reducible assumption) | ((with_reducible refine Blk.new_ ?_); focus (simp <;> omega)) | (with_reducible refine Blk.alloc ?_ _) | (with_reducible refine Blk.drew ?_) | ((with_reducible refine Blk.far ?_ ?_ _); rotate_left; focus (simp <;> omega)))) hb1
    have H_1 : Blk w1 (wh) 3 #[.int .i64 who] := Blk.gr (by repeat (first | (with_reducible assumption) | ((with_reducible refine Blk.new_ ?_); focus (simp <;> omega)) | (with_reducible refine Blk.alloc ?_ _) | (with_reducible refine Blk.drew ?_) | ((with_reducible refine Blk.far ?_ ?_ _); rotate_left; focus (simp <;> omega)))) hb1
    have E_1 : Blk w1 (eb) 3 #[.int .i64 ep] := Blk.gr (by repeat (first | (with_reducible assumption) | ((with_reducible refine Blk.new_ ?_); focus (simp <;> omega)) | (with_reducible refine Blk.alloc ?_ _) | (with_reducible refine Blk.drew ?_) | ((with_reducible refine Blk.far ?_ ?_ _); rotate_left; focus (simp <;> omega)))) hb1
    have F_1 : Blk w1 (fb) 96 #[.func (.func 64) #[] #[]] := Blk.gr (by repeat (first | (with_reducible assumption) | ((with_reducible refine Blk.new_ ?_); focus (simp <;> omega)) | (with_reducible refine Blk.alloc ?_ _) | (with_reducible refine Blk.drew ?_) | ((with_reducible refine Blk.far ?_ ?_ _); rotate_left; focus (simp <;> omega)))) hb1
    have B_1 : Blk w1 (w.heap.size) 40 #[.int .i64 (h), .int .i64 (e), .int .i64 (u)] := Blk.gr (by repeat (first | (with_reducible assumption) | ((with_reducible refine Blk.new_ ?_); focus (simp <;> omega)) | (with_reducible refine Blk.alloc ?_ _) | (with_reducible refine Blk.drew ?_) | ((with_reducible refine Blk.far ?_ ?_ _); rotate_left; focus (simp <;> omega)))) hb1
    have R_1 : Blk w1 (w.heap.size + 1) 40 #[.int .i64 (0), .int .i64 (0), .int .i64 (0)] := Blk.gr (by repeat (first | (with_reducible assumption) | ((with_reducible refine Blk.new_ ?_); focus (simp <;> omega)) | (with_reducible refine Blk.alloc ?_ _) | (with_reducible refine Blk.drew ?_) | ((with_reducible refine Blk.far ?_ ?_ _); rotate_left; focus (simp <;> omega)))) hb1
    obtain ⟨Nc, Nf, Nz⟩ := N_1.rules
    obtain ⟨Hc, Hf, Hz⟩ := H_1.rules
    obtain ⟨Ec, Ef, Ez⟩ := E_1.rules
    obtain ⟨Fc, Ff, Fz⟩ := F_1.rules
    obtain ⟨Bc, Bf, Bz⟩ := B_1.rules
    obtain ⟨Rc, Rf, Rz⟩ := R_1.rules
    go_wp2_with fail
    refine bodyPost_ret (v := (.tuple #[.agg #[.int .i64 (acqV (leadsB h e u now who ep) (-1)), .int .i64 (acqV (leadsB h e u now who ep) (e)), .int .i64 (acqV (leadsB h e u now who ep) (0))], .int .i64 (ledE (leadsB h e u now who ep))])) (by simp [results, Try.results80, go_sem, *]) rfl ⟨by first | rfl | (simp [*]; done), ?_⟩
    repeat (first | exact Gr.refl _ | assumption | apply Gr.alloc | apply Gr.drew | (refine Gr.setCell ?_ (by simp <;> omega) _) | (refine Gr.trans ?_ (by assumption)))
  · skip
    obtain ⟨Nc, Nf, Nz⟩ := N_0.rules
    obtain ⟨Hc, Hf, Hz⟩ := H_0.rules
    obtain ⟨Ec, Ef, Ez⟩ := E_0.rules
    obtain ⟨Fc, Ff, Fz⟩ := F_0.rules
    go_enter Try.func80, Try.ntmps80
    go_wp2_with fail
    refine (leads_c _ _ _ _ _ _ _).mono ?_
    rintro e w1 ⟨rfl, hb1⟩
    have N_1 : Blk w1 (n) 3 #[.int .i64 now] := Blk.gr (by repeat (first | (with_reducible assumption) | ((with_reducible refine Blk.new_ ?_); focus (simp <;> omega)) | (with_reducible refine Blk.alloc ?_ _) | (with_reducible refine Blk.drew ?_) | ((with_reducible refine Blk.far ?_ ?_ _); rotate_left; focus (simp <;> omega)))) hb1
    have H_1 : Blk w1 (wh) 3 #[.int .i64 who] := Blk.gr (by repeat (first | (with_reducible assumption) | ((with_reducible refine Blk.new_ ?_); focus (simp <;> omega)) | (with_reducible refine Blk.alloc ?_ _) | (with_reducible refine Blk.drew ?_) | ((with_reducible refine Blk.far ?_ ?_ _); rotate_left; focus (simp <;> omega)))) hb1
    have E_1 : Blk w1 (eb) 3 #[.int .i64 ep] := Blk.gr (by repeat (first | (with_reducible assumption) | ((with_reducible refine Blk.new_ ?_); focus (simp <;> omega)) | (with_reducible refine Blk.alloc ?_ _) | (with_reducible refine Blk.drew ?_) | ((with_reducible refine Blk.far ?_ ?_ _); rotate_left; focus (simp <;> omega)))) hb1
    have F_1 : Blk w1 (fb) 96 #[.func (.func 64) #[] #[]] := Blk.gr (by repeat (first | (with_reducible assumption) | ((with_reducible refine Blk.new_ ?_); focus (simp <;> omega)) | (with_reducible refine Blk.alloc ?_ _) | (with_reducible refine Blk.drew ?_) | ((with_reducible refine Blk.far ?_ ?_ _); rotate_left; focus (simp <;> omega)))) hb1
    have B_1 : Blk w1 (w.heap.size) 40 #[.int .i64 (h), .int .i64 (e), .int .i64 (u)] := Blk.gr (by repeat (first | (with_reducible assumption) | ((with_reducible refine Blk.new_ ?_); focus (simp <;> omega)) | (with_reducible refine Blk.alloc ?_ _) | (with_reducible refine Blk.drew ?_) | ((with_reducible refine Blk.far ?_ ?_ _); rotate_left; focus (simp <;> omega)))) hb1
    have R_1 : Blk w1 (w.heap.size + 1) 40 #[.int .i64 (0), .int .i64 (0), .int .i64 (0)] := Blk.gr (by repeat (first | (with_reducible assumption) | ((with_reducible refine Blk.new_ ?_); focus (simp <;> omega)) | (with_reducible refine Blk.alloc ?_ _) | (with_reducible refine Blk.drew ?_) | ((with_reducible refine Blk.far ?_ ?_ _); rotate_left; focus (simp <;> omega)))) hb1
    obtain ⟨Nc, Nf, Nz⟩ := N_1.rules
    obtain ⟨Hc, Hf, Hz⟩ := H_1.rules
    obtain ⟨Ec, Ef, Ez⟩ := E_1.rules
    obtain ⟨Fc, Ff, Fz⟩ := F_1.rules
    obtain ⟨Bc, Bf, Bz⟩ := B_1.rules
    obtain ⟨Rc, Rf, Rz⟩ := R_1.rules
    go_wp2_with fail
    refine (rel1_c _ _ _ _).mono ?_
    rintro e w2 ⟨rfl, hb2⟩
    have N_2 : Blk w2 (n) 3 #[.int .i64 now] := Blk.gr (by repeat (first | (with_reducible assumption) | ((with_reducible refine Blk.new_ ?_); focus (simp <;> omega)) | (with_reducible refine Blk.alloc ?_ _) | (with_reducible refine Blk.drew ?_) | ((with_reducible refine Blk.far ?_ ?_ _); rotate_left; focus (simp <;> omega)))) hb2
    have H_2 : Blk w2 (wh) 3 #[.int .i64 who] := Blk.gr (by repeat (first | (with_reducible assumption) | ((with_reducible refine Blk.new_ ?_); focus (simp <;> omega)) | (with_reducible refine Blk.alloc ?_ _) | (with_reducible refine Blk.drew ?_) | ((with_reducible refine Blk.far ?_ ?_ _); rotate_left; focus (simp <;> omega)))) hb2
    have E_2 : Blk w2 (eb) 3 #[.int .i64 ep] := Blk.gr (by repeat (first | (with_reducible assumption) | ((with_reducible refine Blk.new_ ?_); focus (simp <;> omega)) | (with_reducible refine Blk.alloc ?_ _) | (with_reducible refine Blk.drew ?_) | ((with_reducible refine Blk.far ?_ ?_ _); rotate_left; focus (simp <;> omega)))) hb2
    have F_2 : Blk w2 (fb) 96 #[.func (.func 64) #[] #[]] := Blk.gr (by repeat (first | (with_reducible assumption) | ((with_reducible refine Blk.new_ ?_); focus (simp <;> omega)) | (with_reducible refine Blk.alloc ?_ _) | (with_reducible refine Blk.drew ?_) | ((with_reducible refine Blk.far ?_ ?_ _); rotate_left; focus (simp <;> omega)))) hb2
    have B_2 : Blk w2 (w.heap.size) 40 #[.int .i64 (h), .int .i64 (e), .int .i64 (u)] := Blk.gr (by repeat (first | (with_reducible assumption) | ((with_reducible refine Blk.new_ ?_); focus (simp <;> omega)) | (with_reducible refine Blk.alloc ?_ _) | (with_reducible refine Blk.drew ?_) | ((with_reducible refine Blk.far ?_ ?_ _); rotate_left; focus (simp <;> omega)))) hb2
    have R_2 : Blk w2 (w.heap.size + 1) 40 #[.int .i64 (0), .int .i64 (0), .int .i64 (0)] := Blk.gr (by repeat (first | (with_reducible assumption) | ((with_reducible refine Blk.new_ ?_); focus (simp <;> omega)) | (with_reducible refine Blk.alloc ?_ _) | (with_reducible refine Blk.drew ?_) | ((with_reducible refine Blk.far ?_ ?_ _); rotate_left; focus (simp <;> omega)))) hb2
    obtain ⟨Nc, Nf, Nz⟩ := N_2.rules
    obtain ⟨Hc, Hf, Hz⟩ := H_2.rules
    obtain ⟨Ec, Ef, Ez⟩ := E_2.rules
    obtain ⟨Fc, Ff, Fz⟩ := F_2.rules
    obtain ⟨Bc, Bf, Bz⟩ := B_2.rules
    obtain ⟨Rc, Rf, Rz⟩ := R_2.rules
    go_wp2_with fail
    refine bodyPost_ret (v := (.tuple #[.agg #[.int .i64 (acqV (leadsB h e u now who ep) (-1)), .int .i64 (acqV (leadsB h e u now who ep) (e)), .int .i64 (acqV (leadsB h e u now who ep) (0))], .int .i64 (ledE (leadsB h e u now who ep))])) (by simp [results, Try.results80, go_sem, *]) rfl ⟨by first | rfl | (simp [*]; done), ?_⟩
    repeat (first | exact Gr.refl _ | assumption | apply Gr.alloc | apply Gr.drew | (refine Gr.setCell ?_ (by simp <;> omega) _) | (refine Gr.trans ?_ (by assumption)))
set_option maxHeartbeats 2000000 in
theorem chgX_c (ep : Int) (n wh eb fb : Nat) (now who span h e u : Int) (s b : Nat) (w : World) (S_0 : Blk w s 65 #[.int .i64 span, .pointer (some ⟨b, 0, none⟩)]) (L_0 : Blk w b 40 #[.int .i64 (h), .int .i64 (e), .int .i64 (u)]) (hsp : (span == 0) = false) (N_0 : Blk w n 3 #[.int .i64 now]) (H_0 : Blk w wh 3 #[.int .i64 who]) (E_0 : Blk w eb 3 #[.int .i64 ep]) (F_0 : Blk w fb 96 #[.func (.func 64) #[] #[]])  :
    Calls Try.prog 58 #[.pointer (some ⟨s, 0, none⟩), .int .i64 now, .int .i64 who, .func (.func 80) #[] #[.pointer (some ⟨n, 0, none⟩), .pointer (some ⟨wh, 0, none⟩), .pointer (some ⟨eb, 0, none⟩), .pointer (some ⟨fb, 0, none⟩)]] w (LPost w s span (chgR now who) (ledE (leadsB h e u now who ep)) h e u (-1) (e) (0)) := by
  cases r0 : rightB now 0 1099511627776
  · skip
    obtain ⟨Sc, Sf, Sz⟩ := S_0.rules
    obtain ⟨Lc, Lf, Lz⟩ := L_0.rules
    have hr : chgR now who = false := by simp [chgR, r0]
    obtain ⟨Nc, Nf, Nz⟩ := N_0.rules
    obtain ⟨Hc, Hf, Hz⟩ := H_0.rules
    obtain ⟨Ec, Ef, Ez⟩ := E_0.rules
    obtain ⟨Fc, Ff, Fz⟩ := F_0.rules
    go_enter Try.func58, Try.ntmps58
    go_wp2_with (go_at_call 22; refine (right_c _ _ _ _).mono ?_; rintro e' w' ⟨rfl, rfl⟩)
    refine bodyPost_ret (v := (.tuple #[.agg #[.int .i64 (0), .int .i64 (0), .int .i64 (0)], .int .i64 (1)])) (by simp [results, Try.results58, go_sem, *]) rfl ?_
    have hok : chgOk (chgR now who) (ledE (leadsB h e u now who ep)) = false := by simp [chgOk, hr]
    have her : chgE (chgR now who) (ledE (leadsB h e u now who ep)) = 1 := by simp [chgE, hr]
    unfold LPost
    rw [hok, her]
    simp only [acqV_t, acqV_f, pickV_t, pickV_f]
    refine ⟨by first | trivial | rfl, But.of_gr ?_, b, ?_, ?_⟩
    · repeat (first | exact Gr.refl _ | assumption | apply Gr.alloc | apply Gr.drew | (refine Gr.setCell ?_ (by simp <;> omega) _) | (refine Gr.trans ?_ (by assumption)))
    · repeat (first | (with_reducible exact S_0) | (with_reducible refine Blk.alloc ?_ _) | ((with_reducible refine Blk.far ?_ ?_ _); rotate_left; focus (simp <;> omega)))
    · repeat (first | (with_reducible exact L_0) | (with_reducible refine Blk.alloc ?_ _) | ((with_reducible refine Blk.far ?_ ?_ _); rotate_left; focus (simp <;> omega)))
  · cases r1 : rightB who 0 4
    · skip
      obtain ⟨Sc, Sf, Sz⟩ := S_0.rules
      obtain ⟨Lc, Lf, Lz⟩ := L_0.rules
      have hr : chgR now who = false := by simp [chgR, r0, r1]
      obtain ⟨Nc, Nf, Nz⟩ := N_0.rules
      obtain ⟨Hc, Hf, Hz⟩ := H_0.rules
      obtain ⟨Ec, Ef, Ez⟩ := E_0.rules
      obtain ⟨Fc, Ff, Fz⟩ := F_0.rules
      go_enter Try.func58, Try.ntmps58
      go_wp2_with (go_at_call 22; refine (right_c _ _ _ _).mono ?_; rintro e' w' ⟨rfl, rfl⟩)
      refine bodyPost_ret (v := (.tuple #[.agg #[.int .i64 (0), .int .i64 (0), .int .i64 (0)], .int .i64 (1)])) (by simp [results, Try.results58, go_sem, *]) rfl ?_
      have hok : chgOk (chgR now who) (ledE (leadsB h e u now who ep)) = false := by simp [chgOk, hr]
      have her : chgE (chgR now who) (ledE (leadsB h e u now who ep)) = 1 := by simp [chgE, hr]
      unfold LPost
      rw [hok, her]
      simp only [acqV_t, acqV_f, pickV_t, pickV_f]
      refine ⟨by first | trivial | rfl, But.of_gr ?_, b, ?_, ?_⟩
      · repeat (first | exact Gr.refl _ | assumption | apply Gr.alloc | apply Gr.drew | (refine Gr.setCell ?_ (by simp <;> omega) _) | (refine Gr.trans ?_ (by assumption)))
      · repeat (first | (with_reducible exact S_0) | (with_reducible refine Blk.alloc ?_ _) | ((with_reducible refine Blk.far ?_ ?_ _); rotate_left; focus (simp <;> omega)))
      · repeat (first | (with_reducible exact L_0) | (with_reducible refine Blk.alloc ?_ _) | ((with_reducible refine Blk.far ?_ ?_ _); rotate_left; focus (simp <;> omega)))
    · cases eo : (ledE (leadsB h e u now who ep) == 0)
      · skip
        obtain ⟨Sc, Sf, Sz⟩ := S_0.rules
        obtain ⟨Lc, Lf, Lz⟩ := L_0.rules
        have hr : chgR now who = true := by simp [chgR, r0, r1]
        obtain ⟨Nc, Nf, Nz⟩ := N_0.rules
        obtain ⟨Hc, Hf, Hz⟩ := H_0.rules
        obtain ⟨Ec, Ef, Ez⟩ := E_0.rules
        obtain ⟨Fc, Ff, Fz⟩ := F_0.rules
        have q0 : (leadsB h e u now who ep) = false := by rw [← ledE_eq (leadsB h e u now who ep)]; exact eo
        have eo' : ((ledE (leadsB h e u now who ep)) != 0) = true := by simp only [bne, eo]; rfl
        go_enter Try.func58, Try.ntmps58
        go_wp2_with (go_at_call 22; refine (right_c _ _ _ _).mono ?_; rintro e' w' ⟨rfl, rfl⟩)
        refine wp_loop_rounds 1 ?_
        rw [rounds_succ]
        go_wp2_with fail
        refine (ptrLoad_c s 1 b _ _ _ _ ((S_0.alloc _).cell 1) (L_0.alloc _)).mono ?_
        rintro e' w' ⟨rfl, rfl⟩
        go_wp2_with fail
        refine (led1X_c ep n wh eb fb now who span h e u s (.pointer (some ⟨b, 0, none⟩)) _ (N_0.alloc _) (H_0.alloc _) (E_0.alloc _) (F_0.alloc _)).mono ?_
        rintro e w1 ⟨rfl, hb1⟩
        have S_1 : Blk w1 (s) 65 #[.int .i64 span, .pointer (some ⟨b, 0, none⟩)] := Blk.gr (by repeat (first | (with_reducible assumption) | ((with_reducible refine Blk.new_ ?_); focus (simp <;> omega)) | (with_reducible refine Blk.alloc ?_ _) | (with_reducible refine Blk.drew ?_) | ((with_reducible refine Blk.far ?_ ?_ _); rotate_left; focus (simp <;> omega)))) hb1
        have L_1 : Blk w1 (b) 40 #[.int .i64 (h), .int .i64 (e), .int .i64 (u)] := Blk.gr (by repeat (first | (with_reducible assumption) | ((with_reducible refine Blk.new_ ?_); focus (simp <;> omega)) | (with_reducible refine Blk.alloc ?_ _) | (with_reducible refine Blk.drew ?_) | ((with_reducible refine Blk.far ?_ ?_ _); rotate_left; focus (simp <;> omega)))) hb1
        have R_1 : Blk w1 (w.heap.size) 40 #[.int .i64 (0), .int .i64 (0), .int .i64 (0)] := Blk.gr (by repeat (first | (with_reducible assumption) | ((with_reducible refine Blk.new_ ?_); focus (simp <;> omega)) | (with_reducible refine Blk.alloc ?_ _) | (with_reducible refine Blk.drew ?_) | ((with_reducible refine Blk.far ?_ ?_ _); rotate_left; focus (simp <;> omega)))) hb1
        have N_1 : Blk w1 (n) 3 #[.int .i64 now] := Blk.gr (by repeat (first | (with_reducible assumption) | ((with_reducible refine Blk.new_ ?_); focus (simp <;> omega)) | (with_reducible refine Blk.alloc ?_ _) | (with_reducible refine Blk.drew ?_) | ((with_reducible refine Blk.far ?_ ?_ _); rotate_left; focus (simp <;> omega)))) hb1
        have H_1 : Blk w1 (wh) 3 #[.int .i64 who] := Blk.gr (by repeat (first | (with_reducible assumption) | ((with_reducible refine Blk.new_ ?_); focus (simp <;> omega)) | (with_reducible refine Blk.alloc ?_ _) | (with_reducible refine Blk.drew ?_) | ((with_reducible refine Blk.far ?_ ?_ _); rotate_left; focus (simp <;> omega)))) hb1
        have E_1 : Blk w1 (eb) 3 #[.int .i64 ep] := Blk.gr (by repeat (first | (with_reducible assumption) | ((with_reducible refine Blk.new_ ?_); focus (simp <;> omega)) | (with_reducible refine Blk.alloc ?_ _) | (with_reducible refine Blk.drew ?_) | ((with_reducible refine Blk.far ?_ ?_ _); rotate_left; focus (simp <;> omega)))) hb1
        have F_1 : Blk w1 (fb) 96 #[.func (.func 64) #[] #[]] := Blk.gr (by repeat (first | (with_reducible assumption) | ((with_reducible refine Blk.new_ ?_); focus (simp <;> omega)) | (with_reducible refine Blk.alloc ?_ _) | (with_reducible refine Blk.drew ?_) | ((with_reducible refine Blk.far ?_ ?_ _); rotate_left; focus (simp <;> omega)))) hb1
        obtain ⟨Sc, Sf, Sz⟩ := S_1.rules
        obtain ⟨Lc, Lf, Lz⟩ := L_1.rules
        obtain ⟨Rc, Rf, Rz⟩ := R_1.rules
        obtain ⟨Nc, Nf, Nz⟩ := N_1.rules
        obtain ⟨Hc, Hf, Hz⟩ := H_1.rules
        obtain ⟨Ec, Ef, Ez⟩ := E_1.rules
        obtain ⟨Fc, Ff, Fz⟩ := F_1.rules
        go_wp2_with fail
        refine bodyPost_ret (v := (.tuple #[.agg #[.int .i64 (0), .int .i64 (0), .int .i64 (0)], .int .i64 (ledE (leadsB h e u now who ep))])) (by simp [results, Try.results58, go_sem, *]) rfl ?_
        have hok : chgOk (chgR now who) (ledE (leadsB h e u now who ep)) = false := by simp [chgOk, hr, eo]
        have her : chgE (chgR now who) (ledE (leadsB h e u now who ep)) = ledE (leadsB h e u now who ep) := by simp [chgE, hr]
        unfold LPost
        rw [hok, her]
        simp only [acqV_t, acqV_f, pickV_t, pickV_f]
        refine ⟨by first | trivial | rfl, But.of_gr ?_, b, ?_, ?_⟩
        · repeat (first | exact Gr.refl _ | assumption | apply Gr.alloc | apply Gr.drew | (refine Gr.setCell ?_ (by simp <;> omega) _) | (refine Gr.trans ?_ (by assumption)))
        · repeat (first | (with_reducible exact S_1) | (with_reducible refine Blk.alloc ?_ _) | ((with_reducible refine Blk.far ?_ ?_ _); rotate_left; focus (simp <;> omega)))
        · repeat (first | (with_reducible exact L_1) | (with_reducible refine Blk.alloc ?_ _) | ((with_reducible refine Blk.far ?_ ?_ _); rotate_left; focus (simp <;> omega)))
      · skip
        obtain ⟨Sc, Sf, Sz⟩ := S_0.rules
        obtain ⟨Lc, Lf, Lz⟩ := L_0.rules
        have hr : chgR now who = true := by simp [chgR, r0, r1]
        obtain ⟨Nc, Nf, Nz⟩ := N_0.rules
        obtain ⟨Hc, Hf, Hz⟩ := H_0.rules
        obtain ⟨Ec, Ef, Ez⟩ := E_0.rules
        obtain ⟨Fc, Ff, Fz⟩ := F_0.rules
        have q0 : (leadsB h e u now who ep) = true := by rw [← ledE_eq (leadsB h e u now who ep)]; exact eo
        have e0 : ledE (leadsB h e u now who ep) = 0 := by simpa using eo
        have eo' : ((ledE (leadsB h e u now who ep)) != 0) = false := by simp only [bne, eo]; rfl
        go_enter Try.func58, Try.ntmps58
        go_wp2_with (go_at_call 22; refine (right_c _ _ _ _).mono ?_; rintro e' w' ⟨rfl, rfl⟩)
        refine wp_loop_rounds 1 ?_
        rw [rounds_succ]
        go_wp2_with fail
        refine (ptrLoad_c s 1 b _ _ _ _ ((S_0.alloc _).cell 1) (L_0.alloc _)).mono ?_
        rintro e' w' ⟨rfl, rfl⟩
        go_wp2_with fail
        refine (led1X_c ep n wh eb fb now who span h e u s (.pointer (some ⟨b, 0, none⟩)) _ (N_0.alloc _) (H_0.alloc _) (E_0.alloc _) (F_0.alloc _)).mono ?_
        rintro e w1 ⟨rfl, hb1⟩
        have S_1 : Blk w1 (s) 65 #[.int .i64 span, .pointer (some ⟨b, 0, none⟩)] := Blk.gr (by repeat (first | (with_reducible assumption) | ((with_reducible refine Blk.new_ ?_); focus (simp <;> omega)) | (with_reducible refine Blk.alloc ?_ _) | (with_reducible refine Blk.drew ?_) | ((with_reducible refine Blk.far ?_ ?_ _); rotate_left; focus (simp <;> omega)))) hb1
        have L_1 : Blk w1 (b) 40 #[.int .i64 (h), .int .i64 (e), .int .i64 (u)] := Blk.gr (by repeat (first | (with_reducible assumption) | ((with_reducible refine Blk.new_ ?_); focus (simp <;> omega)) | (with_reducible refine Blk.alloc ?_ _) | (with_reducible refine Blk.drew ?_) | ((with_reducible refine Blk.far ?_ ?_ _); rotate_left; focus (simp <;> omega)))) hb1
        have R_1 : Blk w1 (w.heap.size) 40 #[.int .i64 (0), .int .i64 (0), .int .i64 (0)] := Blk.gr (by repeat (first | (with_reducible assumption) | ((with_reducible refine Blk.new_ ?_); focus (simp <;> omega)) | (with_reducible refine Blk.alloc ?_ _) | (with_reducible refine Blk.drew ?_) | ((with_reducible refine Blk.far ?_ ?_ _); rotate_left; focus (simp <;> omega)))) hb1
        have N_1 : Blk w1 (n) 3 #[.int .i64 now] := Blk.gr (by repeat (first | (with_reducible assumption) | ((with_reducible refine Blk.new_ ?_); focus (simp <;> omega)) | (with_reducible refine Blk.alloc ?_ _) | (with_reducible refine Blk.drew ?_) | ((with_reducible refine Blk.far ?_ ?_ _); rotate_left; focus (simp <;> omega)))) hb1
        have H_1 : Blk w1 (wh) 3 #[.int .i64 who] := Blk.gr (by repeat (first | (with_reducible assumption) | ((with_reducible refine Blk.new_ ?_); focus (simp <;> omega)) | (with_reducible refine Blk.alloc ?_ _) | (with_reducible refine Blk.drew ?_) | ((with_reducible refine Blk.far ?_ ?_ _); rotate_left; focus (simp <;> omega)))) hb1
        have E_1 : Blk w1 (eb) 3 #[.int .i64 ep] := Blk.gr (by repeat (first | (with_reducible assumption) | ((with_reducible refine Blk.new_ ?_); focus (simp <;> omega)) | (with_reducible refine Blk.alloc ?_ _) | (with_reducible refine Blk.drew ?_) | ((with_reducible refine Blk.far ?_ ?_ _); rotate_left; focus (simp <;> omega)))) hb1
        have F_1 : Blk w1 (fb) 96 #[.func (.func 64) #[] #[]] := Blk.gr (by repeat (first | (with_reducible assumption) | ((with_reducible refine Blk.new_ ?_); focus (simp <;> omega)) | (with_reducible refine Blk.alloc ?_ _) | (with_reducible refine Blk.drew ?_) | ((with_reducible refine Blk.far ?_ ?_ _); rotate_left; focus (simp <;> omega)))) hb1
        obtain ⟨Sc, Sf, Sz⟩ := S_1.rules
        obtain ⟨Lc, Lf, Lz⟩ := L_1.rules
        obtain ⟨Rc, Rf, Rz⟩ := R_1.rules
        obtain ⟨Nc, Nf, Nz⟩ := N_1.rules
        obtain ⟨Hc, Hf, Hz⟩ := H_1.rules
        obtain ⟨Ec, Ef, Ez⟩ := E_1.rules
        obtain ⟨Fc, Ff, Fz⟩ := F_1.rules
        go_wp2_with fail
        have C_1 : Blk (w1.alloc (.cells #[.int .i64 (-1), .int .i64 (e), .int .i64 (0)] 40)) w1.heap.size 40 #[.int .i64 (-1), .int .i64 (e), .int .i64 (0)] := Blk.new _ _ _
        refine (ptrCas_c s 1 b w1.heap.size _ _ _ ((S_1.alloc _).cell 1) ((S_1.alloc _).frozen 1) ((L_1.alloc _).cell 0) (C_1.cell 0)).mono ?_
        rintro e' w' ⟨rfl, rfl⟩
        go_wp2_with fail
        have ne1 : s ≠ w.heap.size := by omega
        have ne2 : w1.heap.size ≠ s := by omega
        have ne3 : w1.heap.size ≠ w.heap.size := by omega
        refine bodyPost_ret (v := (.tuple #[.agg #[.int .i64 (-1), .int .i64 (e), .int .i64 (0)], .int .i64 (0)])) (by simp [results, Try.results58, go_sem, *]) rfl ?_
        have hok : chgOk (chgR now who) (ledE (leadsB h e u now who ep)) = true := by simp [chgOk, hr, e0]
        have her : chgE (chgR now who) (ledE (leadsB h e u now who ep)) = 0 := by simp [chgE, hr, e0]
        unfold LPost
        rw [hok, her]
        simp only [acqV_t, acqV_f, pickV_t, pickV_f]
        have hbb : But s w w1 := .of_gr (by repeat (first | exact Gr.refl _ | assumption | apply Gr.alloc | apply Gr.drew | (refine Gr.setCell ?_ (by simp <;> omega) _) | (refine Gr.trans ?_ (by assumption))))
        have hls : w1.heap.size ≠ s := by omega
        have S_2 := S_1.put (i := 1) (u := .pointer (some ⟨w1.heap.size, 0, none⟩)) (ds := #[.int .i64 span, .pointer (some ⟨w1.heap.size, 0, none⟩)]) rfl
        refine ⟨by first | trivial | rfl, ?_, w1.heap.size, ?_, ?_⟩
        · repeat (first | (with_reducible exact hbb) | (with_reducible refine But.alloc ?_ _) | (with_reducible refine But.set_ ?_ _) | ((with_reducible refine But.far ?_ ?_ _); rotate_left; focus (simp <;> omega)))
        · repeat (first | (with_reducible exact S_2) | (with_reducible refine Blk.alloc ?_ _) | ((with_reducible refine Blk.far ?_ ?_ _); rotate_left; focus (simp <;> omega)))
        · repeat (first | ((with_reducible refine Blk.new_ ?_); focus (simp [World.setCell] <;> omega)) | (with_reducible exact C_1) | (with_reducible refine Blk.alloc ?_ _) | ((with_reducible refine Blk.far ?_ ?_ _); rotate_left; focus (simp <;> omega)))
end Go.Proofs.Ytpicmpfcmgocmaa

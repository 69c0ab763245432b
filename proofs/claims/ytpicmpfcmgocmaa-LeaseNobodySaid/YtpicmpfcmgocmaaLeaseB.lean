/- The contracts of the package lease: what becomes of a lease. -/
import Derived.Test.YtpicmpfcmgocmaaLeaseA
namespace Go.Proofs.Ytpicmpfcmgocmaa
open Go.RowKit

/-- A store in memory. -/
def StoreAt (w : World) (s : Nat) (span h e u : Int) : Prop := ∃ b, Blk w s 65 #[.int .i64 span, .pointer (some ⟨b, 0, none⟩)] ∧ Blk w b 40 #[.int .i64 h, .int .i64 e, .int .i64 u]
/-- Nothing has turned but for one block. -/
structure But (s : Nat) (w w' : World) : Prop where
  os : w'.os = w.os
  tape : w'.tape = w.tape
  output : w'.output = w.output
  size : w.heap.size ≤ w'.heap.size
  block : ∀ k, k < w.heap.size → k ≠ s → w'.heap[k]? = w.heap[k]?
theorem But.of_gr {s : Nat} {w w' : World} (h : Gr w w') : But s w w' := ⟨Below.os h, Below.tape h, Below.output h, Below.size h, fun k hk _ => Below.block h k hk⟩
theorem But.trans {s : Nat} {a b c : World} (h : But s a b) (k : But s b c) : But s a c :=
  ⟨k.os.trans h.os, k.tape.trans h.tape, k.output.trans h.output, Nat.le_trans h.size k.size, fun i hi hne => (k.block i (Nat.lt_of_lt_of_le hi h.size) hne).trans (h.block i hi hne)⟩
theorem But.alloc {s : Nat} {a w : World} (h : But s a w) (o : Obj) : But s a (w.alloc o) := h.trans (.of_gr ((Gr.refl w).alloc o))
theorem But.drew {s : Nat} {a w : World} (h : But s a w) : But s a w.drew := h.trans (.of_gr ((Gr.refl w).drew))
theorem But.set_ {a w : World} {s i : Nat} (h : But s a w) (v : Value) : But s a (w.setCell ⟨s, i, none⟩ v) :=
  h.trans ⟨rfl, rfl, rfl, by simp [World.setCell], fun k _ hne => Below.heap_setCell _ _ _ _ hne⟩
theorem But.far {a w : World} {s : Nat} (h : But s a w) {p : Addr} (hp : a.heap.size ≤ p.block) (v : Value) : But s a (w.setCell p v) :=
  ⟨h.os, h.tape, h.output, by simpa [World.setCell] using h.size, fun k hk hne => (Below.heap_setCell _ _ _ _ (by omega)).trans (h.block k hk hne)⟩
theorem But.gr {s : Nat} {a w w' : World} (h : But s w w') (hg : Gr a w) (hs : a.heap.size ≤ s) : Gr a w' :=
  ⟨h.os.trans (Below.os hg), h.tape.trans (Below.tape hg), h.output.trans (Below.output hg), Nat.le_trans hg.size h.size,
    fun k hk => (h.block k (Nat.lt_of_lt_of_le hk hg.size) (by omega)).trans (hg.block hk)⟩
theorem But.blk {s g : Nat} {w w' : World} {t : TypeId} {cs : Array Value} (h : But s w w') (hb : Blk w g t cs) (hne : g ≠ s) : Blk w' g t cs := (h.block g hb.lt hne).trans hb

def acqE (h e u now who : Int) : Int := if heldB h u now then (if h == who then 8 else 12) else (if e == 4294967295 then 6 else 0)
set_option maxHeartbeats 400000 in
theorem get_c (s : Nat) (span h e u : Int) (w : World) (hs : StoreAt w s span h e u) :
    Calls Try.prog 37 #[.pointer (some ⟨s, 0, none⟩)] w fun e' w' => e' = .returned (.agg #[.int .i64 h, .int .i64 e, .int .i64 u]) ∧ Gr w w' := by
  obtain ⟨b, hS, hB⟩ := hs
  obtain ⟨Sc, Sf, Sz⟩ := hS.rules
  obtain ⟨Bc, Bf, Bz⟩ := hB.rules
  go_enter Try.func37, Try.ntmps37
  go_wp2_with fail
  refine (ptrLoad_c s 1 b _ _ _ _ ((hS.alloc _).cell 1) (hB.alloc _)).mono ?_
  rintro e' w' ⟨rfl, rfl⟩
  go_wp2_with fail
  refine bodyPost_ret (v := .agg #[.int .i64 h, .int .i64 e, .int .i64 u]) (by simp [results, Try.results37, go_sem, *]) rfl ⟨rfl, ?_⟩
  repeat (first | exact Gr.refl _ | assumption | apply Gr.alloc | apply Gr.drew | (refine Gr.setCell ?_ (by simp <;> omega) _) | (refine Gr.trans ?_ (by assumption)))
def acqV (b : Bool) (x : Int) : Int := if b then x else 0
def acqOk (h e u now who : Int) : Bool := acqE h e u now who == 0
set_option maxHeartbeats 2000000 in
theorem acq1_c (h e u now who span : Int) (n wh sb s : Nat) (p : Value) (w : World) (N_0 : Blk w n 3 #[.int .i64 now]) (H_0 : Blk w wh 3 #[.int .i64 who]) (Q_0 : Blk w sb 35 #[.pointer (some ⟨s, 0, none⟩)])
    (S_0 : Blk w s 65 #[.int .i64 span, p]) (he0 : 0 ≤ e) (he1 : e ≤ 4294967295) :
    Calls Try.prog 59 #[.agg #[.int .i64 h, .int .i64 e, .int .i64 u], .pointer (some ⟨n, 0, none⟩), .pointer (some ⟨wh, 0, none⟩), .pointer (some ⟨sb, 0, none⟩)] w fun e' w' => e' = .returned (.tuple #[.agg #[.int .i64 (acqV (acqOk h e u now who) who), .int .i64 (acqV (acqOk h e u now who) (e + 1)), .int .i64 (acqV (acqOk h e u now who) (laterV now span))], .int .i64 (acqE h e u now who)]) ∧ Gr w w' := by
  have hE : acqE h e u now who = if heldB h u now then (if h == who then 8 else 12) else (if e == 4294967295 then 6 else 0) := rfl
  cases h1 : heldB h u now
  · cases h2 : e == 4294967295
    · have hq : acqE h e u now who = 0 := by rw [hE, h1, h2]; rfl
      clear hE
      obtain ⟨Nc, Nf, Nz⟩ := N_0.rules
      obtain ⟨Hc, Hf, Hz⟩ := H_0.rules
      obtain ⟨Qc, Qf, Qz⟩ := Q_0.rules
      obtain ⟨Sc, Sf, Sz⟩ := S_0.rules
      go_enter Try.func59, Try.ntmps59
      go_wp2_with fail
      refine (held_c _ _ _ _ _).mono ?_
      rintro e w1 ⟨rfl, hb1⟩
      have N_1 : Blk w1 (n) 3 #[.int .i64 now] := Blk.gr (by repeat (first | (with_reducible assumption) | ((with_reducible refine Blk.new_ ?_); focus (simp <;> omega)) | (with_reducible refine Blk.alloc ?_ _) | (with_reducible refine Blk.drew ?_) | ((with_reducible refine Blk.far ?_ ?_ _); rotate_left; focus (simp <;> omega)))) hb1
      have H_1 : Blk w1 (wh) 3 #[.int .i64 who] := Blk.gr (by repeat (first | (with_reducible assumption) | ((with_reducible refine Blk.new_ ?_); focus (simp <;> omega)) | (with_reducible refine Blk.alloc ?_ _) | (with_reducible refine Blk.drew ?_) | ((with_reducible refine Blk.far ?_ ?_ _); rotate_left; focus (simp <;> omega)))) hb1
      have Q_1 : Blk w1 (sb) 35 #[.pointer (some ⟨s, 0, none⟩)] := Blk.gr (by repeat (first | (with_reducible assumption) | ((with_reducible refine Blk.new_ ?_); focus (simp <;> omega)) | (with_reducible refine Blk.alloc ?_ _) | (with_reducible refine Blk.drew ?_) | ((with_reducible refine Blk.far ?_ ?_ _); rotate_left; focus (simp <;> omega)))) hb1
      have S_1 : Blk w1 (s) 65 #[.int .i64 span, p] := Blk.gr (by repeat (first | (with_reducible assumption) | ((with_reducible refine Blk.new_ ?_); focus (simp <;> omega)) | (with_reducible refine Blk.alloc ?_ _) | (with_reducible refine Blk.drew ?_) | ((with_reducible refine Blk.far ?_ ?_ _); rotate_left; focus (simp <;> omega)))) hb1
      have B_1 : Blk w1 (w.heap.size) 40 #[.int .i64 (h), .int .i64 (e), .int .i64 (u)] := Blk.gr (by repeat (first | (with_reducible assumption) | ((with_reducible refine Blk.new_ ?_); focus (simp <;> omega)) | (with_reducible refine Blk.alloc ?_ _) | (with_reducible refine Blk.drew ?_) | ((with_reducible refine Blk.far ?_ ?_ _); rotate_left; focus (simp <;> omega)))) hb1
      have R_1 : Blk w1 (w.heap.size + 1) 40 #[.int .i64 (0), .int .i64 (0), .int .i64 (0)] := Blk.gr (by repeat (first | (with_reducible assumption) | ((with_reducible refine Blk.new_ ?_); focus (simp <;> omega)) | (with_reducible refine Blk.alloc ?_ _) | (with_reducible refine Blk.drew ?_) | ((with_reducible refine Blk.far ?_ ?_ _); rotate_left; focus (simp <;> omega)))) hb1
      obtain ⟨Nc, Nf, Nz⟩ := N_1.rules
      obtain ⟨Hc, Hf, Hz⟩ := H_1.rules
      obtain ⟨Qc, Qf, Qz⟩ := Q_1.rules
      obtain ⟨Sc, Sf, Sz⟩ := S_1.rules
      obtain ⟨Bc, Bf, Bz⟩ := B_1.rules
      obtain ⟨Rc, Rf, Rz⟩ := R_1.rules
      go_wp2_with fail
      refine (held_c _ _ _ _ _).mono ?_
      rintro e w2 ⟨rfl, hb2⟩
      have N_2 : Blk w2 (n) 3 #[.int .i64 now] := Blk.gr (by repeat (first | (with_reducible assumption) | ((with_reducible refine Blk.new_ ?_); focus (simp <;> omega)) | (with_reducible refine Blk.alloc ?_ _) | (with_reducible refine Blk.drew ?_) | ((with_reducible refine Blk.far ?_ ?_ _); rotate_left; focus (simp <;> omega)))) hb2
      have H_2 : Blk w2 (wh) 3 #[.int .i64 who] := Blk.gr (by repeat (first | (with_reducible assumption) | ((with_reducible refine Blk.new_ ?_); focus (simp <;> omega)) | (with_reducible refine Blk.alloc ?_ _) | (with_reducible refine Blk.drew ?_) | ((with_reducible refine Blk.far ?_ ?_ _); rotate_left; focus (simp <;> omega)))) hb2
      have Q_2 : Blk w2 (sb) 35 #[.pointer (some ⟨s, 0, none⟩)] := Blk.gr (by repeat (first | (with_reducible assumption) | ((with_reducible refine Blk.new_ ?_); focus (simp <;> omega)) | (with_reducible refine Blk.alloc ?_ _) | (with_reducible refine Blk.drew ?_) | ((with_reducible refine Blk.far ?_ ?_ _); rotate_left; focus (simp <;> omega)))) hb2
      have S_2 : Blk w2 (s) 65 #[.int .i64 span, p] := Blk.gr (by repeat (first | (with_reducible assumption) | ((with_reducible refine Blk.new_ ?_); focus (simp <;> omega)) | (with_reducible refine Blk.alloc ?_ _) | (with_reducible refine Blk.drew ?_) | ((with_reducible refine Blk.far ?_ ?_ _); rotate_left; focus (simp <;> omega)))) hb2
      have B_2 : Blk w2 (w.heap.size) 40 #[.int .i64 (h), .int .i64 (e), .int .i64 (u)] := Blk.gr (by repeat (first | (with_reducible assumption) | ((with_reducible refine Blk.new_ ?_); focus (simp <;> omega)) | (with_reducible refine Blk.alloc ?_ _) | (with_reducible refine Blk.drew ?_) | ((with_reducible refine Blk.far ?_ ?_ _); rotate_left; focus (simp <;> omega)))) hb2
      have R_2 : Blk w2 (w.heap.size + 1) 40 #[.int .i64 (0), .int .i64 (0), .int .i64 (0)] := Blk.gr (by repeat (first | (with_reducible assumption) | ((with_reducible refine Blk.new_ ?_); focus (simp <;> omega)) | (with_reducible refine Blk.alloc ?_ _) | (with_reducible refine Blk.drew ?_) | ((with_reducible refine Blk.far ?_ ?_ _); rotate_left; focus (simp <;> omega)))) hb2
      obtain ⟨Nc, Nf, Nz⟩ := N_2.rules
      obtain ⟨Hc, Hf, Hz⟩ := H_2.rules
      obtain ⟨Qc, Qf, Qz⟩ := Q_2.rules
      obtain ⟨Sc, Sf, Sz⟩ := S_2.rules
      obtain ⟨Bc, Bf, Bz⟩ := B_2.rules
      obtain ⟨Rc, Rf, Rz⟩ := R_2.rules
      go_wp2_with fail
      have ne_n : ¬ n = w.heap.size + 1 := by omega
      have nf_n : ¬ w.heap.size + 1 = n := by omega
      have ne_wh : ¬ wh = w.heap.size + 1 := by omega
      have nf_wh : ¬ w.heap.size + 1 = wh := by omega
      have ne_sb : ¬ sb = w.heap.size + 1 := by omega
      have nf_sb : ¬ w.heap.size + 1 = sb := by omega
      have ne_s : ¬ s = w.heap.size + 1 := by omega
      have nf_s : ¬ w.heap.size + 1 = s := by omega
      have hw1 : IntKind.i64.wrap (e + 1) = e + 1 := IntWalk.i64_in _ (by omega)
      go_region_held3 (fun w' => w'.cell? ⟨n, 0, none⟩ = some (.int .i64 now) ∧ w'.cell? ⟨wh, 0, none⟩ = some (.int .i64 who) ∧ w'.cell? ⟨sb, 0, none⟩ = some (.pointer (some ⟨s, 0, none⟩)) ∧ w'.cell? ⟨s, 0, none⟩ = some (.int .i64 span) ∧ w'.cell? ⟨w.heap.size, 1, none⟩ = some (.int .i64 e)) (go_keep) (first | (go_at_call 26; refine (later_c _ _ _).mono ?_; rintro e w' ⟨rfl, rfl⟩))
      go_wp2_with fail
      refine bodyPost_ret (v := (.tuple #[.agg #[.int .i64 (acqV (acqOk h e u now who) who), .int .i64 (acqV (acqOk h e u now who) (e + 1)), .int .i64 (acqV (acqOk h e u now who) (laterV now span))], .int .i64 (acqE h e u now who)])) (by simp [results, Try.results59, go_sem, acqV, acqOk, *]) rfl ⟨rfl, ?_⟩
      repeat (first | exact Gr.refl _ | assumption | apply Gr.alloc | apply Gr.drew | (refine Gr.setCell ?_ (by simp <;> omega) _) | (refine Gr.trans ?_ (by assumption)))
    · have hq : acqE h e u now who = 6 := by rw [hE, h1, h2]; rfl
      clear hE
      obtain ⟨Nc, Nf, Nz⟩ := N_0.rules
      obtain ⟨Hc, Hf, Hz⟩ := H_0.rules
      obtain ⟨Qc, Qf, Qz⟩ := Q_0.rules
      obtain ⟨Sc, Sf, Sz⟩ := S_0.rules
      go_enter Try.func59, Try.ntmps59
      go_wp2_with fail
      refine (held_c _ _ _ _ _).mono ?_
      rintro e w1 ⟨rfl, hb1⟩
      have N_1 : Blk w1 (n) 3 #[.int .i64 now] := Blk.gr (by repeat (first | (with_reducible assumption) | ((with_reducible refine Blk.new_ ?_); focus (simp <;> omega)) | (with_reducible refine Blk.alloc ?_ _) | (with_reducible refine Blk.drew ?_) | ((with_reducible refine Blk.far ?_ ?_ _); rotate_left; focus (simp <;> omega)))) hb1
      have H_1 : Blk w1 (wh) 3 #[.int .i64 who] := Blk.gr (by repeat (first | (with_reducible assumption) | ((with_reducible refine Blk.new_ ?_); focus (simp <;> omega)) | (with_reducible refine Blk.alloc ?_ _) | (with_reducible refine Blk.drew ?_) | ((with_reducible refine Blk.far ?_ ?_ _); rotate_left; focus (simp <;> omega)))) hb1
      have Q_1 : Blk w1 (sb) 35 #[.pointer (some ⟨s, 0, none⟩)] := Blk.gr (by repeat (first | (with_reducible assumption) | ((with_reducible refine Blk.new_ ?_); focus (simp <;> omega)) | (with_reducible refine Blk.alloc ?_ _) | (with_reducible refine Blk.drew ?_) | ((with_reducible refine Blk.far ?_ ?_ _); rotate_left; focus (simp <;> omega)))) hb1
      have S_1 : Blk w1 (s) 65 #[.int .i64 span, p] := Blk.gr (by repeat (first | (with_reducible assumption) | ((with_reducible refine Blk.new_ ?_); focus (simp <;> omega)) | (with_reducible refine Blk.alloc ?_ _) | (with_reducible refine Blk.drew ?_) | ((with_reducible refine Blk.far ?_ ?_ _); rotate_left; focus (simp <;> omega)))) hb1
      have B_1 : Blk w1 (w.heap.size) 40 #[.int .i64 (h), .int .i64 (e), .int .i64 (u)] := Blk.gr (by repeat (first | (with_reducible assumption) | ((with_reducible refine Blk.new_ ?_); focus (simp <;> omega)) | (with_reducible refine Blk.alloc ?_ _) | (with_reducible refine Blk.drew ?_) | ((with_reducible refine Blk.far ?_ ?_ _); rotate_left; focus (simp <;> omega)))) hb1
      have R_1 : Blk w1 (w.heap.size + 1) 40 #[.int .i64 (0), .int .i64 (0), .int .i64 (0)] := Blk.gr (by repeat (first | (with_reducible assumption) | ((with_reducible refine Blk.new_ ?_); focus (simp <;> omega)) | (with_reducible refine Blk.alloc ?_ _) | (with_reducible refine Blk.drew ?_) | ((with_reducible refine Blk.far ?_ ?_ _); rotate_left; focus (simp <;> omega)))) hb1
      obtain ⟨Nc, Nf, Nz⟩ := N_1.rules
      obtain ⟨Hc, Hf, Hz⟩ := H_1.rules
      obtain ⟨Qc, Qf, Qz⟩ := Q_1.rules
      obtain ⟨Sc, Sf, Sz⟩ := S_1.rules
      obtain ⟨Bc, Bf, Bz⟩ := B_1.rules
      obtain ⟨Rc, Rf, Rz⟩ := R_1.rules
      go_wp2_with fail
      refine (held_c _ _ _ _ _).mono ?_
      rintro e w2 ⟨rfl, hb2⟩
      have N_2 : Blk w2 (n) 3 #[.int .i64 now] := Blk.gr (by repeat (first | (with_reducible assumption) | ((with_reducible refine Blk.new_ ?_); focus (simp <;> omega)) | (with_reducible refine Blk.alloc ?_ _) | (with_reducible refine Blk.drew ?_) | ((with_reducible refine Blk.far ?_ ?_ _); rotate_left; focus (simp <;> omega)))) hb2
      have H_2 : Blk w2 (wh) 3 #[.int .i64 who] := Blk.gr (by repeat (first | (with_reducible assumption) | ((with_reducible refine Blk.new_ ?_); focus (simp <;> omega)) | (with_reducible refine Blk.alloc ?_ _) | (with_reducible refine Blk.drew ?_) | ((with_reducible refine Blk.far ?_ ?_ _); rotate_left; focus (simp <;> omega)))) hb2
      have Q_2 : Blk w2 (sb) 35 #[.pointer (some ⟨s, 0, none⟩)] := Blk.gr (by repeat (first | (with_reducible assumption) | ((with_reducible refine Blk.new_ ?_); focus (simp <;> omega)) | (with_reducible refine Blk.alloc ?_ _) | (with_reducible refine Blk.drew ?_) | ((with_reducible refine Blk.far ?_ ?_ _); rotate_left; focus (simp <;> omega)))) hb2
      have S_2 : Blk w2 (s) 65 #[.int .i64 span, p] := Blk.gr (by repeat (first | (with_reducible assumption) | ((with_reducible refine Blk.new_ ?_); focus (simp <;> omega)) | (with_reducible refine Blk.alloc ?_ _) | (with_reducible refine Blk.drew ?_) | ((with_reducible refine Blk.far ?_ ?_ _); rotate_left; focus (simp <;> omega)))) hb2
      have B_2 : Blk w2 (w.heap.size) 40 #[.int .i64 (h), .int .i64 (e), .int .i64 (u)] := Blk.gr (by repeat (first | (with_reducible assumption) | ((with_reducible refine Blk.new_ ?_); focus (simp <;> omega)) | (with_reducible refine Blk.alloc ?_ _) | (with_reducible refine Blk.drew ?_) | ((with_reducible refine Blk.far ?_ ?_ _); rotate_left; focus (simp <;> omega)))) hb2
      have R_2 : Blk w2 (w.heap.size + 1) 40 #[.int .i64 (0), .int .i64 (0), .int .i64 (0)] := Blk.gr (by repeat (first | (with_reducible assumption) | ((with_reducible refine Blk.new_ ?_); focus (simp <;> omega)) | (with_reducible refine Blk.alloc ?_ _) | (with_reducible refine Blk.drew ?_) | ((with_reducible refine Blk.far ?_ ?_ _); rotate_left; focus (simp <;> omega)))) hb2
      obtain ⟨Nc, Nf, Nz⟩ := N_2.rules
      obtain ⟨Hc, Hf, Hz⟩ := H_2.rules
      obtain ⟨Qc, Qf, Qz⟩ := Q_2.rules
      obtain ⟨Sc, Sf, Sz⟩ := S_2.rules
      obtain ⟨Bc, Bf, Bz⟩ := B_2.rules
      obtain ⟨Rc, Rf, Rz⟩ := R_2.rules
      go_wp2_with fail
      refine bodyPost_ret (v := (.tuple #[.agg #[.int .i64 (acqV (acqOk h e u now who) who), .int .i64 (acqV (acqOk h e u now who) (e + 1)), .int .i64 (acqV (acqOk h e u now who) (laterV now span))], .int .i64 (acqE h e u now who)])) (by simp [results, Try.results59, go_sem, acqV, acqOk, *]) rfl ⟨rfl, ?_⟩
      repeat (first | exact Gr.refl _ | assumption | apply Gr.alloc | apply Gr.drew | (refine Gr.setCell ?_ (by simp <;> omega) _) | (refine Gr.trans ?_ (by assumption)))
  · cases h2 : h == who
    · have hq : acqE h e u now who = 12 := by rw [hE, h1, h2]; rfl
      clear hE
      obtain ⟨Nc, Nf, Nz⟩ := N_0.rules
      obtain ⟨Hc, Hf, Hz⟩ := H_0.rules
      obtain ⟨Qc, Qf, Qz⟩ := Q_0.rules
      obtain ⟨Sc, Sf, Sz⟩ := S_0.rules
      go_enter Try.func59, Try.ntmps59
      go_wp2_with fail
      refine (held_c _ _ _ _ _).mono ?_
      rintro e w1 ⟨rfl, hb1⟩
      have N_1 : Blk w1 (n) 3 #[.int .i64 now] := Blk.gr (by repeat (first | (with_reducible assumption) | ((with_reducible refine Blk.new_ ?_); focus (simp <;> omega)) | (with_reducible refine Blk.alloc ?_ _) | (with_reducible refine Blk.drew ?_) | ((with_reducible refine Blk.far ?_ ?_ _); rotate_left; focus (simp <;> omega)))) hb1
      have H_1 : Blk w1 (wh) 3 #[.int .i64 who] := Blk.gr (by repeat (first | (with_reducible assumption) | ((with_reducible refine Blk.new_ ?_); focus (simp <;> omega)) | (with_reducible refine Blk.alloc ?_ _) | (with_reducible refine Blk.drew ?_) | ((with_reducible refine Blk.far ?_ ?_ _); rotate_left; focus (simp <;> omega)))) hb1
      have Q_1 : Blk w1 (sb) 35 #[.pointer (some ⟨s, 0, none⟩)] := Blk.gr (by repeat (first | (with_reducible assumption) | ((with_reducible refine Blk.new_ ?_); focus (simp <;> omega)) | (with_reducible refine Blk.alloc ?_ _) | (with_reducible refine Blk.drew ?_) | ((with_reducible refine Blk.far ?_ ?_ _); rotate_left; focus (simp <;> omega)))) hb1
      have S_1 : Blk w1 (s) 65 #[.int .i64 span, p] := Blk.gr (by repeat (first | (with_reducible assumption) | ((with_reducible refine Blk.new_ ?_); focus (simp <;> omega)) | (with_reducible refine Blk.alloc ?_ _) | (with_reducible refine Blk.drew ?_) | ((with_reducible refine Blk.far ?_ ?_ _); rotate_left; focus (simp <;> omega)))) hb1
      have B_1 : Blk w1 (w.heap.size) 40 #[.int .i64 (h), .int .i64 (e), .int .i64 (u)] := Blk.gr (by repeat (first | (with_reducible assumption) | ((with_reducible refine Blk.new_ ?_); focus (simp <;> omega)) | (with_reducible refine Blk.alloc ?_ _) | (with_reducible refine Blk.drew ?_) | ((with_reducible refine Blk.far ?_ ?_ _); rotate_left; focus (simp <;> omega)))) hb1
      have R_1 : Blk w1 (w.heap.size + 1) 40 #[.int .i64 (0), .int .i64 (0), .int .i64 (0)] := Blk.gr (by repeat (first | (with_reducible assumption) | ((with_reducible refine Blk.new_ ?_); focus (simp <;> omega)) | (with_reducible refine Blk.alloc ?_ _) | (with_reducible refine Blk.drew ?_) | ((with_reducible refine Blk.far ?_ ?_ _); rotate_left; focus (simp <;> omega)))) hb1
      obtain ⟨Nc, Nf, Nz⟩ := N_1.rules
      obtain ⟨Hc, Hf, Hz⟩ := H_1.rules
      obtain ⟨Qc, Qf, Qz⟩ := Q_1.rules
      obtain ⟨Sc, Sf, Sz⟩ := S_1.rules
      obtain ⟨Bc, Bf, Bz⟩ := B_1.rules
      obtain ⟨Rc, Rf, Rz⟩ := R_1.rules
      go_wp2_with fail
      refine (held_c _ _ _ _ _).mono ?_
      rintro e w2 ⟨rfl, hb2⟩
      have N_2 : Blk w2 (n) 3 #[.int .i64 now] := Blk.gr (by repeat (first | (with_reducible assumption) | ((with_reducible refine Blk.new_ ?_); focus (simp <;> omega)) | (with_reducible refine Blk.alloc ?_ _) | (with_reducible refine Blk.drew ?_) | ((with_reducible refine Blk.far ?_ ?_ _); rotate_left; focus (simp <;> omega)))) hb2
      have H_2 : Blk w2 (wh) 3 #[.int .i64 who] := Blk.gr (by repeat (first | (with_reducible assumption) | ((with_reducible refine Blk.new_ ?_); focus (simp <;> omega)) | (with_reducible refine Blk.alloc ?_ _) | (with_reducible refine Blk.drew ?_) | ((with_reducible refine Blk.far ?_ ?_ _); rotate_left; focus (simp <;> omega)))) hb2
      have Q_2 : Blk w2 (sb) 35 #[.pointer (some ⟨s, 0, none⟩)] := Blk.gr (by repeat (first | (with_reducible assumption) | ((with_reducible refine Blk.new_ ?_); focus (simp <;> omega)) | (with_reducible refine Blk.alloc ?_ _) | (with_reducible refine Blk.drew ?_) | ((with_reducible refine Blk.far ?_ ?_ _); rotate_left; focus (simp <;> omega)))) hb2
      have S_2 : Blk w2 (s) 65 #[.int .i64 span, p] := Blk.gr (by repeat (first | (with_reducible assumption) | ((with_reducible refine Blk.new_ ?_); focus (simp <;> omega)) | (with_reducible refine Blk.alloc ?_ _) | (with_reducible refine Blk.drew ?_) | ((with_reducible refine Blk.far ?_ ?_ _); rotate_left; focus (simp <;> omega)))) hb2
      have B_2 : Blk w2 (w.heap.size) 40 #[.int .i64 (h), .int .i64 (e), .int .i64 (u)] := Blk.gr (by repeat (first | (with_reducible assumption) | ((with_reducible refine Blk.new_ ?_); focus (simp <;> omega)) | (with_reducible refine Blk.alloc ?_ _) | (with_reducible refine Blk.drew ?_) | ((with_reducible refine Blk.far ?_ ?_ _); rotate_left; focus (simp <;> omega)))) hb2
      have R_2 : Blk w2 (w.heap.size + 1) 40 #[.int .i64 (0), .int .i64 (0), .int .i64 (0)] := Blk.gr (by repeat (first | (with_reducible assumption) | ((with_reducible refine Blk.new_ ?_); focus (simp <;> omega)) | (with_reducible refine Blk.alloc ?_ _) | (with_reducible refine Blk.drew ?_) | ((with_reducible refine Blk.far ?_ ?_ _); rotate_left; focus (simp <;> omega)))) hb2
      obtain ⟨Nc, Nf, Nz⟩ := N_2.rules
      obtain ⟨Hc, Hf, Hz⟩ := H_2.rules
      obtain ⟨Qc, Qf, Qz⟩ := Q_2.rules
      obtain ⟨Sc, Sf, Sz⟩ := S_2.rules
      obtain ⟨Bc, Bf, Bz⟩ := B_2.rules
      obtain ⟨Rc, Rf, Rz⟩ := R_2.rules
      go_wp2_with fail
      refine bodyPost_ret (v := (.tuple #[.agg #[.int .i64 (acqV (acqOk h e u now who) who), .int .i64 (acqV (acqOk h e u now who) (e + 1)), .int .i64 (acqV (acqOk h e u now who) (laterV now span))], .int .i64 (acqE h e u now who)])) (by simp [results, Try.results59, go_sem, acqV, acqOk, *]) rfl ⟨rfl, ?_⟩
      repeat (first | exact Gr.refl _ | assumption | apply Gr.alloc | apply Gr.drew | (refine Gr.setCell ?_ (by simp <;> omega) _) | (refine Gr.trans ?_ (by assumption)))
    · have hq : acqE h e u now who = 8 := by rw [hE, h1, h2]; rfl
      clear hE
      obtain ⟨Nc, Nf, Nz⟩ := N_0.rules
      obtain ⟨Hc, Hf, Hz⟩ := H_0.rules
      obtain ⟨Qc, Qf, Qz⟩ := Q_0.rules
      obtain ⟨Sc, Sf, Sz⟩ := S_0.rules
      go_enter Try.func59, Try.ntmps59
      go_wp2_with fail
      refine (held_c _ _ _ _ _).mono ?_
      rintro e w1 ⟨rfl, hb1⟩
      have N_1 : Blk w1 (n) 3 #[.int .i64 now] := Blk.gr (by repeat (first | (with_reducible assumption) | ((with_reducible refine Blk.new_ ?_); focus (simp <;> omega)) | (with_reducible refine Blk.alloc ?_ _) | (with_reducible refine Blk.drew ?_) | ((with_reducible refine Blk.far ?_ ?_ _); rotate_left; focus (simp <;> omega)))) hb1
      have H_1 : Blk w1 (wh) 3 #[.int .i64 who] := Blk.gr (by repeat (first | (with_reducible assumption) | ((with_reducible refine Blk.new_ ?_); focus (simp <;> omega)) | (with_reducible refine Blk.alloc ?_ _) | (with_reducible refine Blk.drew ?_) | ((with_reducible refine Blk.far ?_ ?_ _); rotate_left; focus (simp <;> omega)))) hb1
      have Q_1 : Blk w1 (sb) 35 #[.pointer (some ⟨s, 0, none⟩)] := Blk.gr (by repeat (first | (with_reducible assumption) | ((with_reducible refine Blk.new_ ?_); focus (simp <;> omega)) | (with_reducible refine Blk.alloc ?_ _) | (with_reducible refine Blk.drew ?_) | ((with_reducible refine Blk.far ?_ ?_ _); rotate_left; focus (simp <;> omega)))) hb1
      have S_1 : Blk w1 (s) 65 #[.int .i64 span, p] := Blk.gr (by repeat (first | (with_reducible assumption) | ((with_reducible refine Blk.new_ ?_); focus (simp <;> omega)) | (with_reducible refine Blk.alloc ?_ _) | (with_reducible refine Blk.drew ?_) | ((with_reducible refine Blk.far ?_ ?_ _); rotate_left; focus (simp <;> omega)))) hb1
      have B_1 : Blk w1 (w.heap.size) 40 #[.int .i64 (h), .int .i64 (e), .int .i64 (u)] := Blk.gr (by repeat (first | (with_reducible assumption) | ((with_reducible refine Blk.new_ ?_); focus (simp <;> omega)) | (with_reducible refine Blk.alloc ?_ _) | (with_reducible refine Blk.drew ?_) | ((with_reducible refine Blk.far ?_ ?_ _); rotate_left; focus (simp <;> omega)))) hb1
      have R_1 : Blk w1 (w.heap.size + 1) 40 #[.int .i64 (0), .int .i64 (0), .int .i64 (0)] := Blk.gr (by repeat (first | (with_reducible assumption) | ((with_reducible refine Blk.new_ ?_); focus (simp <;> omega)) | (with_reducible refine Blk.alloc ?_ _) | (with_reducible refine Blk.drew ?_) | ((with_reducible refine Blk.far ?_ ?_ _); rotate_left; focus (simp <;> omega)))) hb1
      obtain ⟨Nc, Nf, Nz⟩ := N_1.rules
      obtain ⟨Hc, Hf, Hz⟩ := H_1.rules
      obtain ⟨Qc, Qf, Qz⟩ := Q_1.rules
      obtain ⟨Sc, Sf, Sz⟩ := S_1.rules
      obtain ⟨Bc, Bf, Bz⟩ := B_1.rules
      obtain ⟨Rc, Rf, Rz⟩ := R_1.rules
      go_wp2_with fail
      refine bodyPost_ret (v := (.tuple #[.agg #[.int .i64 (acqV (acqOk h e u now who) who), .int .i64 (acqV (acqOk h e u now who) (e + 1)), .int .i64 (acqV (acqOk h e u now who) (laterV now span))], .int .i64 (acqE h e u now who)])) (by simp [results, Try.results59, go_sem, acqV, acqOk, *]) rfl ⟨rfl, ?_⟩
      repeat (first | exact Gr.refl _ | assumption | apply Gr.alloc | apply Gr.drew | (refine Gr.setCell ?_ (by simp <;> omega) _) | (refine Gr.trans ?_ (by assumption)))
def pickV (b : Bool) (x y : Int) : Int := if b then x else y
def chgR (now who : Int) : Bool := rightB now 0 1099511627776 && rightB who 0 4
def chgE (r : Bool) (err : Int) : Int := if r then err else 1
def chgOk (r : Bool) (err : Int) : Bool := r && err == 0
@[simp] theorem acqV_t (x : Int) : acqV true x = x := rfl
@[simp] theorem acqV_f (x : Int) : acqV false x = 0 := rfl
@[simp] theorem pickV_t (x y : Int) : pickV true x y = x := rfl
@[simp] theorem pickV_f (x y : Int) : pickV false x y = y := rfl
/-- What a change comes to. -/
def LPost (w : World) (s : Nat) (span : Int) (r : Bool) (err h e u rh re ru : Int) (e' : Ending) (w' : World) : Prop :=
  e' = .returned (.tuple #[.agg #[.int .i64 (acqV (chgOk r err) rh), .int .i64 (acqV (chgOk r err) re), .int .i64 (acqV (chgOk r err) ru)], .int .i64 (chgE r err)]) ∧ But s w w' ∧
    StoreAt w' s span (pickV (chgOk r err) rh h) (pickV (chgOk r err) re e) (pickV (chgOk r err) ru u)
theorem blk_ne {w : World} {g g' : Nat} {t t' : TypeId} {cs cs' : Array Value} (h : Blk w g t cs) (h' : Blk w g' t' cs') (hne : t ≠ t') : g ≠ g' := by
  rintro rfl
  unfold Blk at h h'
  rw [h] at h'
  injection h' with h'
  injection h' with _ ht
  exact hne ht
set_option maxHeartbeats 2000000 in
theorem chgA_c (n wh sb : Nat) (now who span h e u : Int) (s b : Nat) (w : World) (S_0 : Blk w s 65 #[.int .i64 span, .pointer (some ⟨b, 0, none⟩)]) (L_0 : Blk w b 40 #[.int .i64 (h), .int .i64 (e), .int .i64 (u)]) (hsp : (span == 0) = false) (N_0 : Blk w n 3 #[.int .i64 now]) (H_0 : Blk w wh 3 #[.int .i64 who]) (Q_0 : Blk w sb 35 #[.pointer (some ⟨s, 0, none⟩)]) (he0 : 0 ≤ e) (he1 : e ≤ 4294967295) :
    Calls Try.prog 58 #[.pointer (some ⟨s, 0, none⟩), .int .i64 now, .int .i64 who, .func (.func 59) #[] #[.pointer (some ⟨n, 0, none⟩), .pointer (some ⟨wh, 0, none⟩), .pointer (some ⟨sb, 0, none⟩)]] w (LPost w s span (chgR now who) (acqE h e u now who) h e u (who) (e + 1) (laterV now span)) := by
  cases r0 : rightB now 0 1099511627776
  · skip
    obtain ⟨Sc, Sf, Sz⟩ := S_0.rules
    obtain ⟨Lc, Lf, Lz⟩ := L_0.rules
    have hr : chgR now who = false := by simp [chgR, r0]
    obtain ⟨Nc, Nf, Nz⟩ := N_0.rules
    obtain ⟨Hc, Hf, Hz⟩ := H_0.rules
    obtain ⟨Qc, Qf, Qz⟩ := Q_0.rules
    go_enter Try.func58, Try.ntmps58
    go_wp2_with (go_at_call 22; refine (right_c _ _ _ _).mono ?_; rintro e' w' ⟨rfl, rfl⟩)
    refine bodyPost_ret (v := (.tuple #[.agg #[.int .i64 (0), .int .i64 (0), .int .i64 (0)], .int .i64 (1)])) (by simp [results, Try.results58, go_sem, *]) rfl ?_
    have hok : chgOk (chgR now who) (acqE h e u now who) = false := by simp [chgOk, hr]
    have her : chgE (chgR now who) (acqE h e u now who) = 1 := by simp [chgE, hr]
    unfold LPost
    rw [hok, her]
    simp only [acqV_t, acqV_f, pickV_t, pickV_f]
    refine ⟨by first | trivial | rfl, But.of_gr ?_, b, ?_, ?_⟩
    · repeat (first | exact Gr.refl _ | assumption | apply Gr.alloc | apply Gr.drew | (refine Gr.setCell ?_ (by simp <;> omega) _) | (refine Gr.trans ?_ (by assumption)))
    · repeat (first | (with_reducible exact S_0) | (with_reducible refine Blk.alloc ?_ _) | ((with_reducible refine Blk.far ?_ ?_ _); rotate_left; focus (simp <;> omega)))
    · repeat (first | (with_reducible exact L_0) | (with_reducible refine Blk.alloc ?_ _) | ((with_reducible refine Blk.far ?_ ?_ _); rotate_left; focus (simp <;> omega)))
  · cases r1 : rightB who 0 4
    · skip
      obtain ⟨Sc, Sf, Sz⟩ := S_0.rules
      obtain ⟨Lc, Lf, Lz⟩ := L_0.rules
      have hr : chgR now who = false := by simp [chgR, r0, r1]
      obtain ⟨Nc, Nf, Nz⟩ := N_0.rules
      obtain ⟨Hc, Hf, Hz⟩ := H_0.rules
      obtain ⟨Qc, Qf, Qz⟩ := Q_0.rules
      go_enter Try.func58, Try.ntmps58
      go_wp2_with (go_at_call 22; refine (right_c _ _ _ _).mono ?_; rintro e' w' ⟨rfl, rfl⟩)
      refine bodyPost_ret (v := (.tuple #[.agg #[.int .i64 (0), .int .i64 (0), .int .i64 (0)], .int .i64 (1)])) (by simp [results, Try.results58, go_sem, *]) rfl ?_
      have hok : chgOk (chgR now who) (acqE h e u now who) = false := by simp [chgOk, hr]
      have her : chgE (chgR now who) (acqE h e u now who) = 1 := by simp [chgE, hr]
      unfold LPost
      rw [hok, her]
      simp only [acqV_t, acqV_f, pickV_t, pickV_f]
      refine ⟨by first | trivial | rfl, But.of_gr ?_, b, ?_, ?_⟩
      · repeat (first | exact Gr.refl _ | assumption | apply Gr.alloc | apply Gr.drew | (refine Gr.setCell ?_ (by simp <;> omega) _) | (refine Gr.trans ?_ (by assumption)))
      · repeat (first | (with_reducible exact S_0) | (with_reducible refine Blk.alloc ?_ _) | ((with_reducible refine Blk.far ?_ ?_ _); rotate_left; focus (simp <;> omega)))
      · repeat (first | (with_reducible exact L_0) | (with_reducible refine Blk.alloc ?_ _) | ((with_reducible refine Blk.far ?_ ?_ _); rotate_left; focus (simp <;> omega)))
    · cases eo : (acqE h e u now who == 0)
      · skip
        obtain ⟨Sc, Sf, Sz⟩ := S_0.rules
        obtain ⟨Lc, Lf, Lz⟩ := L_0.rules
        have hr : chgR now who = true := by simp [chgR, r0, r1]
        obtain ⟨Nc, Nf, Nz⟩ := N_0.rules
        obtain ⟨Hc, Hf, Hz⟩ := H_0.rules
        obtain ⟨Qc, Qf, Qz⟩ := Q_0.rules
        have q0 := (show acqOk h e u now who = _ from eo)
        have eo' : ((acqE h e u now who) != 0) = true := by simp only [bne, eo]; rfl
        go_enter Try.func58, Try.ntmps58
        go_wp2_with (go_at_call 22; refine (right_c _ _ _ _).mono ?_; rintro e' w' ⟨rfl, rfl⟩)
        refine wp_loop_rounds 1 ?_
        rw [rounds_succ]
        go_wp2_with fail
        refine (ptrLoad_c s 1 b _ _ _ _ ((S_0.alloc _).cell 1) (L_0.alloc _)).mono ?_
        rintro e' w' ⟨rfl, rfl⟩
        go_wp2_with fail
        refine (acq1_c h e u now who span n wh sb s _ _ (N_0.alloc _) (H_0.alloc _) (Q_0.alloc _) (S_0.alloc _) he0 he1).mono ?_
        rintro e w1 ⟨rfl, hb1⟩
        have S_1 : Blk w1 (s) 65 #[.int .i64 span, .pointer (some ⟨b, 0, none⟩)] := Blk.gr (by repeat (first | (with_reducible assumption) | ((with_reducible refine Blk.new_ ?_); focus (simp <;> omega)) | (with_reducible refine Blk.alloc ?_ _) | (with_reducible refine Blk.drew ?_) | ((with_reducible refine Blk.far ?_ ?_ _); rotate_left; focus (simp <;> omega)))) hb1
        have L_1 : Blk w1 (b) 40 #[.int .i64 (h), .int .i64 (e), .int .i64 (u)] := Blk.gr (by repeat (first | (with_reducible assumption) | ((with_reducible refine Blk.new_ ?_); focus (simp <;> omega)) | (with_reducible refine Blk.alloc ?_ _) | (with_reducible refine Blk.drew ?_) | ((with_reducible refine Blk.far ?_ ?_ _); rotate_left; focus (simp <;> omega)))) hb1
        have R_1 : Blk w1 (w.heap.size) 40 #[.int .i64 (0), .int .i64 (0), .int .i64 (0)] := Blk.gr (by repeat (first | (with_reducible assumption) | ((with_reducible refine Blk.new_ ?_); focus (simp <;> omega)) | (with_reducible refine Blk.alloc ?_ _) | (with_reducible refine Blk.drew ?_) | ((with_reducible refine Blk.far ?_ ?_ _); rotate_left; focus (simp <;> omega)))) hb1
        have N_1 : Blk w1 (n) 3 #[.int .i64 now] := Blk.gr (by repeat (first | (with_reducible assumption) | ((with_reducible refine Blk.new_ ?_); focus (simp <;> omega)) | (with_reducible refine Blk.alloc ?_ _) | (with_reducible refine Blk.drew ?_) | ((with_reducible refine Blk.far ?_ ?_ _); rotate_left; focus (simp <;> omega)))) hb1
        have H_1 : Blk w1 (wh) 3 #[.int .i64 who] := Blk.gr (by repeat (first | (with_reducible assumption) | ((with_reducible refine Blk.new_ ?_); focus (simp <;> omega)) | (with_reducible refine Blk.alloc ?_ _) | (with_reducible refine Blk.drew ?_) | ((with_reducible refine Blk.far ?_ ?_ _); rotate_left; focus (simp <;> omega)))) hb1
        have Q_1 : Blk w1 (sb) 35 #[.pointer (some ⟨s, 0, none⟩)] := Blk.gr (by repeat (first | (with_reducible assumption) | ((with_reducible refine Blk.new_ ?_); focus (simp <;> omega)) | (with_reducible refine Blk.alloc ?_ _) | (with_reducible refine Blk.drew ?_) | ((with_reducible refine Blk.far ?_ ?_ _); rotate_left; focus (simp <;> omega)))) hb1
        obtain ⟨Sc, Sf, Sz⟩ := S_1.rules
        obtain ⟨Lc, Lf, Lz⟩ := L_1.rules
        obtain ⟨Rc, Rf, Rz⟩ := R_1.rules
        obtain ⟨Nc, Nf, Nz⟩ := N_1.rules
        obtain ⟨Hc, Hf, Hz⟩ := H_1.rules
        obtain ⟨Qc, Qf, Qz⟩ := Q_1.rules
        go_wp2_with fail
        refine bodyPost_ret (v := (.tuple #[.agg #[.int .i64 (0), .int .i64 (0), .int .i64 (0)], .int .i64 (acqE h e u now who)])) (by simp [results, Try.results58, go_sem, *]) rfl ?_
        have hok : chgOk (chgR now who) (acqE h e u now who) = false := by simp [chgOk, hr, eo]
        have her : chgE (chgR now who) (acqE h e u now who) = acqE h e u now who := by simp [chgE, hr]
        unfold LPost
        rw [hok, her]
        simp only [acqV_t, acqV_f, pickV_t, pickV_f]
        refine ⟨by first | trivial | rfl, But.of_gr ?_, b, ?_, ?_⟩
        · repeat (first | exact Gr.refl _ | assumption | apply Gr.alloc | apply Gr.drew | (refine Gr.setCell ?_ (by simp <;> omega) _) | (refine Gr.trans ?_ (by assumption)))
        · repeat (first | (with_reducible exact S_1) | (with_reducible refine Blk.alloc ?_ _) | ((with_reducible refine Blk.far ?_ ?_ _); rotate_left; focus (simp <;> omega)))
        · repeat (first | (with_reducible exact L_1) | (with_reducible refine Blk.alloc ?_ _) | ((with_reducible refine Blk.far ?_ ?_ _); rotate_left; focus (simp <;> omega)))
      · skip
        obtain ⟨Sc, Sf, Sz⟩ := S_0.rules
        obtain ⟨Lc, Lf, Lz⟩ := L_0.rules
        have hr : chgR now who = true := by simp [chgR, r0, r1]
        obtain ⟨Nc, Nf, Nz⟩ := N_0.rules
        obtain ⟨Hc, Hf, Hz⟩ := H_0.rules
        obtain ⟨Qc, Qf, Qz⟩ := Q_0.rules
        have q0 := (show acqOk h e u now who = _ from eo)
        have e0 : acqE h e u now who = 0 := by simpa using eo
        have eo' : ((acqE h e u now who) != 0) = false := by simp only [bne, eo]; rfl
        go_enter Try.func58, Try.ntmps58
        go_wp2_with (go_at_call 22; refine (right_c _ _ _ _).mono ?_; rintro e' w' ⟨rfl, rfl⟩)
        refine wp_loop_rounds 1 ?_
        rw [rounds_succ]
        go_wp2_with fail
        refine (ptrLoad_c s 1 b _ _ _ _ ((S_0.alloc _).cell 1) (L_0.alloc _)).mono ?_
        rintro e' w' ⟨rfl, rfl⟩
        go_wp2_with fail
        refine (acq1_c h e u now who span n wh sb s _ _ (N_0.alloc _) (H_0.alloc _) (Q_0.alloc _) (S_0.alloc _) he0 he1).mono ?_
        rintro e w1 ⟨rfl, hb1⟩
        have S_1 : Blk w1 (s) 65 #[.int .i64 span, .pointer (some ⟨b, 0, none⟩)] := Blk.gr (by repeat (first | (with_reducible assumption) | ((with_reducible refine Blk.new_ ?_); focus (simp <;> omega)) | (with_reducible refine Blk.alloc ?_ _) | (with_reducible refine Blk.drew ?_) | ((with_reducible refine Blk.far ?_ ?_ _); rotate_left; focus (simp <;> omega)))) hb1
        have L_1 : Blk w1 (b) 40 #[.int .i64 (h), .int .i64 (e), .int .i64 (u)] := Blk.gr (by repeat (first | (with_reducible assumption) | ((with_reducible refine Blk.new_ ?_); focus (simp <;> omega)) | (with_reducible refine Blk.alloc ?_ _) | (with_reducible refine Blk.drew ?_) | ((with_reducible refine Blk.far ?_ ?_ _); rotate_left; focus (simp <;> omega)))) hb1
        have R_1 : Blk w1 (w.heap.size) 40 #[.int .i64 (0), .int .i64 (0), .int .i64 (0)] := Blk.gr (by repeat (first | (with_reducible assumption) | ((with_reducible refine Blk.new_ ?_); focus (simp <;> omega)) | (with_reducible refine Blk.alloc ?_ _) | (with_reducible refine Blk.drew ?_) | ((with_reducible refine Blk.far ?_ ?_ _); rotate_left; focus (simp <;> omega)))) hb1
        have N_1 : Blk w1 (n) 3 #[.int .i64 now] := Blk.gr (by repeat (first | (with_reducible assumption) | ((with_reducible refine Blk.new_ ?_); focus (simp <;> omega)) | (with_reducible refine Blk.alloc ?_ _) | (with_reducible refine Blk.drew ?_) | ((with_reducible refine Blk.far ?_ ?_ _); rotate_left; focus (simp <;> omega)))) hb1
        have H_1 : Blk w1 (wh) 3 #[.int .i64 who] := Blk.gr (by repeat (first | (with_reducible assumption) | ((with_reducible refine Blk.new_ ?_); focus (simp <;> omega)) | (with_reducible refine Blk.alloc ?_ _) | (with_reducible refine Blk.drew ?_) | ((with_reducible refine Blk.far ?_ ?_ _); rotate_left; focus (simp <;> omega)))) hb1
        have Q_1 : Blk w1 (sb) 35 #[.pointer (some ⟨s, 0, none⟩)] := Blk.gr (by repeat (first | (with_reducible assumption) | ((with_reducible refine Blk.new_ ?_); focus (simp <;> omega)) | (with_reducible refine Blk.alloc ?_ _) | (with_reducible refine Blk.drew ?_) | ((with_reducible refine Blk.far ?_ ?_ _); rotate_left; focus (simp <;> omega)))) hb1
        obtain ⟨Sc, Sf, Sz⟩ := S_1.rules
        obtain ⟨Lc, Lf, Lz⟩ := L_1.rules
        obtain ⟨Rc, Rf, Rz⟩ := R_1.rules
        obtain ⟨Nc, Nf, Nz⟩ := N_1.rules
        obtain ⟨Hc, Hf, Hz⟩ := H_1.rules
        obtain ⟨Qc, Qf, Qz⟩ := Q_1.rules
        go_wp2_with fail
        have C_1 : Blk (w1.alloc (.cells #[.int .i64 (who), .int .i64 (e + 1), .int .i64 (laterV now span)] 40)) w1.heap.size 40 #[.int .i64 (who), .int .i64 (e + 1), .int .i64 (laterV now span)] := Blk.new _ _ _
        refine (ptrCas_c s 1 b w1.heap.size _ _ _ ((S_1.alloc _).cell 1) ((S_1.alloc _).frozen 1) ((L_1.alloc _).cell 0) (C_1.cell 0)).mono ?_
        rintro e' w' ⟨rfl, rfl⟩
        go_wp2_with fail
        have ne1 : s ≠ w.heap.size := by omega
        have ne2 : w1.heap.size ≠ s := by omega
        have ne3 : w1.heap.size ≠ w.heap.size := by omega
        refine bodyPost_ret (v := (.tuple #[.agg #[.int .i64 (who), .int .i64 (e + 1), .int .i64 (laterV now span)], .int .i64 (0)])) (by simp [results, Try.results58, go_sem, *]) rfl ?_
        have hok : chgOk (chgR now who) (acqE h e u now who) = true := by simp [chgOk, hr, e0]
        have her : chgE (chgR now who) (acqE h e u now who) = 0 := by simp [chgE, hr, e0]
        unfold LPost
        rw [hok, her]
        simp only [acqV_t, acqV_f, pickV_t, pickV_f]
        have hbb : But s w w1 := .of_gr (by repeat (first | exact Gr.refl _ | assumption | apply Gr.alloc | apply Gr.drew | (refine Gr.setCell ?_ (by simp <;> omega) _) | (refine Gr.trans ?_ (by assumption))))
        have hls : w1.heap.size ≠ s := by omega
        have S_2 := S_1.put (i := 1) (u := .pointer (some ⟨w1.heap.size, 0, none⟩)) (ds := #[.int .i64 span, .pointer (some ⟨w1.heap.size, 0, none⟩)]) rfl
        refine ⟨by first | trivial | rfl, ?_, w1.heap.size, ?_, ?_⟩
        · repeat (first | (with_reducible exact hbb) | (with_reducible refine But.alloc ?_ _) | (with_reducible refine But.set_ ?_ _) | ((with_reducible refine But.far ?_ ?_ _); rotate_left; focus (simp <;> omega)))
        · repeat (first | (with_reducible exact S_2) | (with_reducible refine Blk.alloc ?_ _) | ((with_reducible refine Blk.far ?_ ?_ _); rotate_left; focus (simp <;> omega)))
        · repeat (first | ((with_reducible refine Blk.new_ ?_); focus (simp [World.setCell] <;> omega)) | (with_reducible exact C_1) | (with_reducible refine Blk.alloc ?_ _) | ((with_reducible refine Blk.far ?_ ?_ _); rotate_left; focus (simp <;> omega)))
end Go.Proofs.Ytpicmpfcmgocmaa

/- A pointer that is read and exchanged in one go. -/
import Derived.Test.YtpicmpfcmgocmaaGf
import Derived.Deep.RegionHeld3
import Derived.Laws.LoneSync
import Derived.Test.YtpicmpfcmgocmaaProg

namespace Go.Proofs.Ytpicmpfcmgocmaa
open Go.RowKit Go.Proofs
section
variable {w : World}
theorem shape_of {g : Nat} {t : TypeId} {cs : Array Value} (h : Blk w g t cs) : w.shape? g = some (t, cs.size) := by
  unfold Blk at h
  simp [World.shape?, h]
theorem run_loadP (a : Addr) (p : Option Addr) (h : w.cell? a = some (.pointer p)) : (callFunc 81 #[.pointer (some a)]).run Try.prog w = .ok (.value (.pointer p)) w := by
  rw [run_callFunc_extern (P := Try.prog) (e := Extern.Atomic.loadT .ptr) Try.func81 (by kernel_rfl) (by kernel_rfl) (by kernel_rfl) (by kernel_rfl)]
  change (Sem.run Try.prog (do Extern.Atomic.read .ptr (← asAddr (.pointer (some a)))) w).andThen _ = _
  simp [Extern.Atomic.read, asAddr, h, Result.andThen]
theorem run_storeP (a : Addr) (p q : Option Addr) (h : w.cell? a = some (.pointer p)) (hz : w.frozen? a = false) : (callFunc 78 #[.pointer (some a), .pointer q]).run Try.prog w = .ok (.value (.tuple #[])) (w.setCell a (.pointer q)) := by
  rw [run_callFunc_extern (P := Try.prog) (e := Extern.Atomic.storeT) Try.func78 (by kernel_rfl) (by kernel_rfl) (by kernel_rfl) (by kernel_rfl)]
  change (Sem.run Try.prog (do
    store (← asAddr (.pointer (some a))) (.pointer q) .atomic
    pure Extern.Atomic.none_) w).andThen _ = _
  simp [asAddr, h, hz, run_store Try.prog w a (.pointer q) .atomic rfl, Result.andThen, Extern.Atomic.none_]
theorem run_casP (a p : Addr) (q : Option Addr) (h : w.cell? a = some (.pointer (some p))) (hz : w.frozen? a = false) :
    (callFunc 101 #[.pointer (some a), .pointer (some p), .pointer q]).run Try.prog w = .ok (.value (.bool true)) (w.setCell a (.pointer q)) := by
  rw [run_callFunc_extern (P := Try.prog) (e := Extern.Atomic.casT .ptr) Try.func101 (by kernel_rfl) (by kernel_rfl) (by kernel_rfl) (by kernel_rfl)]
  change (Sem.run Try.prog (do
    let a' ← asAddr (.pointer (some a))
    if ← Extern.Atomic.touchesFrozen a' then unsupported (.unsafePointer "a write to bytes that a string shares")
    let eq ← match Extern.Atomic.T.ptr, ← Extern.Atomic.read .ptr a', Value.pointer (some p) with
      | _, .int _ x, .int _ y => pure (x == y)
      | .ptr, .pointer x, .pointer y => samePointer x y
      | .int _, .pointer (some _), .int _ 0 | .int _, .int _ 0, .pointer (some _) => pure false
      | .int _, .pointer (some _), _ | .int _, _, .pointer (some _) => unsupported .addressObserved
      | _, _, _ => stuck "atomic.CompareAndSwap: old is no T"
    if eq then store a' (.pointer q) .atomic
    pure (Value.bool eq)) w).andThen _ = _
  simp [Extern.Atomic.touchesFrozen, Extern.Atomic.read, asAddr, viewAt, World.shape?_isSome_of_cell? h, h, hz, samePointer, sameAddr, run_store Try.prog w a (.pointer q) .atomic rfl, Result.andThen]
theorem run_toP {b o : Nat} {v : Value} (h : w.cell? ⟨b, o, none⟩ = some v) : (convert 57 61 (.pointer (some ⟨b, o, none⟩))).run Try.prog w = .ok (.pointer (some ⟨b, o, none⟩)) w :=
  run_convert_to_unsafe (P := Try.prog) (t := 40) (by kernel_rfl) (by kernel_rfl) (by kernel_rfl) h
theorem run_fromP {b : Nat} {x y z : Value} (h : Blk w b 40 #[x, y, z]) : (convert 61 57 (.pointer (some ⟨b, 0, none⟩))).run Try.prog w = .ok (.pointer (some ⟨b, 0, none⟩)) w := by
  have hs : Try.prog.underlying 61 = some .unsafePointer := by kernel_rfl
  have hd : Try.prog.underlying 57 = some (.pointer 40) := by kernel_rfl
  have hl : liesAt Try.prog Try.prog.depth 40 (3 / Try.prog.cellsOf 40) 0 40 1 = true := by kernel_rfl
  obtain ⟨i, hi⟩ := info_of_underlying Try.underlying40
  have hcz : Try.prog.cellsOf 40 = 3 := by kernel_rfl
  have hz : i.size = 3 := by simpa [Program.cellsOf, hi] using hcz
  have hsh := shape_of h
  simp [convert, Conv.unsafePointer, Conv.seenAt, viewAt, sizeOf, typeInfo, run_underlying hs, run_underlying hd, hi, hz, hsh, variablesAt, hl, Result.andThen]
end
set_option maxHeartbeats 400000 in
theorem ptrLoad_c (s o b : Nat) (x y z : Value) (w : World) (h : w.cell? ⟨s, o, none⟩ = some (.pointer (some ⟨b, 0, none⟩))) (hB : Blk w b 40 #[x, y, z]) :
    Calls Try.prog 65 #[.pointer (some ⟨s, o, none⟩)] w fun e w' => e = .returned (.pointer (some ⟨b, 0, none⟩)) ∧ w = w' := by
  have h1 := run_loadP _ _ h
  have h2 := run_fromP hB
  go_enter Try.func65, Try.ntmps65
  go_wp2
  go_ret
  exact ⟨rfl, rfl⟩
set_option maxHeartbeats 400000 in
theorem ptrStore_c (s o b : Nat) (v : Value) (p : Option Addr) (w : World) (h : w.cell? ⟨s, o, none⟩ = some (.pointer p)) (hf : w.frozen? ⟨s, o, none⟩ = false) (hb : w.cell? ⟨b, 0, none⟩ = some v) :
    Calls Try.prog 57 #[.pointer (some ⟨s, o, none⟩), .pointer (some ⟨b, 0, none⟩)] w fun e w' => e = .returned (.tuple #[]) ∧ w.setCell ⟨s, o, none⟩ (.pointer (some ⟨b, 0, none⟩)) = w' := by
  have h1 := run_storeP _ _ (some ⟨b, 0, none⟩) h hf
  have h2 := run_toP hb
  go_enter Try.func57, Try.ntmps57
  go_wp2
  go_end0
  exact ⟨rfl, rfl⟩
set_option maxHeartbeats 400000 in
theorem ptrCas_c (s o b c : Nat) (u v : Value) (w : World) (h : w.cell? ⟨s, o, none⟩ = some (.pointer (some ⟨b, 0, none⟩))) (hf : w.frozen? ⟨s, o, none⟩ = false) (hb : w.cell? ⟨b, 0, none⟩ = some u) (hc : w.cell? ⟨c, 0, none⟩ = some v) :
    Calls Try.prog 79 #[.pointer (some ⟨s, o, none⟩), .pointer (some ⟨b, 0, none⟩), .pointer (some ⟨c, 0, none⟩)] w
      fun e w' => e = .returned (.bool true) ∧ w.setCell ⟨s, o, none⟩ (.pointer (some ⟨c, 0, none⟩)) = w' := by
  have h1 := run_casP _ _ (some ⟨c, 0, none⟩) h hf
  have h2 := run_toP hb
  have h3 := run_toP hc
  go_enter Try.func79, Try.ntmps79
  go_wp2
  go_ret
  exact ⟨rfl, rfl⟩

end Go.Proofs.Ytpicmpfcmgocmaa

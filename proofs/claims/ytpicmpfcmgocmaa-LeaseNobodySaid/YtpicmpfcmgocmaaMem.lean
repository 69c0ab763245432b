/- Blocks that are known whole: the rules that a walk reads off them. -/
import Derived.Test.YtpicmpfcmgocmaaBase
namespace Go.Proofs.Ytpicmpfcmgocmaa
open Go.RowKit
section
variable {w w' : World} {g i : Nat} {t : TypeId} {cs ds : Array Value}
theorem Blk.rules (h : Blk w g t cs) : (∀ i, w.cell? ⟨g, i, none⟩ = cs[i]?) ∧ (∀ i, w.frozen? ⟨g, i, none⟩ = false) ∧ g < w.heap.size := ⟨h.cell, h.frozen, h.lt⟩
theorem Blk.new_ {k : Nat} (hk : k = w.heap.size) : Blk (w.alloc (.cells cs t)) k t cs := by subst hk; exact Blk.new w t cs
theorem Blk.put (h : Blk w g t cs) {i : Nat} {u : Value} (e : cs.setIfInBounds i u = ds) : Blk (w.setCell ⟨g, i, none⟩ u) g t ds := e ▸ h.set_ i u
theorem Gr.rules3 (h : Gr w w') : (∀ b o, b < w.heap.size → w'.cell? ⟨b, o, none⟩ = w.cell? ⟨b, o, none⟩) ∧ (∀ b o, b < w.heap.size → w'.frozen? ⟨b, o, none⟩ = w.frozen? ⟨b, o, none⟩) ∧ (∀ b, b < w.heap.size → b < w'.heap.size) :=
  ⟨h.rules.1, h.rules.2, fun _ hb => Nat.lt_of_lt_of_le hb h.size⟩
end
@[simp] theorem cell_new0 (w : World)  (cs : Array Value) (t : TypeId) (i : Nat) : (w.alloc (.cells cs t)).cell? ⟨w.heap.size, i, none⟩ = cs[i]? := Blk.cell (Blk.new_ (by simp)) i
@[simp] theorem cell_new1 (w : World) (o0 : Obj) (cs : Array Value) (t : TypeId) (i : Nat) : ((w.alloc o0).alloc (.cells cs t)).cell? ⟨w.heap.size + 1, i, none⟩ = cs[i]? := Blk.cell (Blk.new_ (by simp)) i
@[simp] theorem cell_new2 (w : World) (o0 : Obj) (o1 : Obj) (cs : Array Value) (t : TypeId) (i : Nat) : (((w.alloc o0).alloc o1).alloc (.cells cs t)).cell? ⟨w.heap.size + 1 + 1, i, none⟩ = cs[i]? := Blk.cell (Blk.new_ (by simp)) i
@[simp] theorem cell_new3 (w : World) (o0 : Obj) (o1 : Obj) (o2 : Obj) (cs : Array Value) (t : TypeId) (i : Nat) : ((((w.alloc o0).alloc o1).alloc o2).alloc (.cells cs t)).cell? ⟨w.heap.size + 1 + 1 + 1, i, none⟩ = cs[i]? := Blk.cell (Blk.new_ (by simp)) i
@[simp] theorem cell_new4 (w : World) (o0 : Obj) (o1 : Obj) (o2 : Obj) (o3 : Obj) (cs : Array Value) (t : TypeId) (i : Nat) : (((((w.alloc o0).alloc o1).alloc o2).alloc o3).alloc (.cells cs t)).cell? ⟨w.heap.size + 1 + 1 + 1 + 1, i, none⟩ = cs[i]? := Blk.cell (Blk.new_ (by simp)) i
@[simp] theorem cell_new5 (w : World) (o0 : Obj) (o1 : Obj) (o2 : Obj) (o3 : Obj) (o4 : Obj) (cs : Array Value) (t : TypeId) (i : Nat) : ((((((w.alloc o0).alloc o1).alloc o2).alloc o3).alloc o4).alloc (.cells cs t)).cell? ⟨w.heap.size + 1 + 1 + 1 + 1 + 1, i, none⟩ = cs[i]? := Blk.cell (Blk.new_ (by simp)) i
@[simp] theorem cell_new6 (w : World) (o0 : Obj) (o1 : Obj) (o2 : Obj) (o3 : Obj) (o4 : Obj) (o5 : Obj) (cs : Array Value) (t : TypeId) (i : Nat) : (((((((w.alloc o0).alloc o1).alloc o2).alloc o3).alloc o4).alloc o5).alloc (.cells cs t)).cell? ⟨w.heap.size + 1 + 1 + 1 + 1 + 1 + 1, i, none⟩ = cs[i]? := Blk.cell (Blk.new_ (by simp)) i
end Go.Proofs.Ytpicmpfcmgocmaa

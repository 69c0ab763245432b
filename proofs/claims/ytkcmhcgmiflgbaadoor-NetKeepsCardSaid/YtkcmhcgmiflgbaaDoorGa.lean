/- How plain arguments lie in memory; equality of structs, leaf by leaf. -/
import Derived.RowKit3
import Derived.WalkKit
import Derived.WalkSpells
import Derived.WalkLawsBesides
import Derived.Deep.Light
import Derived.OpenShut
import Derived.ProofKit
import Derived.DeepKeys
/- Small words for the walks: a world that has only grown; facts hidden from the walk. -/
namespace Go.Proofs.YtkcmhcgmiflgbaaDoor
open Go.RowKit
theorem hid {p : Prop} (h : p) : Hid p := h
/-- The world has only grown. -/
def Gr (w w' : World) : Prop := Below w.heap.size w w'
theorem Gr.refl (w : World) : Gr w w := Below.refl _ _
theorem Gr.trans {a b c : World} (h : Gr a b) (k : Gr b c) : Gr a c := Below.trans h (Below.mono k (Below.size h))
theorem Gr.size {w w' : World} (h : Gr w w') : w.heap.size ≤ w'.heap.size := Below.size h
theorem Gr.alloc {a w : World} (h : Gr a w) (o : Obj) : Gr a (w.alloc o) := Below.alloc h h.size o
theorem Gr.drew {a w : World} (h : Gr a w) : Gr a w.drew := Below.drew h
theorem Gr.setCell {a w : World} (h : Gr a w) {p : Addr} (hp : a.heap.size ≤ p.block) (u : Value) : Gr a (w.setCell p u) := Below.setCell h hp u
theorem Gr.cell {w w' : World} (h : Gr w w') {p : Addr} (hp : p.block < w.heap.size) : w'.cell? p = w.cell? p := Below.cell h hp
theorem Gr.frozen {w w' : World} (h : Gr w w') {p : Addr} (hp : p.block < w.heap.size) : w'.frozen? p = w.frozen? p := Below.frozen h hp
theorem Gr.block {w w' : World} (h : Gr w w') {k : Nat} (hk : k < w.heap.size) : w'.heap[k]? = w.heap[k]? := Below.block h k hk
theorem Gr.rules {w w' : World} (h : Gr w w') : (∀ b o, b < w.heap.size → w'.cell? ⟨b, o, none⟩ = w.cell? ⟨b, o, none⟩) ∧ (∀ b o, b < w.heap.size → w'.frozen? ⟨b, o, none⟩ = w.frozen? ⟨b, o, none⟩) :=
  ⟨fun b o hb => h.cell (p := ⟨b, o, none⟩) hb, fun b o hb => h.frozen (p := ⟨b, o, none⟩) hb⟩
theorem lt_of_block {w : World} {g : Nat} {o : Obj} (hg : w.heap[g]? = some o) : g < w.heap.size := by
  rcases Nat.lt_or_ge g w.heap.size with h | h
  · exact h
  · rw [Array.getElem?_eq_none h] at hg; cases hg
theorem Gr.at_ {w w' : World} (h : Gr w w') {g : Nat} {o : Obj} (hg : w.heap[g]? = some o) : w'.heap[g]? = some o := (h.block (lt_of_block hg)).trans hg
theorem cell_at {w : World} {g : Nat} {cs : Array Value} {t : TypeId} {f : Nat × Nat} (hg : w.heap[g]? = some (.cells cs t f)) (i : Nat) : w.cell? ⟨g, i, none⟩ = cs[i]? := cell_of_row w g i cs t f hg
@[simp] theorem lt_p2 (n : Nat) : n < n + 1 + 1 := by omega
@[simp] theorem lt_p3 (n : Nat) : n < n + 1 + 1 + 1 := by omega
@[simp] theorem lt_p4 (n : Nat) : n < n + 1 + 1 + 1 + 1 := by omega
@[simp] theorem lt_p5 (n : Nat) : n < n + 1 + 1 + 1 + 1 + 1 := by omega
@[simp] theorem lt_p6 (n : Nat) : n < n + 1 + 1 + 1 + 1 + 1 + 1 := by omega
@[simp] theorem lt_p7 (n : Nat) : n < n + 1 + 1 + 1 + 1 + 1 + 1 + 1 := by omega
@[simp] theorem lt_p8 (n : Nat) : n < n + 1 + 1 + 1 + 1 + 1 + 1 + 1 + 1 := by omega
@[simp] theorem lt_p9 (n : Nat) : n < n + 1 + 1 + 1 + 1 + 1 + 1 + 1 + 1 + 1 := by omega
@[simp] theorem lt_p10 (n : Nat) : n < n + 1 + 1 + 1 + 1 + 1 + 1 + 1 + 1 + 1 + 1 := by omega
@[simp] theorem lt_p11 (n : Nat) : n < n + 1 + 1 + 1 + 1 + 1 + 1 + 1 + 1 + 1 + 1 + 1 := by omega
@[simp] theorem lt_p12 (n : Nat) : n < n + 1 + 1 + 1 + 1 + 1 + 1 + 1 + 1 + 1 + 1 + 1 + 1 := by omega
def I64 (a : Int) : Prop := -9223372036854775808 ≤ a ∧ a ≤ 9223372036854775807
theorem wrap64_id {a : Int} (h : I64 a) : wrap64 a = a := by unfold I64 at h; unfold wrap64; omega
theorem I64_wrap (a : Int) : I64 (wrap64 a) := by unfold I64 wrap64; omega
theorem I64_wf {a : Int} (h : (Lit.int .i64 a).wf = true) : I64 a := by
  exact bounds_i64 h
/-- A block of cells in memory. -/
def Blk (w : World) (g : Nat) (t : TypeId) (cs : Array Value) : Prop := w.heap[g]? = some (.cells cs t (0, 0))
theorem Blk.lt {w : World} {g : Nat} {t : TypeId} {cs : Array Value} (h : Blk w g t cs) : g < w.heap.size := lt_of_block h
theorem Blk.cell {w : World} {g : Nat} {t : TypeId} {cs : Array Value} (h : Blk w g t cs) (i : Nat) : w.cell? ⟨g, i, none⟩ = cs[i]? := cell_at h i
theorem Blk.frozen {w : World} {g : Nat} {t : TypeId} {cs : Array Value} (h : Blk w g t cs) (i : Nat) : w.frozen? ⟨g, i, none⟩ = false := by
  unfold Blk at h
  simp [World.frozen?, h]
theorem Blk.new (w : World) (t : TypeId) (cs : Array Value) : Blk (w.alloc (.cells cs t)) w.heap.size t cs := heap_alloc_new w _
theorem Blk.gr {w w' : World} {g : Nat} {t : TypeId} {cs : Array Value} (h : Blk w g t cs) (hg : Gr w w') : Blk w' g t cs := hg.at_ h
theorem Blk.alloc {w : World} {g : Nat} {t : TypeId} {cs : Array Value} (h : Blk w g t cs) (o : Obj) : Blk (w.alloc o) g t cs := h.gr ((Gr.refl w).alloc o)
theorem Blk.drew {w : World} {g : Nat} {t : TypeId} {cs : Array Value} (h : Blk w g t cs) : Blk w.drew g t cs := h
theorem Blk.set_ {w : World} {g : Nat} {t : TypeId} {cs : Array Value} (h : Blk w g t cs) (i : Nat) (u : Value) : Blk (w.setCell ⟨g, i, none⟩ u) g t (cs.setIfInBounds i u) := by
  unfold Blk at h ⊢
  simp [World.setCell, Array.getElem?_modify, h]
theorem Blk.far {w : World} {g : Nat} {t : TypeId} {cs : Array Value} (h : Blk w g t cs) {p : Addr} (hp : g ≠ p.block) (u : Value) : Blk (w.setCell p u) g t cs := (Below.heap_setCell w p u g hp).trans h
end Go.Proofs.YtkcmhcgmiflgbaaDoor
/- How plain arguments (numbers, truth values, structs and arrays of these, slices of these) lie in memory; and that a law's row follows from its walk. -/
namespace Go.Proofs.YtkcmhcgmiflgbaaDoor
open Go.RowKit Go.ChangeShapes Go.WideShapes Go.ChangeAt

inductive Leaf where
  | b
  | i (k : IntKind)
def leafOk : Leaf → Value → Prop
  | .b, v => ∃ x, v = .bool x
  | .i k, v => ∃ n, v = .int k n ∧ (Lit.int k n).wf = true
def goF (P : Program) (lv : TypeId → Option (List Leaf)) : Nat → List (Nat × TypeId) → Option (List Leaf)
  | _, [] => some []
  | off, f :: fs =>
    if f.1 = off then
      match lv f.2, goF P lv (off + P.cellsOf f.2) fs with
      | some a, some b => if a.length = P.cellsOf f.2 then some (a ++ b) else none
      | _, _ => none
    else none
def leaves (P : Program) : Nat → TypeId → Option (List Leaf)
  | 0, _ => none
  | m + 1, t =>
    match P.underlying t with
    | some .bool => some [.b]
    | some (.int k) => some [.i k]
    | some (.struct fs) => (goF P (leaves P m) 0 (fs.toList.map fun f => (f.offset, f.type))).bind fun ks => if ks.length = P.cellsOf t then some ks else none
    | some (.array n e) => (goF P (leaves P m) 0 ((List.range n).map fun i => (i * P.cellsOf e, e))).bind fun ks => if ks.length = P.cellsOf t then some ks else none
    | _ => none
inductive All2 {α β : Type} (R : α → β → Prop) : List α → List β → Prop where
  | nil : All2 R [] []
  | cons {a b l m} : R a b → All2 R l m → All2 R (a :: l) (b :: m)
theorem All2.length {α β : Type} {R : α → β → Prop} {l : List α} {m : List β} (h : All2 R l m) : l.length = m.length := by
  induction h with
  | nil => rfl
  | cons _ _ ih => simp [ih]
theorem All2.append {α β : Type} {R : α → β → Prop} {l l' : List α} {m m' : List β} (h : All2 R l m) (h' : All2 R l' m') : All2 R (l ++ l') (m ++ m') := by
  induction h with
  | nil => exact h'
  | cons hr _ ih => exact .cons hr ih
theorem All2.get {α β : Type} {R : α → β → Prop} {l : List α} {m : List β} (h : All2 R l m) : ∀ (i : Nat) (a : α), l[i]? = some a → ∃ b, m[i]? = some b ∧ R a b := by
  induction h with
  | nil => intro i a h; simp at h
  | cons hr _ ih =>
    intro i a h
    cases i with
    | zero => simp at h; subst h; exact ⟨_, rfl, hr⟩
    | succ i => simp at h ⊢; exact ih i a h

theorem mapM_all {α β : Type} {f : α → Option β} : ∀ {l : List α} {xs : List β}, l.mapM f = some xs → ∀ x ∈ l, ∃ y, f x = some y := by
  intro l
  induction l with
  | nil => intro xs _ x hx; cases hx
  | cons a l ih =>
    intro xs h x hx
    rw [List.mapM_cons] at h
    cases ha : f a with
    | none => simp [ha] at h
    | some y =>
      cases hl : l.mapM f with
      | none => simp [ha, hl] at h
      | some ys =>
        rcases List.mem_cons.1 hx with rfl | hx
        · exact ⟨y, ha⟩
        · exact ih hl x hx
section
variable {H : Type} {enc : TypeId × Value → H} {P : Program} {w : World} {base : Nat} {spare : Nat → Bool} {held : Bool}
theorem goF_reads {fuel : Nat} {lv : TypeId → Option (List Leaf)}
    (hlv : ∀ t ks cs x, lv t = some ks → DataW.trod enc P w base spare held fuel t cs = some x → All2 leafOk ks cs) (cs : List Value) :
    ∀ (fs : List (Nat × TypeId)) (off : Nat) (ks : List Leaf), goF P lv off fs = some ks →
      (∀ f ∈ fs, ∃ y, DataW.trod enc P w base spare held fuel f.2 ((cs.drop f.1).take (P.cellsOf f.2)) = some y) → cs.length = off + ks.length → All2 leafOk ks (cs.drop off) := by
  intro fs
  induction fs with
  | nil =>
    intro off ks h _ hl
    simp [goF] at h
    subst h
    simp at hl
    rw [List.drop_of_length_le (by omega)]
    exact .nil
  | cons f fs ih =>
    intro off ks h hall hl
    simp only [goF] at h
    split at h
    · rename_i hoff
      split at h
      · rename_i a b ha hb
        split at h
        · rename_i hal
          simp at h
          subst h
          obtain ⟨y, hy⟩ := hall f (by simp)
          have h1 := hlv _ _ _ _ ha hy
          have h2 := ih (off + P.cellsOf f.2) b hb (fun g hg => hall g (by simp [hg])) (by simp at hl; omega)
          have e : cs.drop off = (cs.drop off).take (P.cellsOf f.2) ++ cs.drop (off + P.cellsOf f.2) := by
            rw [← List.drop_drop, List.take_append_drop]
          rw [e]
          rw [hoff] at h1
          exact h1.append h2
        · cases h
      · cases h
    · cases h
theorem trod_leaves : ∀ (m fuel : Nat) (t : TypeId) (ks : List Leaf) (cs : List Value) (x : DataW H × List MemPlace),
    leaves P m t = some ks → DataW.trod enc P w base spare held fuel t cs = some x → All2 leafOk ks cs := by
  intro m
  induction m with
  | zero => intro fuel t ks cs x h; simp [leaves] at h
  | succ m ih =>
    intro fuel t ks cs x h hx
    cases fuel with
    | zero => simp [DataW.trod] at hx
    | succ fuel =>
      simp only [leaves] at h
      split at h
      · rename_i hu
        simp at h
        subst h
        simp only [DataW.trod, hu] at hx
        split at hx <;> first | (rename_i h1 h2; injection h1; done) | skip
        all_goals first
          | (rename_i h1; cases h1; done)
          | exact .cons ⟨_, rfl⟩ .nil
          | (cases hx; done)
          | (simp_all; done)
      · rename_i k hu
        simp at h
        subst h
        simp only [DataW.trod, hu] at hx
        split at hx <;> simp_all
        obtain ⟨⟨rfl, hw⟩, _⟩ := hx
        exact .cons ⟨_, rfl, hw⟩ .nil
      · rename_i fs hu
        simp only [Option.bind_eq_some_iff] at h
        obtain ⟨ks', hk, h⟩ := h
        split at h
        · rename_i hkl
          simp at h
          subst h
          simp only [DataW.trod, hu] at hx
          split at hx
          · rename_i hlen
            simp only [Option.map_eq_some_iff] at hx
            obtain ⟨xs, hxs, _⟩ := hx
            have := goF_reads (fun t ks cs x h1 h2 => ih fuel t ks cs x h1 h2) cs _ 0 ks' hk (by
              intro f hf
              obtain ⟨g, hg, rfl⟩ := List.mem_map.1 hf
              exact mapM_all hxs g hg) (by omega)
            simpa using this
          · cases hx
        · cases h
      · rename_i n e hu
        simp only [Option.bind_eq_some_iff] at h
        obtain ⟨ks', hk, h⟩ := h
        split at h
        · rename_i hkl
          simp at h
          subst h
          simp only [DataW.trod, hu] at hx
          split at hx
          · rename_i hlen
            simp only [Option.map_eq_some_iff] at hx
            obtain ⟨xs, hxs, _⟩ := hx
            have := goF_reads (fun t ks cs x h1 h2 => ih fuel t ks cs x h1 h2) cs _ 0 ks' hk (by
              intro f hf
              obtain ⟨g, hg, rfl⟩ := List.mem_map.1 hf
              exact mapM_all hxs g hg) (by omega)
            simpa using this
          · cases hx
        · cases h
      · cases h
end

theorem mapM_get {α β : Type} {f : α → Option β} : ∀ {l : List α} {xs : List β}, l.mapM f = some xs → ∀ (j : Nat) (a : α), l[j]? = some a → ∃ y, f a = some y ∧ xs[j]? = some y := by
  intro l
  induction l with
  | nil => intro xs _ j a h; simp at h
  | cons b l ih =>
    intro xs h j a hj
    rw [List.mapM_cons] at h
    cases hb : f b with
    | none => simp [hb] at h
    | some y =>
      cases hl : l.mapM f with
      | none => simp [hb, hl] at h
      | some ys =>
        simp [hb, hl] at h
        subst h
        cases j with
        | zero => simp at hj; subst hj; exact ⟨y, hb, by simp⟩
        | succ j => simp at hj; obtain ⟨z, h1, h2⟩ := ih hl j a hj; exact ⟨z, h1, by simpa using h2⟩

/-- A slice of plain values in memory. -/
def SliceAt (w : World) (A : Option Addr) (n sz : Nat) (ks : List Leaf) : Prop :=
  ∀ i, i < n → ∃ b off, A = some ⟨b, off, none⟩ ∧ b < w.heap.size ∧ ∀ j k, ks[j]? = some k → ∃ v, w.cell? ⟨b, off + (i * sz + j), none⟩ = some v ∧ leafOk k v
theorem cell_lt {w : World} {a : Addr} {v : Value} (h : w.cell? a = some v) : a.block < w.heap.size := by
  rcases Nat.lt_or_ge a.block w.heap.size with hlt | hge
  · exact hlt
  · simp [World.cell?, Array.getElem?_eq_none hge] at h
theorem SliceAt.gr {w w' : World} {A : Option Addr} {n sz : Nat} {ks : List Leaf} (h : SliceAt w A n sz ks) (hg : Gr w w') : SliceAt w' A n sz ks := by
  intro i hi
  obtain ⟨b, off, e, hb, hc⟩ := h i hi
  exact ⟨b, off, e, Nat.lt_of_lt_of_le hb hg.size, fun j k hk => by
    obtain ⟨v, h1, h2⟩ := hc j k hk
    exact ⟨v, (hg.cell (p := ⟨b, off + (i * sz + j), none⟩) hb).trans h1, h2⟩⟩
section
variable {H : Type} {enc : TypeId × Value → H} {P : Program} {w : World}
theorem read_agg {r : Reach} {b0 m : Nat} {t : TypeId} {ks : List Leaf} {v : Value} {d : DataW H} {ps : List MemPlace}
    (hs : (match P.underlying t with | some (.struct _) | some (.array _ _) => true | _ => false) = true) (hk : leaves P m t = some ks)
    (hval : Value.okWide P w r b0 t v) (hd : DataW.Trod enc P w 0 (fun _ => true) true t v d ps) : ∃ cs : List Value, v = .agg cs.toArray ∧ All2 leafOk ks cs := by
  obtain ⟨fuel, hf⟩ := hd
  have hv : ∃ cs, v = .agg cs := by
    unfold Value.okWide at hval
    split at hval
    · obtain ⟨cs, h, _⟩ := hval; exact ⟨cs, h⟩
    · obtain ⟨cs, h, _⟩ := hval; exact ⟨cs, h⟩
    · split at hs
      · simp_all
      · simp_all
      · cases hs
  obtain ⟨cs, rfl⟩ := hv
  exact ⟨cs.toList, by simp, trod_leaves m fuel t ks _ _ hk hf⟩
theorem add_zero_spot (a : Addr) : a.add 0 = a := by simp [Addr.add]
theorem read_slice {r : Reach} {b0 m : Nat} {t e : TypeId} {ks : List Leaf} {v : Value} {d : DataW H} {ps : List MemPlace}
    (ht : P.underlying t = some (.slice e)) (hk : leaves P m e = some ks) (hn : 0 < ks.length) (hsz : P.cellsOf e = ks.length)
    (hval : Value.okWide P w r b0 t v) (hd : DataW.Trod enc P w 0 (fun _ => true) true t v d ps) :
    ∃ A n c, v = .slice A n c ∧ n ≤ c ∧ c ≤ maxLen ∧ SliceAt w A n ks.length ks := by
  obtain ⟨A, n, c, rfl⟩ := okWide_slice ht hval
  obtain ⟨fuel, hf⟩ := hd
  cases fuel with
  | zero => simp [DataW.trod] at hf
  | succ fuel =>
    simp only [Value.cells, DataW.trod, ht] at hf
    split at hf <;> first | (simp_all; done) | skip
    · rename_i h1
      injection h1 with h1
      injection h1 with h1 h2 h3
      subst h1; subst h2; subst h3
      exact ⟨_, _, _, rfl, Nat.le_refl _, by simp [maxLen], fun i hi => by omega⟩
    · rename_i e' a n' c' h0 h1
      injection h0 with h0
      injection h0 with h0
      subst h0
      injection h1 with h1
      injection h1 with h1 h2 h3
      subst h1; subst h2; subst h3
      split at hf
      · rename_i hle
        simp only [Option.bind_eq_some_iff] at hf
        obtain ⟨elems, he, _⟩ := hf
        have hel : ∀ i, i < n → ∃ cs : List Value, World.cells? w 0 (a.add (i * P.cellsOf e)) (P.cellsOf e) = some cs ∧ All2 leafOk ks cs := by
          intro i hi
          obtain ⟨y, hy, _⟩ := mapM_get he i i (by simp [hi])
          simp only [Option.bind_eq_some_iff] at hy
          obtain ⟨cs, h1, h2⟩ := hy
          exact ⟨cs, h1, trod_leaves m fuel e ks cs y hk h2⟩
        refine ⟨_, _, _, rfl, hle.2.1, hle.2.2, fun i hi => ?_⟩
        have hcells : ∀ i, i < n → ∀ j k, ks[j]? = some k → ∃ v, w.cell? ((a.add (i * ks.length)).add j) = some v ∧ leafOk k v := by
          intro i hi j k hkj
          obtain ⟨cs, h1, h2⟩ := hel i hi
          obtain ⟨v, hv, hok⟩ := h2.get j k hkj
          rw [World.cells?, if_pos (Nat.zero_le _), hsz] at h1
          have hj : j < ks.length := by
            rcases Nat.lt_or_ge j ks.length with h | h
            · exact h
            · rw [List.getElem?_eq_none h] at hkj; cases hkj
          obtain ⟨y, h3, h4⟩ := mapM_get h1 j j (by simp [hj])
          rw [hv] at h4
          injection h4 with h4
          subst h4
          exact ⟨_, h3, hok⟩
        have hsp : a.spot = none := by
          obtain ⟨k, hk0⟩ : ∃ k, ks[0]? = some k := ⟨ks[0], List.getElem?_eq_getElem hn⟩
          obtain ⟨v, h1, _⟩ := hcells 0 (by omega) 0 k hk0
          rw [Nat.zero_mul, add_zero_spot, add_zero_spot] at h1
          unfold World.cell? at h1
          split at h1
          · cases hs : a.spot with
            | none => rfl
            | some s => simp [hs] at h1
          · cases h1
        have hadd : ∀ q, a.add q = ⟨a.block, a.off + q, none⟩ := by
          intro q
          unfold Addr.add
          split
          · rename_i h0; subst h0; cases a; simp_all
          · rfl
        have hadd2 : ∀ i j, (a.add (i * ks.length)).add j = ⟨a.block, a.off + (i * ks.length + j), none⟩ := by
          intro i j
          rw [hadd]
          unfold Addr.add
          split
          · rename_i h0; subst h0; rfl
          · simp [Nat.add_assoc]
        obtain ⟨k0, hk0⟩ : ∃ k, ks[0]? = some k := ⟨ks[0], List.getElem?_eq_getElem hn⟩
        obtain ⟨v0, hv0, _⟩ := hcells i hi 0 k0 hk0
        refine ⟨a.block, a.off, by rw [← hsp], ?_, fun j k hkj => ?_⟩
        · rw [hadd2] at hv0; exact cell_lt (a := ⟨a.block, _, none⟩) hv0
        · obtain ⟨v, h1, h2⟩ := hcells i hi j k hkj
          rw [hadd2] at h1
          exact ⟨v, h1, h2⟩
      · cases hf
theorem read_sliceC {r : Reach} {b0 m : Nat} {t e : TypeId} {ks : List Leaf} {v : Value} {d : DataW H} {ps : List MemPlace}
    (ht : P.underlying t = some (.slice e)) (hk : leaves P m e = some ks) (hn : 0 < ks.length) (hsz : P.cellsOf e = ks.length)
    (hval : Value.okWide P w r b0 t v) (hd : DataW.Trod enc P w 0 (fun _ => true) true t v d ps) :
    ∃ A n c, v = .slice A n c ∧ n ≤ c ∧ c ≤ maxLen ∧ SliceAt w A c ks.length ks := by
  obtain ⟨A, n, c, rfl⟩ := okWide_slice ht hval
  obtain ⟨fuel, hf⟩ := hd
  cases fuel with
  | zero => simp [DataW.trod] at hf
  | succ fuel =>
    simp only [Value.cells, DataW.trod, ht] at hf
    split at hf <;> first | (simp_all; done) | skip
    · rename_i h1
      injection h1 with h1
      injection h1 with h1 h2 h3
      subst h1; subst h2; subst h3
      exact ⟨_, _, _, rfl, Nat.le_refl _, by simp [maxLen], fun i hi => by omega⟩
    · rename_i e' a n' c' h0 h1
      injection h0 with h0
      injection h0 with h0
      subst h0
      injection h1 with h1
      injection h1 with h1 h2 h3
      subst h1; subst h2; subst h3
      split at hf
      · rename_i hle
        simp only [Option.bind_eq_some_iff] at hf
        obtain ⟨elems, he, hf⟩ := hf
        simp only [if_true, Option.map_eq_some_iff] at hf
        obtain ⟨rest, hre, _⟩ := hf
        have hel : ∀ i, i < c → ∃ cs : List Value, World.cells? w 0 (a.add (i * P.cellsOf e)) (P.cellsOf e) = some cs ∧ All2 leafOk ks cs := by
          intro i hi
          by_cases hin : i < n
          · obtain ⟨y, hy, _⟩ := mapM_get he i i (by simp [hin])
            simp only [Option.bind_eq_some_iff] at hy
            obtain ⟨cs, h1, h2⟩ := hy
            exact ⟨cs, h1, trod_leaves m fuel e ks cs y hk h2⟩
          · obtain ⟨y, hy, _⟩ := mapM_get hre (i - n) (i - n) (by rw [List.getElem?_range]; omega)
            simp only [Option.bind_eq_some_iff] at hy
            obtain ⟨cs, h1, h2⟩ := hy
            rw [show n + (i - n) = i by omega] at h1
            exact ⟨cs, h1, trod_leaves m fuel e ks cs y hk h2⟩
        refine ⟨_, _, _, rfl, hle.2.1, hle.2.2, fun i hi => ?_⟩
        have hcells : ∀ i, i < c → ∀ j k, ks[j]? = some k → ∃ v, w.cell? ((a.add (i * ks.length)).add j) = some v ∧ leafOk k v := by
          intro i hi j k hkj
          obtain ⟨cs, h1, h2⟩ := hel i hi
          obtain ⟨v, hv, hok⟩ := h2.get j k hkj
          rw [World.cells?, if_pos (Nat.zero_le _), hsz] at h1
          have hj : j < ks.length := by
            rcases Nat.lt_or_ge j ks.length with h | h
            · exact h
            · rw [List.getElem?_eq_none h] at hkj; cases hkj
          obtain ⟨y, h3, h4⟩ := mapM_get h1 j j (by simp [hj])
          rw [hv] at h4
          injection h4 with h4
          subst h4
          exact ⟨_, h3, hok⟩
        have hsp : a.spot = none := by
          obtain ⟨k, hk0⟩ : ∃ k, ks[0]? = some k := ⟨ks[0], List.getElem?_eq_getElem hn⟩
          obtain ⟨v, h1, _⟩ := hcells 0 (by omega) 0 k hk0
          rw [Nat.zero_mul, add_zero_spot, add_zero_spot] at h1
          unfold World.cell? at h1
          split at h1
          · cases hs : a.spot with
            | none => rfl
            | some s => simp [hs] at h1
          · cases h1
        have hadd : ∀ q, a.add q = ⟨a.block, a.off + q, none⟩ := by
          intro q
          unfold Addr.add
          split
          · rename_i h0; subst h0; cases a; simp_all
          · rfl
        have hadd2 : ∀ i j, (a.add (i * ks.length)).add j = ⟨a.block, a.off + (i * ks.length + j), none⟩ := by
          intro i j
          rw [hadd]
          unfold Addr.add
          split
          · rename_i h0; subst h0; rfl
          · simp [Nat.add_assoc]
        obtain ⟨k0, hk0⟩ : ∃ k, ks[0]? = some k := ⟨ks[0], List.getElem?_eq_getElem hn⟩
        obtain ⟨v0, hv0, _⟩ := hcells i hi 0 k0 hk0
        refine ⟨a.block, a.off, by rw [← hsp], ?_, fun j k hkj => ?_⟩
        · rw [hadd2] at hv0; exact cell_lt (a := ⟨a.block, _, none⟩) hv0
        · obtain ⟨v, h1, h2⟩ := hcells i hi j k hkj
          rw [hadd2] at h1
          exact ⟨v, h1, h2⟩
      · cases hf
end

/-! ### a law's row -/
section
variable {H : Type} {enc : TypeId × Value → H} {P : Program}
theorem trodAll_below (hl : laidOutB P = true) {W W' : World} (hb : Gr W W') :
    ∀ (ts : List TypeId) (vs : List Value) (ds : List (DataW H)) (ps : List MemPlace), (∀ t ∈ ts, P.readableRec t = true ∧ t < P.types.size) →
      DataW.TrodAll enc P W 0 (fun _ => true) true ts vs ds ps → (∀ x ∈ ps, x.block < W.heap.size) →
      DataW.TrodAll enc P W' 0 (fun b => decide (b < W.heap.size)) true ts vs ds ps
  | [], [], [], _, _, h, _ => h
  | t :: ts, v :: vs, d :: ds, ps, ht, h, hp => by
    obtain ⟨p, q, h1, h2, rfl⟩ := h
    exact ⟨p, q, Below.trod hl (ht t (by simp)).1 (ht t (by simp)).2 h1 hb (fun x hx => hp x (by simp [hx])),
      trodAll_below hl hb ts vs ds q (fun t' h' => ht t' (by simp [h'])) h2 (fun x hx => hp x (by simp [hx])), rfl⟩
  | [], [], _ :: _, _, _, h, _ => h.elim
  | [], _ :: _, _, _, _, h, _ => h.elim
  | _ :: _, [], _, _, _, h, _ => h.elim
  | _ :: _, _ :: _, [], _, _, h, _ => h.elim
theorem post_true (hl : laidOutB P = true) {f : Func} {s : ChangeSpec} {tb : TypeId} (hr : f.resultTypes = #[tb]) (hbt : P.underlying tb = some .bool) (hts : ∀ t ∈ f.params.toList, P.readableRec t = true ∧ t < P.types.size)
    {apart fresh handsOn : Bool} {W W' : World} {args : Array Value} {ds gs : List (DataW H)} {before : List MemPlace} (hv : s.vars = [])
    (hres : (s.fn H (ds ++ gs)).results = [.lit (.bool true)]) (hargs : (s.fn H (ds ++ gs)).args = ds) (hvars : (s.fn H (ds ++ gs)).vars = [])
    (hW : DataW.Whole enc P f.params.toList s.vars apart W args.toList ds gs before) (hg : Gr W W') :
    s.post enc P f apart fresh handsOn false W args (.bool true) W' := by
  have hlt := hW.lt
  have hW0 := hW
  obtain ⟨p, q, h1, h2, rfl, _⟩ := hW
  rw [hv] at h2
  refine ⟨ds, gs, p ++ q, [], p, [], hW0, ?_, ?_, ?_, Below.frame hg _, fun h => by cases h⟩
  · rw [hres, hr]
    exact trodAll_mk1 (shut_bool hbt true)
  · rw [hargs]
    exact trodAll_below hl hg _ _ _ _ hts h1 (fun x hx => hlt x (by simp [hx]))
  · rw [hvars, hv]
    rfl
end

theorem All2.cons_inv {α β : Type} {R : α → β → Prop} {a : α} {l : List α} {m : List β} (h : All2 R (a :: l) m) : ∃ b m', m = b :: m' ∧ R a b ∧ All2 R l m' := by
  cases h with
  | cons h1 h2 => exact ⟨_, _, rfl, h1, h2⟩
theorem All2.nil_inv {α β : Type} {R : α → β → Prop} {m : List β} (h : All2 R [] m) : m = [] := by cases h; rfl
/-- The number in a cell of a slice. -/
def intIn (w : World) (A : Option Addr) (i : Nat) : Int :=
  match A with
  | some a => match w.cell? ⟨a.block, a.off + i, none⟩ with
    | some (.int _ n) => n
    | _ => 0
  | none => 0
theorem intIn_cell {w : World} {b off i : Nat} {v : Value} (h : w.cell? ⟨b, off + i, none⟩ = some v) (hl : leafOk (.i .i64) v) : v = .int .i64 (intIn w (some ⟨b, off, none⟩) i) ∧ I64 (intIn w (some ⟨b, off, none⟩) i) := by
  obtain ⟨n, rfl, hw⟩ := hl
  simp [intIn, h]
  exact I64_wf hw
end Go.Proofs.YtkcmhcgmiflgbaaDoor
/- '==' between structs and arrays of numbers and truth values: field by field. -/
namespace Go.Proofs.YtkcmhcgmiflgbaaDoor
open Go.RowKit

def leafKd : Leaf → Value → Prop
  | .b, v => ∃ x, v = .bool x
  | .i k, v => ∃ n, v = .int k n
def leafEq : Value → Value → Bool
  | .int _ a, .int _ b => a == b
  | .bool a, .bool b => a == b
  | _, _ => false
def aggEq : List Value → List Value → Bool
  | [], [] => true
  | x :: xs, y :: ys => leafEq x y && aggEq xs ys
  | _, _ => false
theorem aggEq_append {a b c d : List Value} (h : a.length = b.length) : aggEq (a ++ c) (b ++ d) = (aggEq a b && aggEq c d) := by
  induction a generalizing b with
  | nil => cases b <;> simp_all [aggEq]
  | cons x a ih => cases b <;> simp_all [aggEq, Bool.and_assoc]
/-- No blank field, at any depth. -/
def named (P : Program) : Nat → TypeId → Bool
  | 0, _ => false
  | m + 1, t =>
    match P.underlying t with
    | some .bool => true
    | some (.int _) => true
    | some (.struct fs) => !P.stoodInHeld t && fs.toList.all fun f => f.name != "_" && named P m f.type
    | some (.array _ e) => named P m e
    | _ => false
def aggT (P : Program) (t : TypeId) : Bool := match P.underlying t with | some (.struct _) | some (.array _ _) => true | _ => false
/-- A value of a type, out of its cells. -/
def ofCells (P : Program) (t : TypeId) (cs : List Value) : Value := if aggT P t then .agg cs.toArray else cs.headD undef
theorem extract_take (xs : Array Value) (off n : Nat) : xs.extract off (off + n) = (List.take n (List.drop off xs.toList)).toArray := by
  apply Array.toList_inj.1
  rw [Array.toList_extract]
  simp [List.extract]
theorem All2.split {α β : Type} {R : α → β → Prop} {a b : List α} {l : List β} (h : All2 R (a ++ b) l) : All2 R a (l.take a.length) ∧ All2 R b (l.drop a.length) := by
  induction a generalizing l with
  | nil => exact ⟨by simpa using All2.nil, by simpa using h⟩
  | cons x a ih =>
    obtain ⟨y, m, rfl, h1, h2⟩ := All2.cons_inv h
    obtain ⟨h3, h4⟩ := ih h2
    exact ⟨.cons h1 h3, h4⟩
section
variable {P : Program} (w : World)
theorem run_part_of {t : TypeId} {xs : Array Value} {off : Nat} {ks : List Leaf} {m : Nat} (hk : leaves P m t = some ks) (hsz : ks.length = P.cellsOf t) (hx : All2 leafKd ks ((xs.toList.drop off).take (P.cellsOf t))) :
    (part t xs off).run P w = .ok (ofCells P t ((xs.toList.drop off).take (P.cellsOf t))) w := by
  cases m with
  | zero => simp [leaves] at hk
  | succ m =>
    simp only [leaves] at hk
    split at hk
    · rename_i hu
      simp at hk
      subst hk
      obtain ⟨v, m', e, _, h2⟩ := All2.cons_inv hx
      have := All2.nil_inv h2
      subst this
      have h0 : xs[off]? = some v := getElem?_of_chunk e
      simp [part, isAgg, run_underlying hu, h0, ofCells, aggT, hu, e]
    · rename_i k hu
      simp at hk
      subst hk
      obtain ⟨v, m', e, _, h2⟩ := All2.cons_inv hx
      have := All2.nil_inv h2
      subst this
      have h0 : xs[off]? = some v := getElem?_of_chunk e
      simp [part, isAgg, run_underlying hu, h0, ofCells, aggT, hu, e]
    · rename_i fs hu
      obtain ⟨i, hi⟩ := info_of_underlying hu
      simp [part, isAgg, run_underlying hu, run_sizeOf w hi, ofCells, aggT, hu]
      exact extract_take xs off _
    · rename_i n e hu
      obtain ⟨i, hi⟩ := info_of_underlying hu
      simp [part, isAgg, run_underlying hu, run_sizeOf w hi, ofCells, aggT, hu]
      exact extract_take xs off _
    · cases hk
end
def EqL (P : Program) (dd m : Nat) (t : TypeId) : Prop :=
  ∀ (w : World) (ks : List Leaf) (xs ys : List Value), leaves P m t = some ks → named P m t = true → All2 leafKd ks xs → All2 leafKd ks ys → (Op.equalIn dd t (ofCells P t xs) (ofCells P t ys)).run P w = .ok (aggEq xs ys) w
section
variable {P : Program} (w : World)
theorem leaves_size : ∀ {m : Nat} {t : TypeId} {ks : List Leaf}, leaves P m t = some ks → aggT P t = true → ks.length = P.cellsOf t := by
  intro m t ks h ha
  cases m with
  | zero => simp [leaves] at h
  | succ m =>
    simp only [leaves] at h
    split at h
    · rename_i hu; simp [aggT, hu] at ha
    · rename_i hu; simp [aggT, hu] at ha
    · simp only [Option.bind_eq_some_iff] at h
      obtain ⟨k', _, h⟩ := h
      split at h
      · simp at h; subst h; assumption
      · cases h
    · simp only [Option.bind_eq_some_iff] at h
      obtain ⟨k', _, h⟩ := h
      split at h
      · simp at h; subst h; assumption
      · cases h
    · cases h
/-- One part. -/
theorem run_one {dd m off : Nat} {t : TypeId} (IH : EqL P dd m t) {ka kb : List Leaf} {xs ys : Array Value} (hk : leaves P m t = some ka) (hn : named P m t = true) (hsz : ka.length = P.cellsOf t)
    (hx : All2 leafKd (ka ++ kb) (xs.toList.drop off)) (hy : All2 leafKd (ka ++ kb) (ys.toList.drop off)) :
    ∃ a b, (part t xs off).run P w = .ok a w ∧ (part t ys off).run P w = .ok b w ∧ (Op.equalIn dd t a b).run P w = .ok (aggEq ((xs.toList.drop off).take (P.cellsOf t)) ((ys.toList.drop off).take (P.cellsOf t))) w ∧
      All2 leafKd kb (xs.toList.drop (off + P.cellsOf t)) ∧ All2 leafKd kb (ys.toList.drop (off + P.cellsOf t)) ∧
      aggEq (xs.toList.drop off) (ys.toList.drop off) = (aggEq ((xs.toList.drop off).take (P.cellsOf t)) ((ys.toList.drop off).take (P.cellsOf t)) && aggEq (xs.toList.drop (off + P.cellsOf t)) (ys.toList.drop (off + P.cellsOf t))) := by
  obtain ⟨hx1, hx2⟩ := hx.split
  obtain ⟨hy1, hy2⟩ := hy.split
  have lx := hx1.length
  have ly := hy1.length
  rw [hsz] at hx1 hx2 hy1 hy2 lx ly
  rw [List.drop_drop] at hx2 hy2
  refine ⟨_, _, run_part_of w hk hsz hx1, run_part_of w hk hsz hy1, IH w ka _ _ hk hn hx1 hy1, hx2, hy2, ?_⟩
  rw [← aggEq_append (by rw [← lx, ← ly]), ← List.drop_drop, ← List.drop_drop, List.take_append_drop, List.take_append_drop]
theorem run_and {r b : Bool} {X : Sem Bool} (h : X.run P w = .ok b w) : (if (!r) = true then pure false else X : Sem Bool).run P w = .ok (r && b) w := by
  cases r <;> simp [h]
theorem run_eqFields_leaves (dd m : Nat) (xs ys : Array Value) : ∀ (fs : List Field) (off : Nat) (ks : List Leaf), (∀ f ∈ fs, f.name ≠ "_" ∧ named P m f.type = true ∧ EqL P dd m f.type) →
    goF P (leaves P m) off (fs.map fun f => (f.offset, f.type)) = some ks → All2 leafKd ks (xs.toList.drop off) → All2 leafKd ks (ys.toList.drop off) →
    (Op.eqFields dd xs ys fs).run P w = .ok (aggEq (xs.toList.drop off) (ys.toList.drop off)) w := by
  intro fs
  induction fs with
  | nil =>
    intro off ks _ h hx hy
    simp [goF] at h
    subst h
    rw [All2.nil_inv hx, All2.nil_inv hy]
    simp [Op.eqFields, aggEq]
  | cons f fs ih =>
    intro off ks hall h hx hy
    simp only [List.map_cons, goF] at h
    split at h
    · rename_i hoff
      split at h
      · rename_i a b ha hb
        split at h
        · rename_i hal
          simp at h
          subst h
          obtain ⟨hn, hnm, IH⟩ := hall f (by simp)
          obtain ⟨u, v, p1, p2, p3, hx2, hy2, e⟩ := run_one w IH ha hnm hal hx hy
          have h2 := ih (off + P.cellsOf f.type) b (fun g hg => hall g (by simp [hg])) hb hx2 hy2
          rw [e]
          simp only [Op.eqFields, hn, ne_eq, not_false_eq_true, if_true, Sem.run_bind, hoff, p1, p2, p3, Result.andThen_ok]
          exact run_and w h2
        · cases h
      · cases h
    · cases h
theorem run_eqItems_leaves (dd m : Nat) {e : TypeId} (hnm : named P m e = true) (IH : EqL P dd m e) (xs ys : Array Value) : ∀ (is : List Nat) (off : Nat) (ks : List Leaf),
    goF P (leaves P m) off (is.map fun i => (i * P.cellsOf e, e)) = some ks → All2 leafKd ks (xs.toList.drop off) → All2 leafKd ks (ys.toList.drop off) →
    (Op.eqItems dd e (P.cellsOf e) xs ys is).run P w = .ok (aggEq (xs.toList.drop off) (ys.toList.drop off)) w := by
  intro is
  induction is with
  | nil =>
    intro off ks h hx hy
    simp [goF] at h
    subst h
    rw [All2.nil_inv hx, All2.nil_inv hy]
    simp [Op.eqItems, aggEq]
  | cons i is ih =>
    intro off ks h hx hy
    simp only [List.map_cons, goF] at h
    split at h
    · rename_i hoff
      split at h
      · rename_i a b ha hb
        split at h
        · rename_i hal
          simp at h
          subst h
          obtain ⟨u, v, p1, p2, p3, hx2, hy2, e'⟩ := run_one w IH ha hnm hal hx hy
          have h2 := ih (off + P.cellsOf e) b hb hx2 hy2
          rw [e']
          simp only [Op.eqItems, Sem.run_bind, hoff, p1, p2, p3, Result.andThen_ok]
          exact run_and w h2
        · cases h
      · cases h
    · cases h
end
theorem run_equalIn_leaves {P : Program} (d : Nat) : ∀ (m : Nat) (t : TypeId), EqL P (d + m) m t
  | 0, t => by intro w ks xs ys h; simp [leaves] at h
  | m + 1, t => by
    intro w ks xs ys h hn hx hy
    simp only [leaves] at h
    simp only [named] at hn
    split at h
    · rename_i hu
      simp at h
      subst h
      obtain ⟨_, _, rfl, ⟨a, rfl⟩, h2⟩ := All2.cons_inv hx
      obtain ⟨_, _, rfl, ⟨b, rfl⟩, h4⟩ := All2.cons_inv hy
      rw [All2.nil_inv h2, All2.nil_inv h4]
      have := run_equalIn_bool' w (d + m) t a b hu
      rw [show d + (m + 1) = d + m + 1 from rfl]
      simpa [ofCells, aggT, hu, aggEq, leafEq] using this
    · rename_i k hu
      simp at h
      subst h
      obtain ⟨_, _, rfl, ⟨a, rfl⟩, h2⟩ := All2.cons_inv hx
      obtain ⟨_, _, rfl, ⟨b, rfl⟩, h4⟩ := All2.cons_inv hy
      rw [All2.nil_inv h2, All2.nil_inv h4]
      have := run_equalIn_int w (d + m) t k k a b hu
      rw [show d + (m + 1) = d + m + 1 from rfl]
      simpa [ofCells, aggT, hu, aggEq, leafEq] using this
    · rename_i fs hu
      simp only [hu, Bool.and_eq_true, Bool.not_eq_true', List.all_eq_true, bne_iff_ne, ne_eq] at hn
      simp only [Option.bind_eq_some_iff] at h
      obtain ⟨ks', hk, h⟩ := h
      split at h
      · simp at h
        subst h
        have hfs : P.fieldsOf t = fs := by simp [Program.fieldsOf, hu]
        have := run_eqFields_leaves w (d + m) m xs.toArray ys.toArray fs.toList 0 ks' (fun f hf => ⟨(hn.2 f hf).1, (hn.2 f hf).2, run_equalIn_leaves d m f.type⟩) hk (by simpa using hx) (by simpa using hy)
        simp only [ofCells, aggT, hu, if_true]
        rw [show d + (m + 1) = (d + m) + 1 from rfl, run_equalIn_struct w (d + m) t _ _ (by rw [hfs]; exact hu) hn.1, hfs]
        simpa using this
      · cases h
    · rename_i n e hu
      simp only [hu] at hn
      simp only [Option.bind_eq_some_iff] at h
      obtain ⟨ks', hk, h⟩ := h
      split at h
      · simp at h
        subst h
        have hpe : ∃ i, P.info? e = some i := by
          cases m with
          | zero => simp [named] at hn
          | succ m' =>
            simp only [named] at hn
            cases hue : P.underlying e with
            | none => simp [hue] at hn
            | some _ => exact info_of_underlying hue
        obtain ⟨i, hi⟩ := hpe
        have := run_eqItems_leaves w (d + m) m hn (run_equalIn_leaves d m e) xs.toArray ys.toArray (List.range n) 0 ks' hk (by simpa using hx) (by simpa using hy)
        simp only [ofCells, aggT, hu, if_true]
        rw [show d + (m + 1) = (d + m) + 1 from rfl, run_equalIn_array w (d + m) _ _ hu hi]
        simpa using this
      · cases h
    · cases h
/-- '==', '!=' between two structs or arrays. -/
theorem run_eql_leaves {P : Program} {m : Nat} (hm : m ≤ 10000) {t : TypeId} {ks : List Leaf} (hk : leaves P m t = some ks) (hn : named P m t = true) (ha : aggT P t = true) {xs ys : List Value} (hx : All2 leafKd ks xs) (hy : All2 leafKd ks ys) (w : World) :
    (binOp .eql t (.agg xs.toArray) (.agg ys.toArray)).run P w = .ok (.bool (aggEq xs ys)) w := by
  have := run_equalIn_leaves (P := P) (10000 - m) m t w ks xs ys hk hn hx hy
  rw [Nat.sub_add_cancel hm] at this
  simp only [ofCells, ha, if_true] at this
  simp only [binOp]
  simp [Op.equal, Op.maxDepth, this]
theorem run_neq_leaves {P : Program} {m : Nat} (hm : m ≤ 10000) {t : TypeId} {ks : List Leaf} (hk : leaves P m t = some ks) (hn : named P m t = true) (ha : aggT P t = true) {xs ys : List Value} (hx : All2 leafKd ks xs) (hy : All2 leafKd ks ys) (w : World) :
    (binOp .neq t (.agg xs.toArray) (.agg ys.toArray)).run P w = .ok (.bool (!aggEq xs ys)) w := by
  have := run_equalIn_leaves (P := P) (10000 - m) m t w ks xs ys hk hn hx hy
  rw [Nat.sub_add_cancel hm] at this
  simp only [ofCells, ha, if_true] at this
  simp only [binOp]
  simp [Op.equal, Op.maxDepth, this]
theorem All2.b {x : Bool} {l : List Leaf} {m : List Value} (h : All2 leafKd l m) : All2 leafKd (.b :: l) (.bool x :: m) := .cons ⟨_, rfl⟩ h
theorem All2.i {k : IntKind} {x : Int} {l : List Leaf} {m : List Value} (h : All2 leafKd l m) : All2 leafKd (.i k :: l) (.int k x :: m) := .cons ⟨_, rfl⟩ h
end Go.Proofs.YtkcmhcgmiflgbaaDoor

/- How plain arguments (numbers, truth values, structs and arrays of these, slices of these) lie in memory; and that a law's row follows from its walk. -/
import Derived.Test.YtpicmpfcmgocmaaBase
import Derived.ProofKit
namespace Go.Proofs.Ytpicmpfcmgocmaa
open Go.RowKit Go.ChangeShapes Go.WideShapes Go.ChangeAt

inductive Leaf where
  | b
  | i (k : IntKind)
def leafOk : Leaf → Value → Prop
  | .b, v => ∃ x, v = .bool x
  | .i k, v => ∃ n, v = .int k n ∧ (Lit.int k n).wf = true
def goF (P : Program) (lv : TypeId → Option (List Leaf)) : Nat → List (Nat × TypeId) → Option (List Leaf)
  | _, [] => some []
  | off, f :: fs =>
    if f.1 = off then
      match lv f.2, goF P lv (off + P.cellsOf f.2) fs with
      | some a, some b => if a.length = P.cellsOf f.2 then some (a ++ b) else none
      | _, _ => none
    else none
def leaves (P : Program) : Nat → TypeId → Option (List Leaf)
  | 0, _ => none
  | m + 1, t =>
    match P.underlying t with
    | some .bool => some [.b]
    | some (.int k) => some [.i k]
    | some (.struct fs) => (goF P (leaves P m) 0 (fs.toList.map fun f => (f.offset, f.type))).bind fun ks => if ks.length = P.cellsOf t then some ks else none
    | some (.array n e) => (goF P (leaves P m) 0 ((List.range n).map fun i => (i * P.cellsOf e, e))).bind fun ks => if ks.length = P.cellsOf t then some ks else none
    | _ => none
inductive All2 {α β : Type} (R : α → β → Prop) : List α → List β → Prop where
  | nil : All2 R [] []
  | cons {a b l m} : R a b → All2 R l m → All2 R (a :: l) (b :: m)
theorem All2.length {α β : Type} {R : α → β → Prop} {l : List α} {m : List β} (h : All2 R l m) : l.length = m.length := by
  induction h with
  | nil => rfl
  | cons _ _ ih => simp [ih]
theorem All2.append {α β : Type} {R : α → β → Prop} {l l' : List α} {m m' : List β} (h : All2 R l m) (h' : All2 R l' m') : All2 R (l ++ l') (m ++ m') := by
  induction h with
  | nil => exact h'
  | cons hr _ ih => exact .cons hr ih
theorem All2.get {α β : Type} {R : α → β → Prop} {l : List α} {m : List β} (h : All2 R l m) : ∀ (i : Nat) (a : α), l[i]? = some a → ∃ b, m[i]? = some b ∧ R a b := by
  induction h with
  | nil => intro i a h; simp at h
  | cons hr _ ih =>
    intro i a h
    cases i with
    | zero => simp at h; subst h; exact ⟨_, rfl, hr⟩
    | succ i => simp at h ⊢; exact ih i a h

theorem mapM_all {α β : Type} {f : α → Option β} : ∀ {l : List α} {xs : List β}, l.mapM f = some xs → ∀ x ∈ l, ∃ y, f x = some y := by
  intro l
  induction l with
  | nil => intro xs _ x hx; cases hx
  | cons a l ih =>
    intro xs h x hx
    rw [List.mapM_cons] at h
    cases ha : f a with
    | none => simp [ha] at h
    | some y =>
      cases hl : l.mapM f with
      | none => simp [ha, hl] at h
      | some ys =>
        rcases List.mem_cons.1 hx with rfl | hx
        · exact ⟨y, ha⟩
        · exact ih hl x hx
section
variable {H : Type} {enc : TypeId × Value → H} {P : Program} {w : World} {base : Nat} {spare : Nat → Bool} {held : Bool}
theorem goF_reads {fuel : Nat} {lv : TypeId → Option (List Leaf)}
    (hlv : ∀ t ks cs x, lv t = some ks → DataW.trod enc P w base spare held fuel t cs = some x → All2 leafOk ks cs) (cs : List Value) :
    ∀ (fs : List (Nat × TypeId)) (off : Nat) (ks : List Leaf), goF P lv off fs = some ks →
      (∀ f ∈ fs, ∃ y, DataW.trod enc P w base spare held fuel f.2 ((cs.drop f.1).take (P.cellsOf f.2)) = some y) → cs.length = off + ks.length → All2 leafOk ks (cs.drop off) := by
  intro fs
  induction fs with
  | nil =>
    intro off ks h _ hl
    simp [goF] at h
    subst h
    simp at hl
    rw [List.drop_of_length_le (by omega)]
    exact .nil
  | cons f fs ih =>
    intro off ks h hall hl
    simp only [goF] at h
    split at h
    · rename_i hoff
      split at h
      · rename_i a b ha hb
        split at h
        · rename_i hal
          simp at h
          subst h
          obtain ⟨y, hy⟩ := hall f (by simp)
          have h1 := hlv _ _ _ _ ha hy
          have h2 := ih (off + P.cellsOf f.2) b hb (fun g hg => hall g (by simp [hg])) (by simp at hl; omega)
          have e : cs.drop off = (cs.drop off).take (P.cellsOf f.2) ++ cs.drop (off + P.cellsOf f.2) := by
            rw [← List.drop_drop, List.take_append_drop]
          rw [e]
          rw [hoff] at h1
          exact h1.append h2
        · cases h
      · cases h
    · cases h
theorem trod_leaves : ∀ (m fuel : Nat) (t : TypeId) (ks : List Leaf) (cs : List Value) (x : DataW H × List MemPlace),
    leaves P m t = some ks → DataW.trod enc P w base spare held fuel t cs = some x → All2 leafOk ks cs := by
  intro m
  induction m with
  | zero => intro fuel t ks cs x h; simp [leaves] at h
  | succ m ih =>
    intro fuel t ks cs x h hx
    cases fuel with
    | zero => simp [DataW.trod] at hx
    | succ fuel =>
      simp only [leaves] at h
      split at h
      · rename_i hu
        simp at h
        subst h
        simp only [DataW.trod, hu] at hx
        split at hx <;> first | (rename_i h1 h2; injection h1; done) | skip
        all_goals first
          | (rename_i h1; cases h1; done)
          | exact .cons ⟨_, rfl⟩ .nil
          | (cases hx; done)
          | (simp_all; done)
      · rename_i k hu
        simp at h
        subst h
        simp only [DataW.trod, hu] at hx
        split at hx <;> simp_all
        obtain ⟨⟨rfl, hw⟩, _⟩ := hx
        exact .cons ⟨_, rfl, hw⟩ .nil
      · rename_i fs hu
        simp only [Option.bind_eq_some_iff] at h
        obtain ⟨ks', hk, h⟩ := h
        split at h
        · rename_i hkl
          simp at h
          subst h
          simp only [DataW.trod, hu] at hx
          split at hx
          · rename_i hlen
            simp only [Option.map_eq_some_iff] at hx
            obtain ⟨xs, hxs, _⟩ := hx
            have := goF_reads (fun t ks cs x h1 h2 => ih fuel t ks cs x h1 h2) cs _ 0 ks' hk (by
              intro f hf
              obtain ⟨g, hg, rfl⟩ := List.mem_map.1 hf
              exact mapM_all hxs g hg) (by omega)
            simpa using this
          · cases hx
        · cases h
      · rename_i n e hu
        simp only [Option.bind_eq_some_iff] at h
        obtain ⟨ks', hk, h⟩ := h
        split at h
        · rename_i hkl
          simp at h
          subst h
          simp only [DataW.trod, hu] at hx
          split at hx
          · rename_i hlen
            simp only [Option.map_eq_some_iff] at hx
            obtain ⟨xs, hxs, _⟩ := hx
            have := goF_reads (fun t ks cs x h1 h2 => ih fuel t ks cs x h1 h2) cs _ 0 ks' hk (by
              intro f hf
              obtain ⟨g, hg, rfl⟩ := List.mem_map.1 hf
              exact mapM_all hxs g hg) (by omega)
            simpa using this
          · cases hx
        · cases h
      · cases h
end

theorem mapM_get {α β : Type} {f : α → Option β} : ∀ {l : List α} {xs : List β}, l.mapM f = some xs → ∀ (j : Nat) (a : α), l[j]? = some a → ∃ y, f a = some y ∧ xs[j]? = some y := by
  intro l
  induction l with
  | nil => intro xs _ j a h; simp at h
  | cons b l ih =>
    intro xs h j a hj
    rw [List.mapM_cons] at h
    cases hb : f b with
    | none => simp [hb] at h
    | some y =>
      cases hl : l.mapM f with
      | none => simp [hb, hl] at h
      | some ys =>
        simp [hb, hl] at h
        subst h
        cases j with
        | zero => simp at hj; subst hj; exact ⟨y, hb, by simp⟩
        | succ j => simp at hj; obtain ⟨z, h1, h2⟩ := ih hl j a hj; exact ⟨z, h1, by simpa using h2⟩

/-- A slice of plain values in memory. -/
def SliceAt (w : World) (A : Option Addr) (n sz : Nat) (ks : List Leaf) : Prop :=
  ∀ i, i < n → ∃ b off, A = some ⟨b, off, none⟩ ∧ b < w.heap.size ∧ ∀ j k, ks[j]? = some k → ∃ v, w.cell? ⟨b, off + (i * sz + j), none⟩ = some v ∧ leafOk k v
theorem cell_lt {w : World} {a : Addr} {v : Value} (h : w.cell? a = some v) : a.block < w.heap.size := by
  rcases Nat.lt_or_ge a.block w.heap.size with hlt | hge
  · exact hlt
  · simp [World.cell?, Array.getElem?_eq_none hge] at h
theorem SliceAt.gr {w w' : World} {A : Option Addr} {n sz : Nat} {ks : List Leaf} (h : SliceAt w A n sz ks) (hg : Gr w w') : SliceAt w' A n sz ks := by
  intro i hi
  obtain ⟨b, off, e, hb, hc⟩ := h i hi
  exact ⟨b, off, e, Nat.lt_of_lt_of_le hb hg.size, fun j k hk => by
    obtain ⟨v, h1, h2⟩ := hc j k hk
    exact ⟨v, (hg.cell (p := ⟨b, off + (i * sz + j), none⟩) hb).trans h1, h2⟩⟩
section
variable {H : Type} {enc : TypeId × Value → H} {P : Program} {w : World}
theorem read_agg {r : Reach} {b0 m : Nat} {t : TypeId} {ks : List Leaf} {v : Value} {d : DataW H} {ps : List MemPlace}
    (hs : (match P.underlying t with | some (.struct _) | some (.array _ _) => true | _ => false) = true) (hk : leaves P m t = some ks)
    (hval : Value.okWide P w r b0 t v) (hd : DataW.Trod enc P w 0 (fun _ => true) true t v d ps) : ∃ cs : List Value, v = .agg cs.toArray ∧ All2 leafOk ks cs := by
  obtain ⟨fuel, hf⟩ := hd
  have hv : ∃ cs, v = .agg cs := by
    unfold Value.okWide at hval
    split at hval
    · obtain ⟨cs, h, _⟩ := hval; exact ⟨cs, h⟩
    · obtain ⟨cs, h, _⟩ := hval; exact ⟨cs, h⟩
    · split at hs
      · simp_all
      · simp_all
      · cases hs
  obtain ⟨cs, rfl⟩ := hv
  exact ⟨cs.toList, by simp, trod_leaves m fuel t ks _ _ hk hf⟩
theorem add_zero_spot (a : Addr) : a.add 0 = a := by simp [Addr.add]
theorem read_slice {r : Reach} {b0 m : Nat} {t e : TypeId} {ks : List Leaf} {v : Value} {d : DataW H} {ps : List MemPlace}
    (ht : P.underlying t = some (.slice e)) (hk : leaves P m e = some ks) (hn : 0 < ks.length) (hsz : P.cellsOf e = ks.length)
    (hval : Value.okWide P w r b0 t v) (hd : DataW.Trod enc P w 0 (fun _ => true) true t v d ps) :
    ∃ A n c, v = .slice A n c ∧ n ≤ c ∧ c ≤ maxLen ∧ SliceAt w A n ks.length ks := by
  obtain ⟨A, n, c, rfl⟩ := okWide_slice ht hval
  obtain ⟨fuel, hf⟩ := hd
  cases fuel with
  | zero => simp [DataW.trod] at hf
  | succ fuel =>
    simp only [Value.cells, DataW.trod, ht] at hf
    split at hf <;> first | (simp_all; done) | skip
    · rename_i h1
      injection h1 with h1
      injection h1 with h1 h2 h3
      subst h1; subst h2; subst h3
      exact ⟨_, _, _, rfl, Nat.le_refl _, by simp [maxLen], fun i hi => by omega⟩
    · rename_i e' a n' c' h0 h1
      injection h0 with h0
      injection h0 with h0
      subst h0
      injection h1 with h1
      injection h1 with h1 h2 h3
      subst h1; subst h2; subst h3
      split at hf
      · rename_i hle
        simp only [Option.bind_eq_some_iff] at hf
        obtain ⟨elems, he, _⟩ := hf
        have hel : ∀ i, i < n → ∃ cs : List Value, World.cells? w 0 (a.add (i * P.cellsOf e)) (P.cellsOf e) = some cs ∧ All2 leafOk ks cs := by
          intro i hi
          obtain ⟨y, hy, _⟩ := mapM_get he i i (by simp [hi])
          simp only [Option.bind_eq_some_iff] at hy
          obtain ⟨cs, h1, h2⟩ := hy
          exact ⟨cs, h1, trod_leaves m fuel e ks cs y hk h2⟩
        refine ⟨_, _, _, rfl, hle.2.1, hle.2.2, fun i hi => ?_⟩
        have hcells : ∀ i, i < n → ∀ j k, ks[j]? = some k → ∃ v, w.cell? ((a.add (i * ks.length)).add j) = some v ∧ leafOk k v := by
          intro i hi j k hkj
          obtain ⟨cs, h1, h2⟩ := hel i hi
          obtain ⟨v, hv, hok⟩ := h2.get j k hkj
          rw [World.cells?, if_pos (Nat.zero_le _), hsz] at h1
          have hj : j < ks.length := by
            rcases Nat.lt_or_ge j ks.length with h | h
            · exact h
            · rw [List.getElem?_eq_none h] at hkj; cases hkj
          obtain ⟨y, h3, h4⟩ := mapM_get h1 j j (by simp [hj])
          rw [hv] at h4
          injection h4 with h4
          subst h4
          exact ⟨_, h3, hok⟩
        have hsp : a.spot = none := by
          obtain ⟨k, hk0⟩ : ∃ k, ks[0]? = some k := ⟨ks[0], List.getElem?_eq_getElem hn⟩
          obtain ⟨v, h1, _⟩ := hcells 0 (by omega) 0 k hk0
          rw [Nat.zero_mul, add_zero_spot, add_zero_spot] at h1
          unfold World.cell? at h1
          split at h1
          · cases hs : a.spot with
            | none => rfl
            | some s => simp [hs] at h1
          · cases h1
        have hadd : ∀ q, a.add q = ⟨a.block, a.off + q, none⟩ := by
          intro q
          unfold Addr.add
          split
          · rename_i h0; subst h0; cases a; simp_all
          · rfl
        have hadd2 : ∀ i j, (a.add (i * ks.length)).add j = ⟨a.block, a.off + (i * ks.length + j), none⟩ := by
          intro i j
          rw [hadd]
          unfold Addr.add
          split
          · rename_i h0; subst h0; rfl
          · simp [Nat.add_assoc]
        obtain ⟨k0, hk0⟩ : ∃ k, ks[0]? = some k := ⟨ks[0], List.getElem?_eq_getElem hn⟩
        obtain ⟨v0, hv0, _⟩ := hcells i hi 0 k0 hk0
        refine ⟨a.block, a.off, by rw [← hsp], ?_, fun j k hkj => ?_⟩
        · rw [hadd2] at hv0; exact cell_lt (a := ⟨a.block, _, none⟩) hv0
        · obtain ⟨v, h1, h2⟩ := hcells i hi j k hkj
          rw [hadd2] at h1
          exact ⟨v, h1, h2⟩
      · cases hf
end

/-! ### a law's row -/
section
variable {H : Type} {enc : TypeId × Value → H} {P : Program}
theorem trodAll_below (hl : laidOutB P = true) {W W' : World} (hb : Gr W W') :
    ∀ (ts : List TypeId) (vs : List Value) (ds : List (DataW H)) (ps : List MemPlace), (∀ t ∈ ts, P.readableRec t = true ∧ t < P.types.size) →
      DataW.TrodAll enc P W 0 (fun _ => true) true ts vs ds ps → (∀ x ∈ ps, x.block < W.heap.size) →
      DataW.TrodAll enc P W' 0 (fun b => decide (b < W.heap.size)) true ts vs ds ps
  | [], [], [], _, _, h, _ => h
  | t :: ts, v :: vs, d :: ds, ps, ht, h, hp => by
    obtain ⟨p, q, h1, h2, rfl⟩ := h
    exact ⟨p, q, Below.trod hl (ht t (by simp)).1 (ht t (by simp)).2 h1 hb (fun x hx => hp x (by simp [hx])),
      trodAll_below hl hb ts vs ds q (fun t' h' => ht t' (by simp [h'])) h2 (fun x hx => hp x (by simp [hx])), rfl⟩
  | [], [], _ :: _, _, _, h, _ => h.elim
  | [], _ :: _, _, _, _, h, _ => h.elim
  | _ :: _, [], _, _, _, h, _ => h.elim
  | _ :: _, _ :: _, [], _, _, h, _ => h.elim
theorem post_true (hl : laidOutB P = true) {f : Func} {s : ChangeSpec} {tb : TypeId} (hr : f.resultTypes = #[tb]) (hbt : P.underlying tb = some .bool) (hts : ∀ t ∈ f.params.toList, P.readableRec t = true ∧ t < P.types.size)
    {apart fresh handsOn : Bool} {W W' : World} {args : Array Value} {ds gs : List (DataW H)} {before : List MemPlace} (hv : s.vars = [])
    (hres : (s.fn H (ds ++ gs)).results = [.lit (.bool true)]) (hargs : (s.fn H (ds ++ gs)).args = ds) (hvars : (s.fn H (ds ++ gs)).vars = [])
    (hW : DataW.Whole enc P f.params.toList s.vars apart W args.toList ds gs before) (hg : Gr W W') :
    s.post enc P f apart fresh handsOn false W args (.bool true) W' := by
  have hlt := hW.lt
  have hW0 := hW
  obtain ⟨p, q, h1, h2, rfl, _⟩ := hW
  rw [hv] at h2
  refine ⟨ds, gs, p ++ q, [], p, [], hW0, ?_, ?_, ?_, Below.frame hg _, fun h => by cases h⟩
  · rw [hres, hr]
    exact trodAll_mk1 (shut_bool hbt true)
  · rw [hargs]
    exact trodAll_below hl hg _ _ _ _ hts h1 (fun x hx => hlt x (by simp [hx]))
  · rw [hvars, hv]
    rfl
end

theorem All2.cons_inv {α β : Type} {R : α → β → Prop} {a : α} {l : List α} {m : List β} (h : All2 R (a :: l) m) : ∃ b m', m = b :: m' ∧ R a b ∧ All2 R l m' := by
  cases h with
  | cons h1 h2 => exact ⟨_, _, rfl, h1, h2⟩
theorem All2.nil_inv {α β : Type} {R : α → β → Prop} {m : List β} (h : All2 R [] m) : m = [] := by cases h; rfl
theorem own : ownKnob Try.prog.godebug = none := by kernel_rfl
theorem laidOut : laidOutB Try.prog = true := by kernel_rfl
/-- The number in a cell of a slice. -/
def intIn (w : World) (A : Option Addr) (i : Nat) : Int :=
  match A with
  | some a => match w.cell? ⟨a.block, a.off + i, none⟩ with
    | some (.int _ n) => n
    | _ => 0
  | none => 0
theorem intIn_cell {w : World} {b off i : Nat} {v : Value} (h : w.cell? ⟨b, off + i, none⟩ = some v) (hl : leafOk (.i .i64) v) : v = .int .i64 (intIn w (some ⟨b, off, none⟩) i) ∧ I64 (intIn w (some ⟨b, off, none⟩) i) := by
  obtain ⟨n, rfl, hw⟩ := hl
  simp [intIn, h]
  exact I64_wf hw
end Go.Proofs.Ytpicmpfcmgocmaa

/- Rows in order; rows that are handed on, to be turned in place; rows that are appended to rows. -/
import Derived.Test.YtkcmhcgmiflgbaaDoorGf
import Derived.Sort.Statements
import Derived.IntWalk
namespace Go.Proofs.YtkcmhcgmiflgbaaDoor
open Go Go.Sort

/-! orders in which several things may stand at one place: sorting that keeps the order of those -/
section
variable {α : Type} (lt : α → α → Bool)
def eqv (x y : α) : Bool := !lt x y && !lt y x
def SortedL (L : List α) : Prop := L.Pairwise fun x y => lt y x = false
/-- the same things, those of one place in the same order -/
def Same (L L' : List α) : Prop := L'.length = L.length ∧ ∀ x, L'.filter (eqv lt x) = L.filter (eqv lt x)
variable {lt}
theorem Same.refl (L : List α) : Same lt L L := ⟨rfl, fun _ => rfl⟩
theorem Same.symm {L L' : List α} (h : Same lt L L') : Same lt L' L := ⟨h.1.symm, fun x => (h.2 x).symm⟩
theorem Same.trans {L L' L'' : List α} (h : Same lt L L') (k : Same lt L' L'') : Same lt L L'' := ⟨k.1.trans h.1, fun x => (k.2 x).trans (h.2 x)⟩
theorem Same.app {X X' Y Y' : List α} (h : Same lt X X') (k : Same lt Y Y') : Same lt (X ++ Y) (X' ++ Y') :=
  ⟨by simp [h.1, k.1], fun x => by rw [List.filter_append, List.filter_append, h.2, k.2]⟩
theorem eqv_self (hs : SWO lt) (x : α) : eqv lt x x = true := by simp [eqv, hs.irrefl]
theorem Same.mem (hs : SWO lt) {L L' : List α} (h : Same lt L L') {x : α} : x ∈ L' ↔ x ∈ L := by
  have key : ∀ l : List α, x ∈ l ↔ x ∈ l.filter (eqv lt x) := fun l => by simp [List.mem_filter, eqv_self hs]
  rw [key, key L, h.2]
theorem eqv_no (hs : SWO lt) {z x p : α} (h : lt x p = true) (h1 : eqv lt z p = true) (h2 : eqv lt z x = true) : False := by
  simp only [eqv, Bool.and_eq_true, Bool.not_eq_true'] at h1 h2
  rw [hs.ntrans x z p h2.2 h1.1] at h; cases h
/-- two rows of which one is ahead of the other change places -/
theorem Same.turn (hs : SWO lt) {X Y : List α} (h : ∀ x ∈ X, ∀ y ∈ Y, lt y x = true) : Same lt (X ++ Y) (Y ++ X) := by
  refine ⟨by simp; omega, fun z => ?_⟩
  rw [List.filter_append, List.filter_append]
  by_cases hx : X.filter (eqv lt z) = []
  · rw [hx]; simp
  · have hy : Y.filter (eqv lt z) = [] := by
      rw [List.filter_eq_nil_iff]
      intro y hy hz
      obtain ⟨x, hx'⟩ := List.exists_mem_of_ne_nil _ hx
      obtain ⟨h1, h2⟩ := List.mem_filter.1 hx'
      exact eqv_no hs (h x h1 y hy) h2 hz
    rw [hy]; simp
theorem SortedL.app {X Y : List α} : SortedL lt (X ++ Y) ↔ SortedL lt X ∧ SortedL lt Y ∧ ∀ x ∈ X, ∀ y ∈ Y, lt y x = false := List.pairwise_append
theorem sorted_one (x : α) : SortedL lt [x] := List.pairwise_singleton _ _
theorem sorted_take1 (L : List α) : SortedL lt (L.take 1) := by
  cases L with
  | nil => exact List.Pairwise.nil
  | cons x r => exact List.pairwise_singleton _ _
theorem sorted_nil : SortedL lt ([] : List α) := List.Pairwise.nil
/-- there is one such row -/
theorem sorted_uniq (hs : SWO lt) : ∀ {L L' : List α}, SortedL lt L → SortedL lt L' → Same lt L L' → L' = L := by
  intro L
  induction L with
  | nil => intro L' _ _ h; exact List.eq_nil_of_length_eq_zero h.1
  | cons x r ih =>
    intro L' h1 h2 h
    cases L' with
    | nil => have := h.1; simp at this
    | cons y r' =>
      have hx : x ∈ y :: r' := (h.mem hs).2 (by simp)
      have hy : y ∈ x :: r := (h.mem hs).1 (by simp)
      have e1 : lt x y = false := by
        rcases List.mem_cons.1 hx with rfl | hx
        · exact hs.irrefl _
        · exact (List.pairwise_cons.1 h2).1 x hx
      have e2 : lt y x = false := by
        rcases List.mem_cons.1 hy with rfl | hy
        · exact hs.irrefl _
        · exact (List.pairwise_cons.1 h1).1 y hy
      have hxy : eqv lt x y = true := by simp [eqv, e1, e2]
      have hf := h.2 x
      rw [List.filter_cons_of_pos hxy, List.filter_cons_of_pos (eqv_self hs x)] at hf
      have hyx : y = x := (List.cons.inj hf).1
      subst hyx
      rw [ih (List.pairwise_cons.1 h1).2 (List.pairwise_cons.1 h2).2 ⟨by have := h.1; simpa using this, fun z => ?_⟩]
      have hz := h.2 z
      by_cases hzx : eqv lt z y = true
      · rw [List.filter_cons_of_pos hzx, List.filter_cons_of_pos hzx] at hz
        exact (List.cons.inj hz).2
      · rw [List.filter_cons_of_neg hzx, List.filter_cons_of_neg hzx] at hz
        exact hz
/-- one more thing that stands behind those that it is not ahead of -/
theorem sorted_ins (hs : SWO lt) {P Q : List α} {x : α} (h : SortedL lt (P ++ Q)) (hq : ∀ q ∈ Q, lt x q = true) (hp : P = [] ∨ ∃ P' p, P = P' ++ [p] ∧ lt x p = false) :
    SortedL lt (P ++ x :: Q) ∧ Same lt (P ++ Q ++ [x]) (P ++ x :: Q) := by
  obtain ⟨h1, h2, h3⟩ := SortedL.app.1 h
  refine ⟨SortedL.app.2 ⟨h1, List.pairwise_cons.2 ⟨fun q hq' => ?_, h2⟩, ?_⟩, ?_⟩
  · have := hq q hq'
    cases e : lt q x with
    | false => rfl
    | true => have := hs.trans _ _ _ this e; rw [hs.irrefl] at this; cases this
  · intro p hp' y hy
    rcases List.mem_cons.1 hy with rfl | hy
    · rcases hp with rfl | ⟨P', p0, rfl, h0⟩
      · cases hp'
      · rcases List.mem_append.1 hp' with hm | hm
        · have := (SortedL.app.1 h1).2.2 p hm p0 (by simp)
          exact hs.ntrans _ _ _ h0 this
        · simp at hm; subst hm; exact h0
    · exact h3 p hp' y hy
  · rw [List.append_assoc]
    refine (Same.refl P).app ?_
    exact Same.turn (X := Q) (Y := [x]) hs fun q hq' y hy => by simp at hy; subst hy; exact hq q hq'
end
section
variable {α : Type} [Inhabited α]
theorem nth_mid (A B : List α) (x : α) : nth (A ++ x :: B) A.length = x := by simp [nth]
theorem nth_mid' {A B : List α} {x : α} {k : Nat} (h : k = A.length) : nth (A ++ x :: B) k = x := by subst h; exact nth_mid A B x
theorem nth_mem {L : List α} {k : Nat} (h : k < L.length) : nth L k ∈ L := by simp [nth, h]
theorem nth_app2 {A B : List α} {k : Nat} (h : A.length ≤ k) : nth (A ++ B) k = nth B (k - A.length) := by simp [nth, List.getElem?_append_right h]
omit [Inhabited α] in
theorem set_mid (A B : List α) (x y : α) : (A ++ x :: B).set A.length y = A ++ y :: B := by simp
omit [Inhabited α] in
/-- two neighbours change places -/
theorem swap_next {A B : List α} {p x : α} {k : Nat} (h : k = A.length) : ((A ++ p :: x :: B).set (k + 1) p).set k x = A ++ x :: p :: B := by
  subst h
  rw [List.set_append_right _ _ (by omega), show A.length + 1 - A.length = 1 by omega]
  simp
omit [Inhabited α] in
theorem swap_next' {A B : List α} {p x : α} {k : Nat} (h : k = A.length) : ((A ++ p :: x :: B).set k x).set (k + 1) p = A ++ x :: p :: B := by
  subst h
  rw [set_mid, List.set_append_right _ _ (by omega), show A.length + 1 - A.length = 1 by omega]
  simp
omit [Inhabited α] in
/-- a row, parted -/
theorem part_at {L : List α} {k : Nat} (h : k ≤ L.length) : ∃ A B, L = A ++ B ∧ A.length = k := ⟨L.take k, L.drop k, (List.take_append_drop k L).symm, by simp; omega⟩
theorem part_cons {L : List α} (h : 0 < L.length) : L = nth L 0 :: L.tail := by
  cases L with
  | nil => simp at h
  | cons x r => rfl
omit [Inhabited α] in
theorem part_last {L : List α} (h : 0 < L.length) : ∃ A x, L = A ++ [x] := by
  cases e : L.reverse with
  | nil => simp at e; subst e; simp at h
  | cons x r => exact ⟨r.reverse, x, by have := congrArg List.reverse e; simpa using this⟩
/-- things that change places one by one -/
def swapR (L : List α) (a b : Nat) : Nat → List α
  | 0 => L
  | n + 1 => ((swapR L a b n).set (a + n) (nth (swapR L a b n) (b + n))).set (b + n) (nth (swapR L a b n) (a + n))
theorem swapR_len (L : List α) (a b : Nat) : ∀ n, (swapR L a b n).length = L.length := by
  intro n
  induction n with
  | zero => rfl
  | succ n ih => simp [swapR, ih]
theorem snoc_induct {α : Type} {p : List α → Prop} (h0 : p []) (h1 : ∀ l x, p l → p (l ++ [x])) (l : List α) : p l := by
  have : ∀ n (l : List α), l.length = n → p l := by
    intro n
    induction n with
    | zero => intro l h; rw [List.eq_nil_of_length_eq_zero h]; exact h0
    | succ n ih =>
      intro l h
      obtain ⟨A, x, rfl⟩ := part_last (L := l) (by omega)
      exact h1 A x (ih A (by simpa using h))
  exact this l.length l rfl
theorem swapR_part {A M B X Y : List α} {a b : Nat} (ha : a = A.length) : ∀ {X0 Y0 X1 Y1 : List α}, X0.length = Y0.length → X1.length = Y1.length → b = a + (X0 ++ X1).length + M.length → X = X0 ++ X1 → Y = Y0 ++ Y1 →
    swapR (A ++ X ++ M ++ Y ++ B) a b X0.length = A ++ (Y0 ++ X1) ++ M ++ (X0 ++ Y1) ++ B := by
  intro X0
  refine snoc_induct (p := fun X0 => ∀ {Y0 X1 Y1 : List α}, X0.length = Y0.length → X1.length = Y1.length → b = a + (X0 ++ X1).length + M.length → X = X0 ++ X1 → Y = Y0 ++ Y1 →
    swapR (A ++ X ++ M ++ Y ++ B) a b X0.length = A ++ (Y0 ++ X1) ++ M ++ (X0 ++ Y1) ++ B) ?_ ?_ X0
  · intro Y0 X1 Y1 h1 _ _ hX hY
    have : Y0 = [] := List.eq_nil_of_length_eq_zero h1.symm
    subst this
    simp [swapR, hX, hY]
  · intro X0 x ih Y0 X1 Y1 h1 h2 hb hX hY
    obtain ⟨Y0, y, rfl⟩ := part_last (L := Y0) (by simp at h1; omega)
    have h1' : X0.length = Y0.length := by simpa using h1
    have := ih (Y0 := Y0) (X1 := x :: X1) (Y1 := y :: Y1) h1' (by simp [h2]) (by simp at hb ⊢; omega) (by simp [hX]) (by simp [hY])
    simp only [List.length_append, List.length_singleton, swapR, this]
    have e1 : A ++ (Y0 ++ x :: X1) ++ M ++ (X0 ++ y :: Y1) ++ B = (A ++ Y0) ++ x :: (X1 ++ M ++ X0 ++ y :: Y1 ++ B) := by simp
    have e2 : A ++ (Y0 ++ x :: X1) ++ M ++ (X0 ++ y :: Y1) ++ B = (A ++ Y0 ++ x :: X1 ++ M ++ X0) ++ y :: (Y1 ++ B) := by simp
    have l1 : a + X0.length = (A ++ Y0).length := by simp [ha, h1']
    have l2 : b + X0.length = (A ++ Y0 ++ x :: X1 ++ M ++ X0).length := by simp at hb ⊢; omega
    have l3 : b + X0.length = (A ++ Y0 ++ y :: X1 ++ M ++ X0).length := by simp at hb ⊢; omega
    rw [show nth (A ++ (Y0 ++ x :: X1) ++ M ++ (X0 ++ y :: Y1) ++ B) (a + X0.length) = x from by rw [e1, l1]; exact nth_mid _ _ _,
      show nth (A ++ (Y0 ++ x :: X1) ++ M ++ (X0 ++ y :: Y1) ++ B) (b + X0.length) = y from by rw [e2, l2]; exact nth_mid _ _ _]
    rw [e1, l1, set_mid]
    have e3 : A ++ Y0 ++ y :: (X1 ++ M ++ X0 ++ y :: Y1 ++ B) = (A ++ Y0 ++ y :: X1 ++ M ++ X0) ++ y :: (Y1 ++ B) := by simp
    rw [e3, l3, set_mid]
    simp
theorem swapR_all {A M B X Y : List α} {a b n : Nat} (ha : a = A.length) (hn : n = X.length) (hm : n = Y.length) (hb : b = a + X.length + M.length) : swapR (A ++ X ++ M ++ Y ++ B) a b n = A ++ Y ++ M ++ X ++ B := by
  subst hn
  have := swapR_part (A := A) (M := M) (B := B) (X := X) (Y := Y) (a := a) (b := b) ha (X0 := X) (Y0 := Y) (X1 := []) (Y1 := []) hm rfl (by simpa using hb) (by simp) (by simp)
  simpa using this
end
end Go.Proofs.YtkcmhcgmiflgbaaDoor
namespace Go.Proofs.YtkcmhcgmiflgbaaDoor
open Go

/-! rows of one's own that are handed on, to be turned in place -/
section
variable {α : Type}
def RowR (enc : α → List Value) (t : TypeId) (L : List α) (n c : Nat) : ARes where
  P := fun w b F => F b ∧ w.heap[b]? = some (.cells ⟨flatR enc L⟩ t (0, 0))
  keeps := fun w w' b F h hk _ => ⟨h.1, by rw [hk b h.1]; exact h.2⟩
  up := fun w b F F' h hs => ⟨hs _ h.1, h.2⟩
  own := fun w b F h => h.1
  sh := some (n, c)
open Classical in
noncomputable def oneNM (b : Nat) (F : Nat → Prop) : NM := ⟨fun n => if n = 500 then some b else none, fun q => if F q then some 500 else none⟩
variable {enc : α → List Value} {t : TypeId} {L : List α} {n c : Nat}
theorem unp_row {w : World} {b : Nat} {F : Nat → Prop} (hcl : ∀ x, cleanL (enc x) = true) (h : RecvR w (some (RowR enc t L n c)) b F) :
    UnpR w (some (RowR enc t L n c)) b F (oneNM b F) [(500, .rw (.cells ⟨flatR enc L⟩ t))] := by
  obtain ⟨⟨h1, h2⟩, h3, h4⟩ := h
  refine { at_ := by simp [oneNM], nm := ?_, ow1 := ?_, ow2 := ?_, sees := ?_ }
  · intro n q hn
    simp only [oneNM] at hn
    split at hn
    · rename_i e; subst e; cases hn; exact ⟨by decide, by decide, h3, h1⟩
    · cases hn
  · intro q n hn
    simp only [oneNM] at hn
    split at hn
    · cases hn; rename_i e; exact ⟨by decide, by decide, e⟩
    · cases hn
  · intro q hq; exact ⟨500, by simp [oneNM, hq]⟩
  · intro n g hg
    rw [look_cons] at hg
    split at hg
    · rename_i e; subst e; cases hg
      intro b' hb
      simp [oneNM] at hb; subst hb
      exact ⟨_, by simp [oneNM, h1], h2, .cells _ _ (cleanA _ (flatR_clean hcl _))⟩
    · cases hg
theorem pack_row {h : List (Nat × GO)} (hcl : ∀ x, cleanL (enc x) = true) (hl : look h 500 = some (.rw (.cells ⟨flatR enc L⟩ t))) : Packs h 500 [500] (RowR enc t L n c) := by
  intro g w b hs hb
  obtain ⟨o', h1, h2, h3⟩ := hs 500 _ hl b hb
  cases h3 with
  | cells _ _ ha => exact ⟨⟨500, rfl, h1⟩, by rw [h2, cleanL_eq (flatR_clean hcl _) ha]⟩
/-- a row is handed on -/
theorem CallG.row {P : Program} {ng k : Nat} {as : List AV} {Q : List α → Prop} (s : Ct P k (some (RowR enc t L n c)) as fun rs R' => rs = [] ∧ ∃ L', Q L' ∧ R' = some (RowR enc t L' n c)) (hp : Plain P k)
    (hcl : ∀ x, cleanL (enc x) = true) {h : List (Nat × GO)} {ns : List Nat} {gs : List Value} {nm : Nat} {K : Value → List (Nat × GO) → List Nat → Prop} (hl : look h nm = some (.rw (.cells ⟨flatR enc L⟩ t))) (hc : c ≠ 0)
    (ha : All2 (fun x a => a = .v x ∧ clean x = true) gs as) (hK : ∀ L', Q L' → K (.tuple ⟨[]⟩) ((nm, .rw (.cells ⟨flatR enc L'⟩ t)) :: h) ns) :
    CallG P ng k (.slice (some ⟨nm, 0, none⟩) n c :: gs) h ns K := by
  refine .mk hp fun f w args' hB hA => ?_
  obtain ⟨v1, l1, e1, hv1, _⟩ := AR.cons (x' := undef) hA
  have hb : ∃ b, f nm = some b := by
    cases hv1 with
    | slice hn => exact ⟨_, hn⟩
    | sliceZ => exact absurd rfl hc
  obtain ⟨b, hb⟩ := hb
  obtain ⟨o', k1, k2, k3⟩ := hB.sees nm _ hl b hb
  have hcells : w.heap[b]? = some (.cells ⟨flatR enc L⟩ t (0, 0)) := by
    cases k3 with
    | cells _ _ q => rw [k2, cleanL_eq (flatR_clean hcl _) q]
  have hB1 : Before ng f ((nm, .abs (RowR enc t L n c)) :: h) ns w := by
    refine { hB with sees := fun m p hp => ?_ }
    rw [look_cons] at hp
    split at hp
    · rename_i e; subst e; cases hp
      exact ⟨b, fun q => q = b, hb, fun q hq => by rw [hq]; exact k1, rfl, hcells⟩
    · exact hB.sees m p hp
  have ha1 : All2 (GA true ((nm, .abs (RowR enc t L n c)) :: h)) gs as := by
    clear hA e1 s hv1 k1 k2 k3 hB1 hK
    rename_i hh0
    clear hh0
    induction ha with
    | nil => exact .nil
    | cons h1 _ ih => obtain ⟨rfl, h2⟩ := h1; exact .cons (.v h2) ih
  have hcall := CallG.meth (P := P) (ng := ng) (ns := ns) (K := fun v h' ns' => v = .tuple ⟨[]⟩ ∧ ns' = ns ∧ ∃ L', Q L' ∧ h' = (nm, .abs (RowR enc t L' n c)) :: (nm, .abs (RowR enc t L n c)) :: h) s hp true (h := (nm, .abs (RowR enc t L n c)) :: h) (nm := nm)
    (by rw [look_cons, if_pos rfl]) (by show some (n, c) ≠ some (0, 0); intro e; simp at e; exact hc e.2) ha1 (fun rs R' ⟨h1, L', h2, h3⟩ => by
      cases h3; subst h1
      exact ⟨fun _ => rfl, rfl, rfl, L', h2, rfl⟩)
  cases hcall with
  | mk _ sp =>
    refine (sp f w args' hB1 hA).mono ?_
    rintro e w' ⟨v, v', h', ns', g, rfl, ⟨rfl, rfl, L', hQ, rfl⟩, hAf⟩
    refine ⟨_, v', _, _, g, rfl, hK L' hQ, { hAf with sees := fun m p hp => ?_ }⟩
    rw [look_cons] at hp
    split at hp
    · rename_i e; subst e; cases hp
      obtain ⟨b2, F2, q1, q2, q3, q4⟩ := hAf.sees nm (.abs (RowR enc t L' n c)) (by rw [look_cons, if_pos rfl])
      intro b3 hb3
      rw [q1] at hb3; cases hb3
      exact ⟨_, q2 _ q3, q4, .cells _ _ (cleanA _ (flatR_clean hcl _))⟩
    · rename_i e
      exact hAf.sees m p (by rw [look_cons, if_neg e, look_cons, if_neg e]; exact hp)
end
section
variable {α : Type} [Inhabited α] {enc : α → List Value} {sz : Nat} (hsz : ∀ x, (enc x).length = sz) {tk : TK} {l : List α} {k k' o : Nat} {v : Value}
include hsz
theorem rdI0 (e : k' = k) (hk : k < l.length) (hv : partG tk ⟨enc (nth l k)⟩ 0 = some v) : partG tk ⟨flatR enc l⟩ (0 + k' * sz) = some v := by subst e; exact rdG0 hsz hk hv
theorem rdI1 (e : k' = k) (hk : k < l.length) (hv : partG tk ⟨enc (nth l k)⟩ o = some v) : partG tk ⟨flatR enc l⟩ (0 + k' * sz + o) = some v := by subst e; exact rdG1 hsz hk hv
theorem stI {t : TypeId} {i : TK} {u : Value} (x : α) (e : k' = k) (hk : k < l.length) (hu : cellsL u = enc x) (hi : i.size = sz) (h1 : oneL (enc x) = true) : storeIn i u (0 + k' * sz) (.cells ⟨flatR enc l⟩ t (0, 0)) = some (undef, .cells ⟨flatR enc (l.set k x)⟩ t (0, 0)) := by subst e; exact store_flat hsz x hk hu hi h1
end
end Go.Proofs.YtkcmhcgmiflgbaaDoor
namespace Go.Proofs.YtkcmhcgmiflgbaaDoor
open Go Go.Sort
section
variable {α : Type} {lt : α → α → Bool}
/-- two rows in order, each cut in two, the inner parts turned, both halves put in order -/
theorem sym_law (hs : SWO lt) {X1 X2 Y1 Y2 S1 S2 : List α} (hX : SortedL lt (X1 ++ X2)) (hY : SortedL lt (Y1 ++ Y2)) (h1 : ∀ x ∈ X2, ∀ y ∈ Y1, lt y x = true) (h2 : ∀ x ∈ X1, ∀ y ∈ Y2, lt y x = false)
    (k1 : SortedL lt S1) (m1 : Same lt (X1 ++ Y1) S1) (k2 : SortedL lt S2) (m2 : Same lt (X2 ++ Y2) S2) : SortedL lt (S1 ++ S2) ∧ Same lt ((X1 ++ X2) ++ (Y1 ++ Y2)) (S1 ++ S2) := by
  obtain ⟨x1, x2, x3⟩ := SortedL.app.1 hX
  obtain ⟨y1, y2, y3⟩ := SortedL.app.1 hY
  constructor
  · refine SortedL.app.2 ⟨k1, k2, fun u hu v hv => ?_⟩
    rw [m1.mem hs] at hu
    rw [m2.mem hs] at hv
    rcases List.mem_append.1 hu with hu | hu <;> rcases List.mem_append.1 hv with hv | hv
    · exact x3 u hu v hv
    · exact h2 u hu v hv
    · have := h1 v hv u hu
      cases e : lt v u with
      | false => rfl
      | true => have := hs.trans _ _ _ this e; rw [hs.irrefl] at this; cases this
    · exact y3 u hu v hv
  · refine Same.trans ?_ (m1.app m2)
    have := (Same.refl (lt := lt) X1).app ((Same.turn hs h1).app (Same.refl (lt := lt) Y2))
    simpa using this
theorem sorted_app0 {X Y : List α} (h : X.length = 0 ∨ Y.length = 0) (hX : SortedL lt X) (hY : SortedL lt Y) : SortedL lt (X ++ Y) := by
  rcases h with h | h
  · rw [List.eq_nil_of_length_eq_zero h]; simpa using hY
  · rw [List.eq_nil_of_length_eq_zero h]; simpa using hX
theorem turn0 {A X1 X2 Y1 Y2 B : List α} (h : X2.length = 0 ∨ Y1.length = 0) : A ++ (X1 ++ X2) ++ (Y1 ++ Y2) ++ B = A ++ X1 ++ Y1 ++ X2 ++ Y2 ++ B := by
  rcases h with h | h <;> rw [List.eq_nil_of_length_eq_zero h] <;> simp
variable [Inhabited α]
theorem sorted_nth {L : List α} (h : SortedL lt L) (hs : SWO lt) {i j : Nat} (hij : i ≤ j) (hj : j < L.length) : lt (nth L j) (nth L i) = false := by
  rcases Nat.lt_or_ge i j with h1 | h1
  · have := List.pairwise_iff_getElem.1 h i j (by omega) hj h1
    simpa [nth, hj, show i < L.length by omega] using this
  · have : i = j := by omega
    subst this; exact hs.irrefl _
theorem mem_nth {L : List α} {x : α} (h : x ∈ L) : ∃ i, i < L.length ∧ nth L i = x := by
  obtain ⟨i, hi, e⟩ := List.getElem_of_mem h
  exact ⟨i, hi, by simp [nth, hi, e]⟩
omit [Inhabited α] in
theorem sorted_ins2 (hs : SWO lt) {P Q : List α} {x : α} (h : SortedL lt (P ++ Q)) (hp : ∀ p ∈ P, lt p x = true) (hq : ∀ q ∈ Q, lt q x = false) : SortedL lt (P ++ x :: Q) ∧ Same lt ([x] ++ (P ++ Q)) (P ++ x :: Q) := by
  obtain ⟨h1, h2, h3⟩ := SortedL.app.1 h
  constructor
  · refine SortedL.app.2 ⟨h1, List.pairwise_cons.2 ⟨hq, h2⟩, fun p hp' y hy => ?_⟩
    rcases List.mem_cons.1 hy with rfl | hy
    · have := hp p hp'
      cases e : lt y p with
      | false => rfl
      | true => have := hs.trans _ _ _ this e; rw [hs.irrefl] at this; cases this
    · exact h3 p hp' y hy
  · rw [← List.append_assoc, show P ++ x :: Q = (P ++ [x]) ++ Q by simp]
    refine Same.app (Same.turn hs (X := [x]) (Y := P) fun z hz y hy => ?_) (Same.refl Q)
    simp at hz; subst hz; exact hp y hy
theorem take_all {L : List α} {p : Nat} {q : α → Prop} (h : ∀ u, u < p → u < L.length → q (nth L u)) : ∀ x ∈ L.take p, q x := by
  intro x hx
  obtain ⟨i, hi, rfl⟩ := mem_nth hx
  simp at hi
  have e2 : nth (L.take p) i = nth L i := by simp [nth, show i < p by omega]
  rw [e2]; exact h i (by omega) (by omega)
theorem drop_all {L : List α} {p : Nat} {q : α → Prop} (h : ∀ u, p ≤ u → u < L.length → q (nth L u)) : ∀ x ∈ L.drop p, q x := by
  intro x hx
  obtain ⟨i, hi, rfl⟩ := mem_nth hx
  simp at hi
  have e2 : nth (L.drop p) i = nth L (p + i) := by simp [nth]
  rw [e2]; exact h (p + i) (by omega) (by omega)
theorem low_all (hs : SWO lt) {L : List α} (hL : SortedL lt L) {t : Nat} {x : α} (ht : t < L.length) (h : lt (nth L t) x = true) : ∀ u, u < t + 1 → lt (nth L u) x = true := by
  intro u hu
  cases e : lt (nth L u) x with
  | true => rfl
  | false => have := hs.ntrans _ _ _ (sorted_nth hL hs (i := u) (j := t) (by omega) ht) e; rw [h] at this; cases this
theorem high_all (hs : SWO lt) {L : List α} (hL : SortedL lt L) {t : Nat} {x : α} (h : lt (nth L t) x = false) : ∀ u, t ≤ u → u < L.length → lt (nth L u) x = false :=
  fun _ hu hl => hs.ntrans _ _ _ (sorted_nth hL hs hu hl) h
theorem low_all2 (hs : SWO lt) {L : List α} (hL : SortedL lt L) {t : Nat} {x : α} (ht : t < L.length) (h : lt x (nth L t) = false) : ∀ u, u < t + 1 → lt x (nth L u) = false :=
  fun u hu => hs.ntrans _ _ _ h (sorted_nth hL hs (i := u) (j := t) (by omega) ht)
theorem high_all2 (hs : SWO lt) {L : List α} (hL : SortedL lt L) {t : Nat} {x : α} (h : lt x (nth L t) = true) : ∀ u, t ≤ u → u < L.length → lt x (nth L u) = true := by
  intro u hu hl
  cases e : lt x (nth L u) with
  | true => rfl
  | false => have := hs.ntrans _ _ _ e (sorted_nth hL hs hu hl); rw [h] at this; cases this
/-- where the cut stands -/
theorem cut_law (hs : SWO lt) {X Y : List α} {s h : Nat} (hX : SortedL lt X) (hY : SortedL lt Y) (h1 : s ≤ X.length) (h2 : s ≤ h) (h3 : h - s ≤ Y.length)
    (c1 : s = X.length ∨ h = s ∨ lt (nth Y (h - 1 - s)) (nth X s) = true) (c2 : s = 0 ∨ h - s = Y.length ∨ lt (nth Y (h - s)) (nth X (s - 1)) = false) :
    (∀ x ∈ X.drop s, ∀ y ∈ Y.take (h - s), lt y x = true) ∧ (∀ x ∈ X.take s, ∀ y ∈ Y.drop (h - s), lt y x = false) := by
  constructor
  · intro x hx y hy
    obtain ⟨i, hi, rfl⟩ := mem_nth hx
    obtain ⟨j, hj, rfl⟩ := mem_nth hy
    simp at hi hj
    have e1 : nth (X.drop s) i = nth X (s + i) := by simp [nth]
    have e2 : nth (Y.take (h - s)) j = nth Y j := by simp [nth, show j < h - s by omega]
    rw [e1, e2]
    rcases c1 with c1 | c1 | c1
    · omega
    · omega
    · cases e : lt (nth Y j) (nth X (s + i)) with
      | true => rfl
      | false =>
        have a1 := sorted_nth hY hs (i := j) (j := h - 1 - s) (by omega) (by omega)
        have a2 := sorted_nth hX hs (i := s) (j := s + i) (by omega) (by omega)
        have a3 := hs.ntrans _ _ _ a1 e
        have a4 := hs.ntrans _ _ _ a3 a2
        rw [a4] at c1; cases c1
  · intro x hx y hy
    obtain ⟨i, hi, rfl⟩ := mem_nth hx
    obtain ⟨j, hj, rfl⟩ := mem_nth hy
    simp at hi hj
    have e1 : nth (X.take s) i = nth X i := by simp [nth, show i < s by omega]
    have e2 : nth (Y.drop (h - s)) j = nth Y (h - s + j) := by simp [nth]
    rw [e1, e2]
    rcases c2 with c2 | c2 | c2
    · omega
    · omega
    · have a1 := sorted_nth hY hs (i := h - s) (j := h - s + j) (by omega) (by omega)
      have a2 := sorted_nth hX hs (i := i) (j := s - 1) (by omega) (by omega)
      exact hs.ntrans _ _ _ (hs.ntrans _ _ _ a1 c2) a2
end
/-- between which two places a cut stands -/
def Cut2 (f : Nat → Bool) (n : Nat) (q : Nat × Nat) : Prop := q.1 ≤ q.2 ∧ q.2 ≤ n ∧ (∀ u, u < q.1 → f u = false) ∧ (∀ u, q.2 ≤ u → u < n → f u = true)
theorem row_eq {α : Type} {enc : α → List Value} {t : TypeId} {l l' : List α} (h : l = l') : some (GO.rw (.cells ⟨flatR enc l⟩ t (0, 0))) = some (GO.rw (.cells ⟨flatR enc l'⟩ t (0, 0))) := by subst h; rfl
def halfI (x y : Int) : Int := IntKind.i64.wrap ((IntKind.u64.wrap (IntKind.i64.wrap (x + y))).fdiv (2 ^ min (Int.toNat 1) IntKind.u64.bits))
theorem half_eq {x y : Int} (h1 : 0 ≤ x) (h2 : 0 ≤ y) (h3 : x + y ≤ 1000000000000) : halfI x y = (x + y) / 2 := by
  unfold halfI
  rw [IntWalk.i64_in _ (show -9223372036854775808 ≤ x + y ∧ x + y ≤ 9223372036854775807 by omega)]
  have e1 : IntKind.u64.wrap (x + y) = x + y := by
    show (x + y) % (2 ^ 64 : Int) = _
    omega
  rw [e1]
  have e2 : (x + y).fdiv (2 ^ min (Int.toNat 1) IntKind.u64.bits) = (x + y) / 2 := by
    show (x + y).fdiv 2 = _
    rw [Int.fdiv_eq_ediv_of_nonneg _ (by omega)]
  rw [e2, IntWalk.i64_in _ (by omega)]
theorem hideQ {P : Program} {N ng lo : Nat} {tt : List (Nat × TK)} {code : Code} {Q : Exit → St → Prop} {S : St} (h : ∀ Q' : Exit → St → Prop, (∀ e S', Q e S' → Q' e S') → wpG P N ng lo tt code Q' S) : wpG P N ng lo tt code Q S := h Q fun _ _ h => h
theorem wp_seq_i {P : Program} {N ng lo : Nat} {tt : List (Nat × TK)} {a b : Code} {Q : Exit → St → Prop} {S : St} (h : wpG P N ng lo tt a (fun e S' => match e with | .normal => wpG P N ng lo tt b Q S' | e => Q e S') S) : wpG P N ng lo tt (a.seq b) Q S := h
end Go.Proofs.YtkcmhcgmiflgbaaDoor
namespace Go.Proofs.YtkcmhcgmiflgbaaDoor
open Go

/-! rows that are appended to rows -/
theorem putL_app : ∀ (vs b c : List Value), b.length = vs.length → putL vs (b ++ c) = some (vs ++ c) := by
  intro vs
  induction vs with
  | nil => intro b c h; rw [List.eq_nil_of_length_eq_zero h]; cases c <;> rfl
  | cons v vs ih =>
    intro b c h
    cases b with
    | nil => simp at h
    | cons x b =>
      have := ih b c (by simpa using h)
      simp only [List.cons_append, putL, this]
theorem blitL_app : ∀ (a : List Value) (vs b c : List Value), b.length = vs.length → blitL a.length vs (a ++ (b ++ c)) = some (a ++ (vs ++ c)) := by
  intro a
  induction a with
  | nil => intro vs b c h; have := putL_app vs b c h; cases vs <;> simpa only [List.length_nil, List.nil_append, blitL] using this
  | cons x a ih =>
    intro vs b c h
    have := ih vs b c h
    cases vs <;> simp only [List.length_cons, List.cons_append, blitL, this]
section
variable {α : Type} [Inhabited α] {enc : α → List Value} {sz : Nat} (hsz : ∀ x, (enc x).length = sz)
omit [Inhabited α] in
theorem flatR_one (hone : ∀ x, oneL (enc x) = true) (l : List α) : oneL (flatR enc l) = true := by
  induction l with
  | nil => rfl
  | cons x r ih =>
    have key : ∀ (a b : List Value), oneL a = true → oneL b = true → oneL (a ++ b) = true := by
      intro a b ha hb
      induction a with
      | nil => exact hb
      | cons y a ih2 =>
        simp only [List.cons_append, oneL] at ha ⊢
        split at ha
        · exact ih2 ha
        · cases ha
    exact key _ _ (hone x) ih
include hsz
omit [Inhabited α] in
theorem blit_rows {A J Y : List α} (h : Y.length ≤ J.length) : blitL (0 + A.length * sz) (flatR enc Y) (flatR enc (A ++ J)) = some (flatR enc (A ++ Y ++ J.drop Y.length)) := by
  have e1 : 0 + A.length * sz = (flatR enc A).length := by rw [flatR_len hsz]; omega
  have e2 : flatR enc (A ++ J) = flatR enc A ++ (flatR enc (J.take Y.length) ++ flatR enc (J.drop Y.length)) := by rw [← flatR_append, List.take_append_drop, ← flatR_append]
  rw [e1, e2, blitL_app _ _ _ _ (by rw [flatR_len hsz, flatR_len hsz]; simp; rw [Nat.min_eq_left h]), flatR_append, flatR_append, List.append_assoc]
omit [Inhabited α] in
theorem cut_rows {L : List α} {a b : Nat} (h : a + b ≤ L.length) : sliceL (0 + a * sz) (b * sz) (flatR enc L) = some (flatR enc ((L.drop a).take b)) := by
  have e2 : flatR enc L = flatR enc (L.take a) ++ (flatR enc ((L.drop a).take b) ++ flatR enc ((L.drop a).drop b)) := by
    rw [← flatR_append, List.take_append_drop, ← flatR_append, List.take_append_drop]
  have h1 : (flatR enc (L.take a)).length = a * sz := by rw [flatR_len hsz]; simp; rw [Nat.min_eq_left (by omega)]
  have h2 : (flatR enc ((L.drop a).take b)).length = b * sz := by rw [flatR_len hsz]; simp; rw [Nat.min_eq_left (by omega)]
  rw [sliceL_of _ _ _ (by rw [e2]; simp only [List.length_append, h1, h2]; omega)]
  congr 1
  rw [e2, Nat.zero_add, List.drop_left' h1, List.take_left' h2]
omit [Inhabited α] in
theorem cut_win {L : List α} {a b off m : Nat} (h : a + b ≤ L.length) : sliceL (off + a * sz) (b * sz) (repH off ++ (flatR enc L ++ repH m)) = some (flatR enc ((L.drop a).take b)) := by
  have e2 : flatR enc L = flatR enc (L.take a) ++ (flatR enc ((L.drop a).take b) ++ flatR enc ((L.drop a).drop b)) := by
    rw [← flatR_append, List.take_append_drop, ← flatR_append, List.take_append_drop]
  have h1 : (flatR enc (L.take a)).length = a * sz := by rw [flatR_len hsz]; simp; rw [Nat.min_eq_left (by omega)]
  have h2 : (flatR enc ((L.drop a).take b)).length = b * sz := by rw [flatR_len hsz]; simp; rw [Nat.min_eq_left (by omega)]
  have h3 : (repH off ++ flatR enc (L.take a)).length = off + a * sz := by rw [List.length_append, repH_len, h1]
  have e3 : repH off ++ (flatR enc L ++ repH m) = (repH off ++ flatR enc (L.take a)) ++ (flatR enc ((L.drop a).take b) ++ (flatR enc ((L.drop a).drop b) ++ repH m)) := by rw [e2]; simp
  rw [sliceL_of _ _ _ (by rw [e3]; simp only [List.length_append, repH_len, h1, h2]; omega)]
  congr 1
  rw [e3, List.drop_left' h3, List.take_left' h2]
end
theorem app_ne {α : Type} {P : List α} {p : α} : P ++ [p] ≠ [] := by simp
theorem row_pre {α : Type} {L P R : List α} (h : L = P ++ R) {a m : Nat} (ha : a = 0) (hm : m = P.length) : (L.drop a).take m = P := by
  subst h; subst ha; subst hm; rw [List.drop_zero, List.take_left]
theorem row_suf {α : Type} {L P Q R : List α} (h : L = P ++ Q ++ R) {a m : Nat} (ha : a = P.length) (hm : m = Q.length) : (L.drop a).take m = Q := by
  subst h; subst ha; subst hm; rw [List.append_assoc, List.drop_left, List.take_left]
/-- where a slice of a slice stands -/
theorem cutOff_le {cap a size off : Nat} (h : a < cap) : cutOff cap a size off = off + a * size := cutOff_neg (by omega)
section
variable {α : Type} [Inhabited α] {enc : α → List Value} {sz : Nat} {h : List (Nat × GO)}
omit [Inhabited α] in
/-- the cells of a part of a row -/
theorem rowOf_rw (hsz : ∀ x, (enc x).length = sz) {nm cap a k cnt : Nat} {L : List α} {t : TypeId} {fz : Nat × Nat} (hl : look h nm = some (.rw (.cells ⟨flatR enc L⟩ t fz))) (hc : L.length = cap) (hk : cnt = k * sz) (hle : a + k ≤ L.length) :
    rowOf h (some ⟨nm, cutOff cap a sz 0, none⟩) cnt = some (flatR enc ((L.drop a).take k)) := by
  subst hk; subst hc
  simp only [rowOf, hl, GO.obj]
  by_cases e : L.length = a
  · have : k = 0 := by omega
    subst this
    rw [cutOff_pos e]; simp [flatR, sliceL, takeL]
  · rw [cutOff_neg e]; exact cut_rows hsz hle
omit [Inhabited α] in
theorem rowOf_ro (hsz : ∀ x, (enc x).length = sz) {nm off m cap a k cnt : Nat} {L : List α} {t : TypeId} {fz : Nat × Nat} (hl : look h nm = some (.ro (.cells (win off (flatR enc L) m) t fz))) (hc : L.length ≤ cap) (hk : cnt = k * sz) (hle : a + k ≤ L.length) :
    rowOf h (some ⟨nm, cutOff cap a sz off, none⟩) cnt = some (flatR enc ((L.drop a).take k)) := by
  subst hk
  simp only [rowOf, hl, GO.obj]
  by_cases e : cap = a
  · have : k = 0 := by omega
    subst this
    rw [cutOff_pos e]
    have := cut_win (enc := enc) hsz (L := L) (a := 0) (b := 0) (off := off) (m := m) (by omega)
    simpa [flatR] using this
  · rw [cutOff_neg e]; exact cut_win hsz hle
variable {ns : List Nat} {nm nm' m n c bytes e : Nat} {z : List Value} {b : Option Addr} {K : Value → List (Nat × GO) → List Nat → Prop} {A jk Y : List α}
/-- a row behind a row of one's own -/
theorem app_some (hsz : ∀ x, (enc x).length = sz) (hone : ∀ x, oneL (enc x) = true) {t : TypeId} (hl : look h nm = some (.rw (.cells ⟨flatR enc (A ++ jk)⟩ t (0, 0)))) (hz : z = enc default) (hb : rowOf h b (m * sz) = some (flatR enc Y)) (hm : m = Y.length) (hn : n = A.length) (hc : c = (A ++ jk).length)
    (hsm : A.length + Y.length ≤ 1000000) (hby : bytes ≤ 1000000)
    (k1 : ∀ jk' : List α, (A ++ Y ++ jk').length = c → K (.slice (some ⟨nm, 0, none⟩) (A ++ Y).length (A ++ Y ++ jk').length) ((nm, .rw (.cells ⟨flatR enc (A ++ Y ++ jk')⟩ t (0, 0))) :: h) (nm' :: ns))
    (k2 : ∀ jk' : List α, K (.slice (some ⟨nm', 0, none⟩) (A ++ Y).length (A ++ Y ++ jk').length) ((nm', .rw (.cells ⟨flatR enc (A ++ Y ++ jk')⟩ e (0, 0))) :: h) ns) :
    AppG ⟨some ⟨nm, 0, none⟩, n, c, b, m, sz, bytes, e, z⟩ h (nm' :: ns) K := by
  subst hz; subst hm; subst hn; subst hc
  refine .mk ?_
  simp only [runApp]
  refine rdK_intro hb ?_
  refine bif2_ble (fun hle => ?_) (fun hle => ?_)
  · simp only [List.length_append] at hle
    have hY : Y.length ≤ jk.length := by omega
    simp only [appPut, hl]
    refine rdK_intro (v := .cells ⟨flatR enc (A ++ Y ++ jk.drop Y.length)⟩ t (0, 0)) ?_ ?_
    · have h0 : Nat.beq 0 0 = true := rfl
      simp only [appIn, flatR_one hone, h0, Bool.and_self, blit_rows hsz hY]
    · have e1 : (A ++ Y ++ jk.drop Y.length).length = (A ++ jk).length := by simp; omega
      have := k1 (jk.drop Y.length) e1
      rw [e1, List.length_append] at this
      exact this
  · refine ⟨cap_ok (by omega) (by omega) hby, rdK_intro (v := flatR enc A) ?_ fun nc hnc => ?_⟩
    · simp only [rowOf, hl, GO.obj]
      have := cut_rows (enc := enc) hsz (L := A ++ jk) (a := 0) (b := A.length) (by simp)
      rw [show 0 + 0 * sz = 0 by omega, List.drop_zero, List.take_left] at this
      exact this
    · rw [catK_eq, catK_eq, rep_flat, ← flatR_append, ← flatR_append, ← List.append_assoc]
      have e1 : (A ++ Y ++ List.replicate (nc - (A.length + Y.length)) (default : α)).length = nc := by simp; omega
      have := k2 (List.replicate (nc - (A.length + Y.length)) default)
      rw [e1, List.length_append] at this
      exact this
theorem app_none (_ : ∀ x, oneL (enc x) = true) (hz : z = enc default) (hb : rowOf h b (m * sz) = some (flatR enc Y)) (hm : m = Y.length) (hsm : Y.length ≤ 1000000) (hby : bytes ≤ 1000000)
    (k1 : Y = [] → K (.slice none 0 0) h (nm' :: ns))
    (k2 : Y ≠ [] → ∀ jk' : List α, K (.slice (some ⟨nm', 0, none⟩) Y.length (Y ++ jk').length) ((nm', .rw (.cells ⟨flatR enc (Y ++ jk')⟩ e (0, 0))) :: h) ns) :
    AppG ⟨none, 0, 0, b, m, sz, bytes, e, z⟩ h (nm' :: ns) K := by
  subst hz; subst hm
  refine .mk ?_
  simp only [runApp]
  refine rdK_intro hb ?_
  refine bif2_ble (fun hle => ?_) (fun hle => ?_)
  · have : Y = [] := List.eq_nil_of_length_eq_zero (by omega)
    subst this
    exact k1 rfl
  · refine ⟨cap_ok (by omega) (by omega) hby, rdK_intro (v := []) ?_ fun nc hnc => ?_⟩
    · rw [Nat.zero_mul]; rfl
    · rw [catK_eq, catK_eq, rep_flat, ← flatR_append, List.nil_append]
      have e1 : (Y ++ List.replicate (nc - (0 + Y.length)) (default : α)).length = nc := by simp; omega
      have := k2 (fun h => by subst h; simp at hle) (List.replicate (nc - (0 + Y.length)) default)
      rw [e1] at this
      simp only [Nat.zero_add] at this ⊢
      exact this
end
end Go.Proofs.YtkcmhcgmiflgbaaDoor
namespace Go.Proofs.YtkcmhcgmiflgbaaDoor
open Go

/-! calls that only reckon and look at one package-level variable -/
def PureV (P : Program) (o : Obj) (k : FuncId) (args : List Value) (Q : Value → Prop) : Prop := Spec P 1 k args [(0, .ro o)] sup fun v _ _ => Q v ∧ clean v = true
theorem PureV.mono {P : Program} {o : Obj} {k : Nat} {args : List Value} {Q Q' : Value → Prop} (h : PureV P o k args Q) (hq : ∀ v, Q v → Q' v) : PureV P o k args Q' :=
  fun f w args' hb ha => (h f w args' hb ha).mono fun _ _ ⟨v, v', h', ns', g, h1, h2, h3⟩ => ⟨v, v', h', ns', g, h1, ⟨hq v h2.1, h2.2⟩, h3⟩
theorem PureV.spec {P : Program} {o : Obj} {k : Nat} {args : List Value} {Q : Value → Prop} (s : PureV P o k args Q) (hc : cleanA2 args = true) (ho : OR ⟨fun g => if g < 1 then some g else none, fun _ => none⟩ o o)
    (hex : ∀ (f : NM) o', OR f o o' → o' = o) {h : List (Nat × GO)} (hh : look h 0 = some (.ro o)) {ns : List Nat} {K : Value → List (Nat × GO) → List Nat → Prop}
    (hK : ∀ v, Q v → K v h ns) : Spec P 1 k args h ns K := by
  intro f w args' hB hA
  let f0 : NM := ⟨fun g => if g < 1 then some g else none, fun _ => none⟩
  have hf0 : ∀ n b, f0 n = some b → f n = some b ∧ n < 1 := by
    intro n b hn
    simp only [f0] at hn
    split at hn
    · rename_i hlt; cases hn; exact ⟨hB.glob n hlt, hlt⟩
    · cases hn
  have hB0 : Before 1 f0 [(0, .ro o)] sup w := by
    refine ⟨fun n b h1 => hB.lt n b (hf0 n b h1).1, fun g hg => by simp [f0, hg], fun x hx m hm => ?_, sup_asc, fun n g hg => ?_, fun n b h => (by cases h), fun n b h => (by cases h)⟩
    · have := sup_low x hx
      simp only [f0]
      rw [if_neg (by omega)]
    · rw [look_cons] at hg
      split at hg
      · rename_i e; subst e; cases hg
        intro b hb
        obtain ⟨o', h1, h2, h3⟩ := hB.sees 0 _ hh b (hf0 0 b hb).1
        exact ⟨o', rfl, h2, by rw [hex _ _ h3]; exact ho⟩
      · cases hg
  refine (s f0 w args' hB0 (cleanA2_AR hc hA)).mono ?_
  rintro e w' ⟨v, v', h', ns', g, rfl, ⟨hq, hcv⟩, hAf⟩
  have hfar : ∀ b, b < w.heap.size → w'.heap[b]? = w.heap[b]? := fun b hb => hAf.far b hb rfl
  refine ⟨v, v', h, ns, f, rfl, hK v hq, { le := NM.le.refl f, lt := fun n b h1 => Nat.lt_of_lt_of_le (hB.lt n b h1) hAf.grow, val := ?_, sees := ?_, owx := fun b n h1 => ⟨Or.inl ⟨n, h1, Nat.le_refl _⟩, Nat.lt_of_lt_of_le (hB.owx b n h1) hAf.grow⟩, kp := fun _ n h => ⟨n, h, Nat.le_refl _⟩, ol := hB.ol, new := fun n b h1 => Or.inl ⟨n, h1⟩, far := fun b hb _ => hfar b hb, top := hB.top, asc := hB.asc, low := fun x hx => ⟨x, hx, Nat.le_refl _⟩, grow := hAf.grow, os := hAf.os, tape := hAf.tape, out := hAf.out, dr := hAf.dr }⟩
  · rw [clean_eq hcv hAf.val]; exact clean_VR f hcv
  · intro n o ho
    exact (hB.sees n o ho).kept hB.lt hB.owx hfar hAf.grow
theorem obj_clean {L : List Value} {t : TypeId} {fz : Nat × Nat} (h : cleanL L = true) (f : NM) : OR f (.cells ⟨L⟩ t fz) (.cells ⟨L⟩ t fz) ∧ ∀ o', OR f (.cells ⟨L⟩ t fz) o' → o' = .cells ⟨L⟩ t fz :=
  ⟨.cells t fz (cleanA f h), fun o' ho => by cases ho with | cells _ _ ha => rw [cleanL_eq h ha]⟩
theorem CallG.valV {P : Program} {L : List Value} {t : TypeId} {fz : Nat × Nat} {k : Nat} {args : List Value} {V : Value} {h : List (Nat × GO)} {ns : List Nat} {K : Value → List (Nat × GO) → List Nat → Prop}
    (s : PureV P (.cells ⟨L⟩ t fz) k args (· = V)) (hp : Plain P k) (hc : cleanA2 args = true) (hL : cleanL L = true) (hh : look h 0 = some (.ro (.cells ⟨L⟩ t fz))) (hK : K V h ns) : CallG P 1 k args h ns K :=
  .mk hp (s.spec hc (obj_clean hL _).1 (fun f o' ho => (obj_clean hL f).2 o' ho) hh fun v hv => by subst hv; exact hK)
theorem PureV.body {P : Program} {o : Obj} {tt : List (Nat × TK)} (hT : TKok P tt) (hm : P.follows .mixedOrders = true) {k : Nat} {fn : Func} {code : Code} (hf : P.funcs[k]? = some fn) (hb : fn.body = some code)
    {args : List Value} {Q : Value → Prop} (hn : args.length ≤ fn.ntmps)
    (H : startG args fun t => wpG P fn.ntmps 1 1000 tt code (retG tt fn.results.toList fun v _ _ => Q v ∧ clean v = true) ⟨t, [(0, .ro o)], sup⟩) : PureV P o k args Q := Spec.of_body hT hm hf hb hn H
/-- what only reckons does so, whatever variables there are -/
theorem Pure.toV {P : Program} {L : List Value} {t : TypeId} {fz : Nat × Nat} {k : Nat} {args : List Value} {V : Value} (s : Pure P 1 k args (· = V)) (hc : cleanA2 args = true) (hV : clean V = true) : PureV P (.cells ⟨L⟩ t fz) k args (· = V) :=
  s.spec (by decide) hc fun v hv => ⟨hv, by rw [hv]; exact hV⟩
theorem Spec.up0 {P : Program} {ng k : Nat} {args : List Value} {h : List (Nat × GO)} {ns : List Nat} {K : Value → List (Nat × GO) → List Nat → Prop} (s : Spec P 0 k args h ns K) : Spec P ng k args h ns K :=
  fun f w args' hB hA => s f w args' { hB with glob := fun _ hg => absurd hg (Nat.not_lt_zero _) } hA
theorem CallG.val0 {P : Program} {ng k : Nat} {args : List Value} {V : Value} {h : List (Nat × GO)} {ns : List Nat} {K : Value → List (Nat × GO) → List Nat → Prop}
    (s : Pure P 0 k args (· = V)) (hp : Plain P k) (hc : cleanA2 args = true) (hK : K V h ns) : CallG P ng k args h ns K := .mk hp (s.spec (Nat.zero_le _) hc fun v hv => by subst hv; exact hK).up0
end Go.Proofs.YtkcmhcgmiflgbaaDoor
namespace Go.Proofs.YtkcmhcgmiflgbaaDoor
open Go

/-! maps of numbers to plain values -/
section
variable {α : Type} (ev : α → Value)
def encM : List (Int × α × Nat) → List MapEntry
  | [] => []
  | (a, v, b) :: r => ⟨.int .i64 a, ev v, b⟩ :: encM r
def getM : List (Int × α × Nat) → Int → Option α
  | [], _ => none
  | (b, v, _) :: r, a => if a = b then some v else getM r a
def setM (ck : Nat) (a : Int) (v : α) : List (Int × α × Nat) → List (Int × α × Nat)
  | [] => [(a, v, ck)]
  | (b, u, c) :: r => if a = b then (a, v, c) :: r else (b, u, c) :: setM ck a v r
def delM (a : Int) : List (Int × α × Nat) → List (Int × α × Nat)
  | [] => []
  | (b, u, c) :: r => if a = b then r else (b, u, c) :: delM a r
def newM (ck : Nat) (a : Int) (M : List (Int × α × Nat)) : Nat := if (getM M a).isSome then ck else ck + 1
def keysM (M : List (Int × α × Nat)) : List Int := M.map (·.1)
variable {ev} {M : List (Int × α × Nat)}
theorem getM_set (ck : Nat) (a b : Int) (v : α) : getM (setM ck a v M) b = if b = a then some v else getM M b := by
  induction M with
  | nil => simp [setM, getM]
  | cons x r ih =>
    obtain ⟨k, u, c⟩ := x
    simp only [setM]
    split
    · rename_i e; subst e
      simp only [getM]
      split <;> rfl
    · rename_i e
      simp only [getM, ih]
      split
      · rename_i e2; subst e2
        rw [if_neg (fun h => e h.symm)]
      · rfl
theorem mem_setM {ck : Nat} {a : Int} {v : α} {x : Int} : x ∈ keysM (setM ck a v M) ↔ x = a ∨ x ∈ keysM M := by
  induction M with
  | nil => simp [setM, keysM]
  | cons y r ih =>
    obtain ⟨k, u, c⟩ := y
    simp only [setM]
    split
    · rename_i e; subst e; simp [keysM]
    · simp only [keysM, List.map_cons, List.mem_cons] at ih ⊢
      rw [ih]
      constructor
      · rintro (h | h | h) <;> simp [h]
      · rintro (h | h | h) <;> simp [h]
theorem setM_nodup {ck : Nat} {a : Int} {v : α} (h : (keysM M).Nodup) : (keysM (setM ck a v M)).Nodup := by
  induction M with
  | nil => simp [setM, keysM]
  | cons y r ih =>
    obtain ⟨k, u, c⟩ := y
    simp only [keysM, List.map_cons, List.nodup_cons] at h
    simp only [setM]
    split
    · rename_i e; subst e; simpa [keysM] using h
    · rename_i e
      have := ih h.2
      simp only [keysM, List.map_cons, List.nodup_cons] at this ⊢
      refine ⟨fun hm => ?_, this⟩
      rcases mem_setM.1 hm with h1 | h1
      · exact e h1.symm
      · exact h.1 h1
theorem getM_none {a : Int} (h : a ∉ keysM M) : getM M a = none := by
  induction M with
  | nil => rfl
  | cons y r ih =>
    obtain ⟨k, u, c⟩ := y
    simp only [keysM, List.map_cons, List.mem_cons, not_or] at h
    simp only [getM]
    rw [if_neg h.1]; exact ih h.2
theorem getM_del {a b : Int} (h : (keysM M).Nodup) : getM (delM a M) b = if b = a then none else getM M b := by
  induction M with
  | nil => simp [delM, getM]
  | cons y r ih =>
    obtain ⟨k, u, c⟩ := y
    simp only [keysM, List.map_cons, List.nodup_cons] at h
    simp only [delM]
    split
    · rename_i e; subst e
      split
      · rename_i e2; subst e2; exact getM_none h.1
      · rename_i e2; simp only [getM]; rw [if_neg e2]
    · rename_i e
      simp only [getM, ih h.2]
      split
      · rename_i e2; subst e2; rw [if_neg (fun h => e h.symm)]
      · rfl
theorem mem_delM {a x : Int} (h : x ∈ keysM (delM a M)) : x ∈ keysM M := by
  induction M with
  | nil => exact h
  | cons y r ih =>
    obtain ⟨k, u, c⟩ := y
    simp only [delM] at h
    split at h
    · simp only [keysM, List.map_cons, List.mem_cons]; exact Or.inr h
    · simp only [keysM, List.map_cons, List.mem_cons] at h ⊢
      exact h.imp id ih
theorem delM_nodup {a : Int} (h : (keysM M).Nodup) : (keysM (delM a M)).Nodup := by
  induction M with
  | nil => exact h
  | cons y r ih =>
    obtain ⟨k, u, c⟩ := y
    simp only [keysM, List.map_cons, List.nodup_cons] at h
    simp only [delM]
    split
    · exact h.2
    · simp only [keysM, List.map_cons, List.nodup_cons]
      exact ⟨fun hm => h.1 (mem_delM hm), ih h.2⟩
theorem kindsEq_i64 : kindsEq .i64 .i64 = true := rfl
theorem findM_none {a : Int} : ∀ {M : List (Int × α × Nat)}, getM M a = none → findI .i64 a (encM ev M) = some none := by
  intro M
  induction M with
  | nil => intro _; rfl
  | cons y r ih =>
    obtain ⟨k, u, c⟩ := y
    intro h
    simp only [getM] at h
    split at h
    · cases h
    · rename_i e
      simp only [encM, findI, kindsEq_i64]
      rw [show (a == k) = false by simpa using e]
      simp only [ih h]
theorem findM_some {a : Int} {v : α} : ∀ {M : List (Int × α × Nat)}, getM M a = some v → ∃ i, findI .i64 a (encM ev M) = some (some (i, ev v)) ∧
    (∀ ck u, setE (ev u) (.int .i64 a) i (encM ev M) = some (encM ev (setM ck a u M))) ∧ delE i (encM ev M) = some (encM ev (delM a M)) := by
  intro M
  induction M with
  | nil => intro h; cases h
  | cons y r ih =>
    obtain ⟨k, u, c⟩ := y
    intro h
    simp only [getM] at h
    split at h
    · rename_i e; cases h; subst e
      refine ⟨0, ?_, fun ck u' => ?_, ?_⟩
      · simp [encM, findI, kindsEq_i64]
      · simp [encM, setE, setM]
      · simp [encM, delE, delM]
    · rename_i e
      obtain ⟨i, h1, h2, h3⟩ := ih h
      refine ⟨i + 1, ?_, fun ck u' => ?_, ?_⟩
      · simp only [encM, findI, kindsEq_i64]
        rw [show (a == k) = false by simpa using e]
        simp only [h1]
      · simp only [encM, setE, setM]
        rw [h2 ck u', if_neg e]; rfl
      · simp only [encM, delE, delM]
        rw [h3, if_neg e]; rfl
theorem pushM {a : Int} {v : α} {ck : Nat} : ∀ {M : List (Int × α × Nat)}, getM M a = none → pushE ⟨.int .i64 a, ev v, ck⟩ (encM ev M) = some (encM ev (setM ck a v M)) := by
  intro M
  induction M with
  | nil => intro _; rfl
  | cons y r ih =>
    obtain ⟨k, u, c⟩ := y
    intro h
    simp only [getM] at h
    split at h
    · cases h
    · rename_i e
      simp only [encM, pushE, setM]
      rw [ih h, if_neg e]; rfl
theorem updM (M : List (Int × α × Nat)) (ck : Nat) (a : Int) (v : α) {V : Value} (hV : V = ev v) : updIn .i64 a V (.map ⟨encM ev M⟩ ck) = some (undef, .map ⟨encM ev (setM ck a v M)⟩ (newM ck a M)) := by
  subst hV
  unfold updIn newM
  cases h : getM M a with
  | none => simp only [findM_none (ev := ev) h, pushM (ev := ev) h]; rfl
  | some u =>
    obtain ⟨i, h1, h2, _⟩ := findM_some (ev := ev) h
    simp only [h1, h2 ck v]; rfl
theorem delM_none {a : Int} : ∀ {M : List (Int × α × Nat)}, getM M a = none → delM a M = M := by
  intro M
  induction M with
  | nil => intro _; rfl
  | cons y r ih =>
    obtain ⟨k, u, c⟩ := y
    intro h
    simp only [getM] at h
    split at h
    · cases h
    · rename_i e; simp only [delM]; rw [if_neg e, ih h]
theorem delMk (M : List (Int × α × Nat)) (ck : Nat) (a : Int) : delIn .i64 a (.map ⟨encM ev M⟩ ck) = some (.tuple #[], .map ⟨encM ev (delM a M)⟩ ck) := by
  unfold delIn
  cases h : getM M a with
  | none =>
    simp only [findM_none (ev := ev) h]
    rw [delM_none h]
  | some u =>
    obtain ⟨i, h1, _, h3⟩ := findM_some (ev := ev) h
    simp only [h1, h3]
theorem lookM2 (M : List (Int × α × Nat)) (ck : Nat) (a : Int) (z : Value) {o : Option α} (h : getM M a = o) : lookIn z true .i64 a (.map ⟨encM ev M⟩ ck) = some (.tuple #[(o.map ev).getD z, .bool o.isSome]) := by
  subst h
  unfold lookIn
  cases h : getM M a with
  | none => simp only [findM_none (ev := ev) h]; rfl
  | some u =>
    obtain ⟨i, h1, _, _⟩ := findM_some (ev := ev) h
    simp only [h1]; rfl
theorem lookM1 (M : List (Int × α × Nat)) (ck : Nat) (a : Int) (z : Value) {o : Option α} (h : getM M a = o) : lookIn z false .i64 a (.map ⟨encM ev M⟩ ck) = some ((o.map ev).getD z) := by
  subst h
  unfold lookIn
  cases h : getM M a with
  | none => simp only [findM_none (ev := ev) h]; rfl
  | some u =>
    obtain ⟨i, h1, _, _⟩ := findM_some (ev := ev) h
    simp only [h1]; rfl
theorem encM_len : (encM ev M).length = M.length := by
  induction M with
  | nil => rfl
  | cons y r ih => obtain ⟨k, u, c⟩ := y; simp [encM, ih]
theorem ES.encM (hc : ∀ v, clean (ev v) = true) (f : NM) (M : List (Int × α × Nat)) : ES f ⟨Go.Proofs.YtkcmhcgmiflgbaaDoor.encM ev M⟩ ⟨Go.Proofs.YtkcmhcgmiflgbaaDoor.encM ev M⟩ := by
  refine ⟨rfl, fun i e e' h1 h2 => ?_⟩
  rw [h1] at h2; cases h2
  have : ∀ (M : List (Int × α × Nat)) (i : Nat) (e : MapEntry), (Go.Proofs.YtkcmhcgmiflgbaaDoor.encM ev M)[i]? = some e → VR f e.key e.key ∧ VR f e.val e.val := by
    intro M
    induction M with
    | nil => intro i e h; cases h
    | cons y r ih =>
      obtain ⟨k, u, c⟩ := y
      intro i e h
      cases i with
      | zero => cases h; exact ⟨.int _ _, clean_VR f (hc u)⟩
      | succ i => exact ih i e h
  have := this M i e (by simpa using h1)
  exact ⟨this.1, this.2, rfl⟩
theorem OR.encM (hc : ∀ v, Go.Proofs.YtkcmhcgmiflgbaaDoor.clean (ev v) = true) {f : NM} {M M' : List (Int × α × Nat)} {ck ck' : Nat} (h : M = M') (h2 : ck = ck') : OR f (.map ⟨Go.Proofs.YtkcmhcgmiflgbaaDoor.encM ev M⟩ ck) (.map ⟨Go.Proofs.YtkcmhcgmiflgbaaDoor.encM ev M'⟩ ck') := by
  subst h; subst h2; exact .map _ (ES.encM hc f M)
theorem ES.encM_eq (hc : ∀ v, clean (ev v) = true) {f : NM} : ∀ {M : List (Int × α × Nat)} {es : Array MapEntry}, ES f ⟨Go.Proofs.YtkcmhcgmiflgbaaDoor.encM ev M⟩ es → es = ⟨Go.Proofs.YtkcmhcgmiflgbaaDoor.encM ev M⟩ := by
  intro M es h
  apply Array.ext_getElem?
  intro i
  have hs := h.1
  cases h1 : (⟨Go.Proofs.YtkcmhcgmiflgbaaDoor.encM ev M⟩ : Array MapEntry)[i]? with
  | none =>
    rw [Array.getElem?_eq_none_iff] at h1 ⊢
    omega
  | some e =>
    have hi : i < es.size := by rw [← hs]; exact (Array.getElem?_eq_some_iff.1 h1).1
    have h2 : es[i]? = some es[i] := by simp [hi]
    rw [h2]
    obtain ⟨k1, k2, k3⟩ := h.2 i e _ h1 h2
    have : ∀ (M : List (Int × α × Nat)) (i : Nat) (e : MapEntry), (Go.Proofs.YtkcmhcgmiflgbaaDoor.encM ev M)[i]? = some e → clean e.key = true ∧ clean e.val = true := by
      intro M
      induction M with
      | nil => intro i e h; cases h
      | cons y r ih =>
        obtain ⟨k, u, c⟩ := y
        intro i e h
        cases i with
        | zero => cases h; exact ⟨rfl, hc u⟩
        | succ i => exact ih i e h
    have hc2 := this M i e (by simpa using h1)
    generalize es[i] = e' at k1 k2 k3
    obtain ⟨a, b, c⟩ := e
    obtain ⟨a', b', c'⟩ := e'
    simp only at k1 k2 k3 hc2
    rw [clean_eq hc2.1 k1, clean_eq hc2.2 k2, k3]
end
end Go.Proofs.YtkcmhcgmiflgbaaDoor
namespace Go.Proofs.YtkcmhcgmiflgbaaDoor
open Go

/-! blocks of one's own, handed on as one thing -/
def dropN (N : List Nat) : List (Nat × GO) → List (Nat × GO)
  | [] => []
  | (n, g) :: r => match memL n N with
    | true => dropN N r
    | false => (n, g) :: dropN N r
theorem look_dropN {N : List Nat} {h : List (Nat × GO)} {n : Nat} {g : GO} (e : look (dropN N h) n = some g) : memL n N = false ∧ look h n = some g := by
  induction h with
  | nil => cases e
  | cons x r ih =>
    obtain ⟨m, p⟩ := x
    simp only [dropN] at e
    cases hm : memL m N with
    | true =>
      rw [hm] at e
      obtain ⟨h1, h2⟩ := ih e
      refine ⟨h1, ?_⟩
      rw [look_cons, if_neg (fun e2 => by subst e2; rw [hm] at h1; cases h1)]
      exact h2
    | false =>
      rw [hm] at e
      simp only at e
      rw [look_cons] at e ⊢
      split at e
      · rename_i e2; subst e2; rw [if_pos rfl]; exact ⟨hm, e⟩
      · rename_i e2; rw [if_neg e2]; exact ih e
def geAll (nm : Nat) : List Nat → Bool
  | [] => true
  | n :: r => Nat.ble nm n && geAll nm r
theorem geAll_mem {nm : Nat} : ∀ {N : List Nat}, geAll nm N = true → ∀ n, memL n N = true → nm ≤ n := by
  intro N
  induction N with
  | nil => intro _ n h; cases h
  | cons x r ih =>
    intro h n hn
    simp only [geAll, Bool.and_eq_true] at h
    simp only [memL, Bool.or_eq_true] at hn
    rcases hn with hn | hn
    · rw [← Nat.eq_of_beq_eq_true hn]; exact Nat.le_of_ble_eq_true h.1
    · exact ih h.2 n hn
def packN (f : NM) (nm : Nat) (N : List Nat) : NM := ⟨f.m, fun q => match f.ow q with
  | some m => match memL m N with
    | true => some nm
    | false => some m
  | none => none⟩
theorem CallG.pack {P : Program} {ng k : Nat} {R : ARes} {as : List AV} {Q : List AV → Option ARes → Prop} (s : Ct P k (some R) as Q) (hp : Plain P k) (W : Bool) (N : List Nat) {h : List (Nat × GO)} {ns : List Nat} {gs : List Value} {nm : Nat}
    {K : Value → List (Nat × GO) → List Nat → Prop} (hs : R.sh = none) (hN : geAll nm N = true) (hpk : Packs h nm N R) (ha : All2 (GA W ((nm, .abs R) :: dropN N h)) gs as)
    (hK : ∀ rs R', Q rs (some R') → (W = true → Go.Proofs.YtkcmhcgmiflgbaaDoor.noRows rs = true) ∧ bindR rs ((nm, .abs R') :: (nm, .abs R) :: dropN N h) ns fun l h ns => K (packV l) h ns) : CallG P ng k (.pointer (some ⟨nm, 0, none⟩) :: gs) h ns K := by
  refine .mk hp fun f w args' hB hA => ?_
  obtain ⟨v1, l1, e1, hv1, _⟩ := AR.cons (x' := undef) hA
  have hb : ∃ b, f nm = some b := by
    cases hv1 with
    | ptr hn => exact ⟨_, hn⟩
  obtain ⟨b, hb⟩ := hb
  have hR := hpk f w b hB.sees hb
  have how : ∀ q, (packN f nm N).ow q = match f.ow q with | some m => (match memL m N with | true => some nm | false => some m) | none => none := fun _ => rfl
  have how1 : ∀ q m, f.ow q = some m → memL m N = true → (packN f nm N).ow q = some nm := by intro q m h1 h2; rw [how, h1]; simp [h2]
  have how2 : ∀ q m, f.ow q = some m → memL m N = false → (packN f nm N).ow q = some m := by intro q m h1 h2; rw [how, h1]; simp [h2]
  have how3 : ∀ q, f.ow q = none → (packN f nm N).ow q = none := by intro q h1; rw [how, h1]
  have how4 : ∀ q n, (packN f nm N).ow q = some n → ∃ m, f.ow q = some m ∧ n ≤ m := by
    intro q n h1
    rw [how] at h1
    cases e : f.ow q with
    | none => rw [e] at h1; cases h1
    | some m =>
      rw [e] at h1
      cases e2 : memL m N with
      | true => simp [e2] at h1; subst h1; exact ⟨m, rfl, geAll_mem hN m e2⟩
      | false => simp [e2] at h1; subst h1; exact ⟨m, rfl, Nat.le_refl _⟩
  have hle : NM.le f (packN f nm N) := fun _ _ h => h
  have hB1 : Before ng (packN f nm N) ((nm, .abs R) :: dropN N h) ns w := by
    refine { lt := hB.lt, glob := hB.glob, top := hB.top, asc := hB.asc, sees := fun m p hp => ?_, owx := fun q n hq => ?_, ol := fun q n hq x hx => ?_ }
    · rw [look_cons] at hp
      split at hp
      · rename_i e; subst e; cases hp
        exact ⟨b, _, hb, fun q hq => (by obtain ⟨n, h1, h2⟩ := hq; exact how1 q n h2 h1), hR⟩
      · obtain ⟨h1, h2⟩ := look_dropN hp
        have := hB.sees m p h2
        cases p with
        | rw o =>
          intro q hq
          obtain ⟨o', k1, k2, k3⟩ := this q hq
          exact ⟨o', how2 q m k1 h1, k2, k3.mono hle⟩
        | ro o =>
          intro q hq
          obtain ⟨o', k1, k2, k3⟩ := this q hq
          exact ⟨o', how3 q k1, k2, k3.mono hle⟩
        | abs R2 =>
          obtain ⟨q, F, k1, k2, k3⟩ := this
          exact ⟨q, F, k1, fun x hx => how2 x m (k2 x hx) h1, k3⟩
    · obtain ⟨m, h1, _⟩ := how4 q n hq; exact hB.owx q m h1
    · obtain ⟨m, h1, h2⟩ := how4 q n hq; have := hB.ol q m h1 x hx; omega
  have hval : R.val nm = .pointer (some ⟨nm, 0, none⟩) := by unfold ARes.val; rw [hs]
  have hcall := CallG.meth (P := P) (ng := ng) (ns := ns) (K := K) s hp W (h := (nm, .abs R) :: dropN N h) (nm := nm)
    (by rw [look_cons, if_pos rfl]) (by rw [hs]; intro e; cases e) ha hK
  rw [hval] at hcall
  cases hcall with
  | mk _ sp =>
    refine (sp (packN f nm N) w args' hB1 (hA.mono hle)).mono ?_
    rintro e w' ⟨v, v', h', ns', g, rfl, hKv, hAf⟩
    refine ⟨v, v', h', ns', g, rfl, hKv, { le := hAf.le, lt := hAf.lt, val := hAf.val, sees := hAf.sees, owx := fun q n hq => ⟨?_, (hAf.owx q n hq).2⟩, kp := fun q n hq => ?_, ol := hAf.ol, new := hAf.new, far := fun q hq hn => hAf.far q hq (how3 q hn), top := hAf.top, asc := hAf.asc, low := hAf.low, grow := hAf.grow, os := hAf.os, tape := hAf.tape, out := hAf.out, dr := hAf.dr }⟩
    · rcases (hAf.owx q n hq).1 with ⟨n0, h1, h2⟩ | h1
      · obtain ⟨m, h3, h4⟩ := how4 q n0 h1
        exact Or.inl ⟨m, h3, by omega⟩
      · exact Or.inr h1
    · cases e : memL n N with
      | true =>
        obtain ⟨n', h1, h2⟩ := hAf.kp q nm (how1 q n hq e)
        have := geAll_mem hN n e
        exact ⟨n', h1, by omega⟩
      | false => exact hAf.kp q n (how2 q n hq e)
/-- a thing that is handed on as it is -/
theorem pack_abs {h : List (Nat × GO)} {nm : Nat} {R : ARes} (hl : look h nm = some (.abs R)) : Packs h nm [nm] R := by
  intro g w b hs hb
  obtain ⟨b', F, h1, h2, h3⟩ := hs nm _ hl
  rw [hb] at h1; cases h1
  exact R.up w b F _ h3 fun k hk => ⟨nm, by simp [memL], h2 k hk⟩
theorem unp_abs {w : World} {R : ARes} {b : Nat} {F : Nat → Prop} (h : RecvR w (some R) b F) : UnpR w (some R) b F (oneNM b F) [(500, .abs R)] := by
  obtain ⟨h1, h3, h4⟩ := h
  refine { at_ := by simp [oneNM], nm := ?_, ow1 := ?_, ow2 := ?_, sees := ?_ }
  · intro n q hn
    simp only [oneNM] at hn
    split at hn
    · rename_i e; subst e; cases hn; exact ⟨by decide, by decide, h3, R.own _ _ _ h1⟩
    · cases hn
  · intro q n hn
    simp only [oneNM] at hn
    split at hn
    · cases hn; rename_i e; exact ⟨by decide, by decide, e⟩
    · cases hn
  · intro q hq; exact ⟨500, by simp [oneNM, hq]⟩
  · intro n g hg
    rw [look_cons] at hg
    split at hg
    · rename_i e; subst e; cases hg
      exact ⟨b, F, by simp [oneNM], fun k hk => by simp [oneNM, hk], h1⟩
    · cases hg
theorem CallG.methP {P : Program} {ng k : Nat} {R : ARes} {as : List AV} {Q : List AV → Option ARes → Prop} (s : Ct P k (some R) as Q) (hp : Plain P k) (W : Bool) {h : List (Nat × GO)} {ns : List Nat} {gs : List Value} {nm : Nat}
    {K : Value → List (Nat × GO) → List Nat → Prop} (hr : look h nm = some (.abs R)) (hs : R.sh = none) (ha : All2 (GA W h) gs as)
    (hK : ∀ rs R', Q rs (some R') → (W = true → Go.Proofs.YtkcmhcgmiflgbaaDoor.noRows rs = true) ∧ bindR rs ((nm, .abs R') :: h) ns fun l h ns => K (packV l) h ns) : CallG P ng k (.pointer (some ⟨nm, 0, none⟩) :: gs) h ns K := by
  have hval : R.val nm = .pointer (some ⟨nm, 0, none⟩) := by unfold ARes.val; rw [hs]
  rw [← hval]
  exact CallG.meth s hp W hr (by rw [hs]; intro e; cases e) ha hK
/-- blocks of one's own become one thing -/
theorem Wk.pack {lo : Nat} {t : List (Nat × Value)} {h : List (Nat × GO)} {ns : List Nat} (nm : Nat) (N : List Nat) {R : ARes} (k : Nat) (hk : look t k = some (.pointer (some ⟨nm, 0, none⟩))) (hN : geAll nm N = true) (hpk : Packs h nm N R) :
    Wk lo ⟨t, h, ns⟩ ⟨t, (nm, .abs R) :: dropN N h, ns⟩ := by
  intro c f a w hl hg H
  obtain ⟨v', _, hv⟩ := H.tms k _ hk
  have hb : ∃ b, f nm = some b := by
    cases hv with
    | ptr hn => exact ⟨_, hn⟩
  obtain ⟨b, hb⟩ := hb
  have hR := hpk f w b H.sees hb
  have how : ∀ q, (packN f nm N).ow q = match f.ow q with | some m => (match memL m N with | true => some nm | false => some m) | none => none := fun _ => rfl
  have how1 : ∀ q m, f.ow q = some m → memL m N = true → (packN f nm N).ow q = some nm := by intro q m h1 h2; rw [how, h1]; simp [h2]
  have how2 : ∀ q m, f.ow q = some m → memL m N = false → (packN f nm N).ow q = some m := by intro q m h1 h2; rw [how, h1]; simp [h2]
  have how3 : ∀ q, f.ow q = none → (packN f nm N).ow q = none := by intro q h1; rw [how, h1]
  have how4 : ∀ q n, (packN f nm N).ow q = some n → ∃ m, f.ow q = some m ∧ n ≤ m := by
    intro q n h1
    rw [how] at h1
    cases e : f.ow q with
    | none => rw [e] at h1; cases h1
    | some m =>
      rw [e] at h1
      cases e2 : memL m N with
      | true => simp [e2] at h1; subst h1; exact ⟨m, rfl, geAll_mem hN m e2⟩
      | false => simp [e2] at h1; subst h1; exact ⟨m, rfl, Nat.le_refl _⟩
  have hle : NM.le f (packN f nm N) := fun _ _ h => h
  refine ⟨packN f nm N, { H with lt := H.lt, glob := H.glob, top := H.top, sees := ?_, owx := ?_, kp := ?_, ol := ?_, tms := ?_, ext := H.ext, new := H.new }, how3⟩
  · intro m p hp
    rw [look_cons] at hp
    split at hp
    · rename_i e; subst e; cases hp
      exact ⟨b, _, hb, fun q hq => (by obtain ⟨n, h1, h2⟩ := hq; exact how1 q n h2 h1), hR⟩
    · obtain ⟨h1, h2⟩ := look_dropN hp
      have := H.sees m p h2
      cases p with
      | rw o =>
        intro q hq
        obtain ⟨o', k1, k2, k3⟩ := this q hq
        exact ⟨o', how2 q m k1 h1, k2, k3.mono hle⟩
      | ro o =>
        intro q hq
        obtain ⟨o', k1, k2, k3⟩ := this q hq
        exact ⟨o', how3 q k1, k2, k3.mono hle⟩
      | abs R2 =>
        obtain ⟨q, F, k1, k2, k3⟩ := this
        exact ⟨q, F, k1, fun x hx => how2 x m (k2 x hx) h1, k3⟩
  · intro q n hq
    obtain ⟨m, h1, h2⟩ := how4 q n hq
    refine ⟨?_, (H.owx q m h1).2⟩
    rcases (H.owx q m h1).1 with ⟨n0, h3, h4⟩ | h3
    · exact Or.inl ⟨n0, h3, by omega⟩
    · exact Or.inr h3
  · intro q n hq
    obtain ⟨n', h1, h2⟩ := H.kp q n hq
    cases e : memL n' N with
    | true => exact ⟨nm, how1 q n' h1 e, by have := geAll_mem hN n' e; omega⟩
    | false => exact ⟨n', how2 q n' h1 e, h2⟩
  · intro q n hq x hx
    obtain ⟨m, h1, h2⟩ := how4 q n hq
    have := H.ol q m h1 x hx; omega
  · intro k v hkv
    obtain ⟨v', h1, h2⟩ := H.tms k v hkv
    exact ⟨v', h1, h2.mono hle⟩
end Go.Proofs.YtkcmhcgmiflgbaaDoor

/- Who is due: what is known of each node, in plain words. -/
import Derived.Test.YtliaoaejmmkkjaaBT8

namespace Go.Proofs.Ytliaoaejmmkkjaa
open Go.RowKit
abbrev A4 := Int × Int × Int × Int
def encA4 (x : A4) : List Value := [i64 x.1, i64 x.2.1, i64 x.2.2.1, i64 x.2.2.2]
theorem encA4_len (x : A4) : (encA4 x).length = 4 := rfl
theorem encA4_clean (x : A4) : cleanL (encA4 x) = true := rfl
def arrF (A : Nat → Int) : List Int := (List.range 16).map A
theorem arrF_len (A : Nat → Int) : (arrF A).length = 16 := by simp [arrF]
theorem arrF_nth (A : Nat → Int) {k : Nat} (h : k < 16) : nth (arrF A) k = A k := by simp [nth, arrF, h]
theorem arrF_get (A : Nat → Int) {k : Nat} (h : k < (arrF A).length) : (arrF A)[k] = A k := by
  have h2 : k < 16 := by rw [arrF_len] at h; exact h
  have := arrF_nth A h2
  simpa [nth, h] using this
theorem arrF_set (A : Nat → Int) {k : Nat} (v : Int) : (arrF A).set k v = arrF (upd A k v) := by
  apply List.ext_getElem
  · rw [List.length_set, arrF_len, arrF_len]
  · intro i h1 h2
    rw [List.getElem_set, arrF_get _ h2]
    by_cases h : k = i
    · subst h; rw [if_pos rfl, upd_same]
    · rw [if_neg h, upd_other _ _ (Ne.symm h), arrF_get]
theorem mask7 (n : Int) : bits .and .i64 n 7 = n % 8 := by
  have h127 : (BitVec.ofInt 64 7).toNat = 2 ^ 3 - 1 := by decide
  have key : (BitVec.ofInt 64 n &&& BitVec.ofInt 64 7).toNat = (n % ((2 ^ 64 : Nat) : Int)).toNat % 2 ^ 3 := by
    rw [BitVec.toNat_and, BitVec.toNat_ofInt, h127, Nat.and_two_pow_sub_one_eq_mod]
  show IntKind.i64.wrap ((BitVec.ofInt 64 n &&& BitVec.ofInt 64 7).toNat : Nat) = n % 8
  rw [key, IntKind.wrap_i64]
  omega
theorem mask3 (n : Int) : bits .and .i64 n 3 = n % 4 := by
  have h127 : (BitVec.ofInt 64 3).toNat = 2 ^ 2 - 1 := by decide
  have key : (BitVec.ofInt 64 n &&& BitVec.ofInt 64 3).toNat = (n % ((2 ^ 64 : Nat) : Int)).toNat % 2 ^ 2 := by
    rw [BitVec.toNat_and, BitVec.toNat_ofInt, h127, Nat.and_two_pow_sub_one_eq_mod]
  show IntKind.i64.wrap ((BitVec.ofInt 64 n &&& BitVec.ofInt 64 3).toNat : Nat) = n % 4
  rw [key, IntKind.wrap_i64]
  omega
theorem mask15 (n : Int) : bits .and .i64 n 15 = n % 16 := by
  have h127 : (BitVec.ofInt 64 15).toNat = 2 ^ 4 - 1 := by decide
  have key : (BitVec.ofInt 64 n &&& BitVec.ofInt 64 15).toNat = (n % ((2 ^ 64 : Nat) : Int)).toNat % 2 ^ 4 := by
    rw [BitVec.toNat_and, BitVec.toNat_ofInt, h127, Nat.and_two_pow_sub_one_eq_mod]
  show IntKind.i64.wrap ((BitVec.ofInt 64 n &&& BitVec.ofInt 64 15).toNat : Nat) = n % 16
  rw [key, IntKind.wrap_i64]
  omega
/-- what the law notes of each node, against the table -/
structure DuR (s now : Int) (A L I : Nat → Int) (T : List Tm) : Prop where
  ok : TOk T
  bk : BOk T
  n0 : 0 ≤ now
  aR : ∀ j, j < 16 → 0 ≤ A j ∧ A j ≤ 4
  lR : ∀ j, j < 16 → 0 ≤ L j ∧ L j ≤ now + s
  un : ∀ j : Nat, j < 16 → A j = 0 → lookT (j : Int) T = none
  st : ∀ j : Nat, j < 16 → 0 < A j → I j = A j ∧ lookT (j : Int) T = some (L j)
theorem DuR.zero {s : Int} (hs : 0 ≤ s) : DuR s 0 (fun _ => 0) (fun _ => 0) (fun _ => 0) [] :=
  ⟨TOk.nil, fun _ hx => (List.not_mem_nil hx).elim, Int.le_refl _, fun _ _ => ⟨Int.le_refl _, by decide⟩, fun _ _ => ⟨Int.le_refl _, by omega⟩, fun _ _ _ => rfl, fun _ _ h => absurd h (by decide)⟩
theorem DuR.later {s now now2 : Int} {A L I : Nat → Int} {T : List Tm} (h : DuR s now A L I T) (hn : now ≤ now2) : DuR s now2 A L I T :=
  { h with n0 := by have := h.n0; omega, lR := fun j hj => by have := h.lR j hj; omega }
theorem DuR.fenced {s now : Int} {A L I : Nat → Int} {T : List Tm} (h : DuR s now A L I T) {k : Nat} (hk : k < 16) {n : Int} (hn : 0 ≤ n) : fencedB I T (k : Int) n = decide (n < A k) := by
  have e : ((k : Int)).toNat = k := by omega
  unfold fencedB
  rw [e]
  rcases Int.lt_or_le 0 (A k) with h1 | h1
  · obtain ⟨h2, h3⟩ := h.st k hk h1
    rw [h3, h2]
  · have h4 := h.aR k hk
    rw [h.un k hk (by omega)]
    exact (decide_eq_false (by omega)).symm
theorem laterV_in {a b : Int} (h1 : 0 ≤ a ∧ a ≤ 1000000) (h2 : 0 ≤ b ∧ b ≤ 1000000) : laterV a b = a + b := by
  unfold laterV
  have e1 : imax (imin a 1099511627776) 0 = a := by unfold imax imin; (repeat' split) <;> omega
  have e2 : imax (imin b 1099511627776) 0 = b := by unfold imax imin; (repeat' split) <;> omega
  rw [e1, e2, wrap_in (by omega)]
  unfold imax imin; (repeat' split) <;> omega
theorem DuR.newU {s now : Int} {A L I : Nat → Int} {T : List Tm} (h : DuR s now A L I T) (hs : 0 ≤ s ∧ s ≤ 64) (hn : now ≤ 100000) {k : Nat} (hk : k < 16) (n : Int) : newU s I T (k : Int) n now = now + s := by
  have h0 := h.n0
  have e : ((k : Int)).toNat = k := by omega
  unfold Go.Proofs.Ytliaoaejmmkkjaa.newU
  rw [e, laterV_in (by omega) (by omega)]
  rcases Int.lt_or_le 0 (A k) with h1 | h1
  · obtain ⟨h2, h3⟩ := h.st k hk h1
    have h4 := h.lR k hk
    rw [h3]
    dsimp only
    split
    · unfold imax; split <;> omega
    · rfl
  · have h4 := h.aR k hk
    rw [h.un k hk (by omega)]
theorem DuR.seen {s now : Int} {A L I : Nat → Int} {T : List Tm} (h : DuR s now A L I T) (hs : 0 ≤ s ∧ s ≤ 64) (hn : now ≤ 100000) {k : Nat} (hk : k < 16) {n : Int} (h1 : 1 ≤ n ∧ n ≤ 4) :
    DuR s now (upd A k n) (upd L k (now + s)) (upd I k n) (setT (k : Int) (now + s) T) where
  ok := h.ok.set _ (by have := h.n0; omega)
  bk := h.bk.set _ (by omega)
  n0 := h.n0
  aR := fun j hj => by
    by_cases e : j = k
    · subst e; rw [upd_same]; omega
    · rw [upd_other _ _ e]; exact h.aR j hj
  lR := fun j hj => by
    have := h.n0
    by_cases e : j = k
    · subst e; rw [upd_same]; omega
    · rw [upd_other _ _ e]; exact h.lR j hj
  un := fun j hj hz => by
    by_cases e : j = k
    · subst e; rw [upd_same] at hz; omega
    · rw [upd_other _ _ e] at hz
      rw [lookT_set, if_neg (by omega)]; exact h.un j hj hz
  st := fun j hj hz => by
    by_cases e : j = k
    · subst e; rw [upd_same, upd_same, upd_same, lookT_set, if_pos rfl]; exact ⟨rfl, rfl⟩
    · rw [upd_other _ _ e] at hz
      rw [upd_other _ _ e, upd_other _ _ e, upd_other _ _ e, lookT_set, if_neg (by omega)]; exact h.st j hj hz
/-- what is noted of those that were due goes -/
def zeroD (A : Nat → Int) (l : List Tm) : Nat → Int := l.foldl (fun a x => upd a x.1.toNat 0) A
theorem zeroD_succ (A : Nat → Int) {D : List Tm} {q : Nat} (h : q < D.length) : zeroD A (D.take (q + 1)) = upd (zeroD A (D.take q)) (nth D q).1.toNat 0 := by
  unfold zeroD
  rw [List.take_succ_eq_append_getElem h, List.foldl_append]
  simp [nth, h]
theorem zeroD_not (l : List Tm) : ∀ (A : Nat → Int) (j : Nat), (∀ x ∈ l, x.1.toNat ≠ j) → zeroD A l j = A j := by
  induction l with
  | nil => intro A j _; rfl
  | cons y r ih =>
    intro A j h
    show zeroD (upd A y.1.toNat 0) r j = A j
    rw [ih _ _ (fun x hx => h x (by simp [hx])), upd_other _ _ (fun e => h y (by simp) e.symm)]
theorem zeroD_in (l : List Tm) : ∀ (A : Nat → Int) (j : Nat), (∃ x ∈ l, x.1.toNat = j) → zeroD A l j = 0 := by
  induction l with
  | nil => intro A j h; obtain ⟨x, hx, _⟩ := h; cases hx
  | cons y r ih =>
    intro A j h
    show zeroD (upd A y.1.toNat 0) r j = 0
    by_cases h2 : ∃ x ∈ r, x.1.toNat = j
    · exact ih _ _ h2
    · rw [zeroD_not r _ _ (fun x hx e => h2 ⟨x, hx, e⟩)]
      obtain ⟨x, hx, e⟩ := h
      rcases List.mem_cons.1 hx with rfl | hx
      · rw [e, upd_same]
      · exact absurd ⟨x, hx, e⟩ h2
/-- one that is due -/
theorem DuR.due_at {s now : Int} {A L I : Nat → Int} {T D : List Tm} (h : DuR s now A L I T) (hD : D.Perm (dueF now T)) {q : Nat} (hq : q < D.length) :
    ∃ p : Nat, p < 16 ∧ nth D q = ((p : Int), L p) ∧ 0 < A p ∧ I p = A p ∧ L p ≤ now ∧ zeroD A (D.take q) p = A p := by
  have hm : nth D q ∈ D := by simp [nth, hq]
  obtain ⟨x, hx⟩ : ∃ x, nth D q = x := ⟨_, rfl⟩
  rw [hx] at hm
  obtain ⟨h1, h2⟩ := List.mem_filter.1 (hD.mem_iff.1 hm)
  have h3 := h.bk x h1
  obtain ⟨a, u⟩ := x
  dsimp only at h2 h3
  obtain ⟨p, rfl⟩ : ∃ p : Nat, a = (p : Int) := ⟨a.toNat, by omega⟩
  have hp : p < 16 := by omega
  have h4 := lookT_mem h.ok.nd h1
  have h5 : 0 < A p := by
    rcases Int.lt_or_le 0 (A p) with h5 | h5
    · exact h5
    · have h6 := h.aR p hp
      rw [h.un p hp (by omega)] at h4; cases h4
  obtain ⟨h6, h7⟩ := h.st p hp h5
  rw [h4] at h7; cases h7
  refine ⟨p, hp, hx, h5, h6, by simpa using h2, zeroD_not _ _ _ fun y hy e => ?_⟩
  have hnd : (D.map (·.1)).Nodup := (hD.map _).nodup_iff.2 ((h.ok.sub (T' := dueF now T) List.filter_sublist).nd)
  obtain ⟨i, hi, rfl⟩ := List.mem_iff_getElem.1 hy
  have hiq : i < q := by simp at hi; omega
  rw [List.getElem_take] at e
  have h8 := (List.mem_filter.1 (hD.mem_iff.1 (show D[i] ∈ D by simp))).1
  have h9 := h.bk _ h8
  have h10 : D[i].1 = (p : Int) := by omega
  have h11 := List.pairwise_iff_getElem.1 (List.nodup_iff_pairwise_ne.1 hnd) i q (by simp; omega) (by simpa using hq) hiq
  simp [nth, hq] at hx
  apply h11
  simp [h10, hx]
theorem DuR.left {s now : Int} {A L I : Nat → Int} {T D : List Tm} (h : DuR s now A L I T) (hD : D.Perm (dueF now T)) :
    DuR s now (zeroD A D) L I (leftF now T) ∧ ∀ j, j < 16 → 0 < zeroD A D j → now < L j := by
  have hsub : (leftF now T).Sublist T := List.filter_sublist
  have key : ∀ j : Nat, j < 16 → (zeroD A D j = 0 ∧ lookT (j : Int) (leftF now T) = none) ∨ (0 < A j ∧ zeroD A D j = A j ∧ now < L j ∧ lookT (j : Int) (leftF now T) = some (L j)) := by
    intro j hj
    rcases Int.lt_or_le 0 (A j) with h1 | h1
    · obtain ⟨h2, h3⟩ := h.st j hj h1
      have h4 := lookT_left h.ok.nd now (j : Int)
      rw [h3] at h4
      dsimp only at h4
      by_cases h5 : now < L j
      · rw [if_pos h5] at h4
        refine Or.inr ⟨h1, zeroD_not _ _ _ fun x hx e => ?_, h5, h4⟩
        obtain ⟨h6, h7⟩ := List.mem_filter.1 (hD.mem_iff.1 hx)
        have h8 := h.bk x h6
        have h9 := lookT_mem h.ok.nd (show (x.1, x.2) ∈ T from h6)
        rw [show x.1 = (j : Int) by omega, h3] at h9
        have h10 : L j = x.2 := by simpa using h9
        have h11 : x.2 ≤ now := by simpa using h7
        omega
      · rw [if_neg h5] at h4
        refine Or.inl ⟨zeroD_in _ _ _ ⟨((j : Int), L j), hD.mem_iff.2 (List.mem_filter.2 ⟨lookT_some h3, by simp; omega⟩), by simp⟩, h4⟩
    · have h6 := h.aR j hj
      have h4 := h.un j hj (by omega)
      have h7 : lookT (j : Int) (leftF now T) = none := by rw [lookT_left h.ok.nd, h4]
      refine Or.inl ⟨?_, h7⟩
      rw [zeroD_not]
      · omega
      · intro x hx e
        obtain ⟨h8, _⟩ := List.mem_filter.1 (hD.mem_iff.1 hx)
        have h9 := h.bk x h8
        exact lookT_none h4 _ h8 (by omega)
  refine ⟨{ ok := h.ok.sub hsub, bk := h.bk.sub hsub, n0 := h.n0, lR := h.lR, aR := fun j hj => ?_, un := fun j hj hz => ?_, st := fun j hj hz => ?_ }, fun j hj hz => ?_⟩
  · rcases key j hj with ⟨h1, _⟩ | ⟨_, h1, _⟩
    · rw [h1]; decide
    · rw [h1]; exact h.aR j hj
  · rcases key j hj with ⟨_, h1⟩ | ⟨h0, h1, _⟩
    · exact h1
    · omega
  · rcases key j hj with ⟨h1, _⟩ | ⟨h0, h1, _, h2⟩
    · omega
    · rw [h1]; exact ⟨(h.st j hj h0).1, h2⟩
  · rcases key j hj with ⟨h1, _⟩ | ⟨h0, h1, h2, _⟩
    · omega
    · exact h2
end Go.Proofs.Ytliaoaejmmkkjaa

/- Each comes when it is due, in order, once: plain laws. -/
import Derived.Test.YtliaoaejmmkkjaaWR4

namespace Go.Proofs.Ytliaoaejmmkkjaa
open Go.RowKit
theorem nth_at {l : List Tm} {id : Int} {i j : Nat} (hn : (l.map (·.1)).Nodup) (hi : i < l.length) (hj : j < l.length) (h1 : (nth l i).1 = id) (h2 : (nth l j).1 = id) : i = j := by
  have e : (l.map (·.1))[i]'(by simpa using hi) = (l.map (·.1))[j]'(by simpa using hj) := by
    simp [nth, hi] at h1
    simp [nth, hj] at h2
    simp [h1, h2]
  have h3 := List.pairwise_iff_getElem.1 (List.nodup_iff_pairwise_ne.1 hn)
  rcases Nat.lt_trichotomy i j with h4 | h4 | h4
  · exact absurd e (h3 i j (by simpa using hi) (by simpa using hj) h4)
  · exact h4
  · exact absurd e.symm (h3 j i (by simpa using hj) (by simpa using hi) h4)
theorem mask1023 (n : Int) : bits .and .i64 n 1023 = n % 1024 := by
  have h127 : (BitVec.ofInt 64 1023).toNat = 2 ^ 10 - 1 := by decide
  have key : (BitVec.ofInt 64 n &&& BitVec.ofInt 64 1023).toNat = (n % ((2 ^ 64 : Nat) : Int)).toNat % 2 ^ 10 := by
    rw [BitVec.toNat_and, BitVec.toNat_ofInt, h127, Nat.and_two_pow_sub_one_eq_mod]
  show IntKind.i64.wrap ((BitVec.ofInt 64 n &&& BitVec.ofInt 64 1023).toNat : Nat) = n % 1024
  rw [key, IntKind.wrap_i64]
  omega
def encH (x : Int) : List Value := [.int .u16 x]
theorem encH_len (x : Int) : (encH x).length = 1 := rfl
def encU (x : Int) : List Value := [.int .u8 x]
theorem encU_len (x : Int) : (encU x).length = 1 := rfl
/-- how far each thing's tick is -/
def tick (l : List Int) (j : Nat) : Int := nth l j % 1024
def bsT (l : List Int) (k : Nat) : List Tm := (List.range k).map fun j : Nat => ((j : Int), tick l j)
theorem bsT_succ (l : List Int) (k : Nat) : bsT l (k + 1) = bsT l k ++ [((k : Int), tick l k)] := by simp [bsT, List.range_succ]
theorem bsT_mem {l : List Int} {k : Nat} {x : Tm} (h : x ∈ bsT l k) : ∃ j, j < k ∧ x = ((j : Int), tick l j) := by
  obtain ⟨j, h1, rfl⟩ := List.mem_map.1 h
  exact ⟨j, List.mem_range.1 h1, rfl⟩
theorem bsT_look (l : List Int) (k : Nat) : lookT (k : Int) (bsT l k) = none := by
  cases e : lookT (k : Int) (bsT l k) with
  | none => rfl
  | some v =>
    obtain ⟨j, h1, h2⟩ := bsT_mem (lookT_some e)
    have := congrArg Prod.fst h2
    simp at this
    omega
theorem bsT_set (l : List Int) (k : Nat) : setT (k : Int) (tick l k) (bsT l k) = bsT l (k + 1) := by
  unfold setT
  rw [dropT_none (bsT_look l k), bsT_succ]
theorem bsT_len (l : List Int) (k : Nat) : (bsT l k).length = k := by simp [bsT]
theorem bsT_ok (l : List Int) (k : Nat) : TOk (bsT l k) := by
  induction k with
  | zero => exact TOk.nil
  | succ k ih =>
    rw [bsT_succ]
    exact ih.add (bsT_look l k) (by unfold tick; omega)
theorem leftF_all {l : List Int} {k : Nat} : leftF (-1) (bsT l k) = bsT l k := by
  apply List.filter_eq_self.2
  intro x hx
  obtain ⟨j, _, rfl⟩ := bsT_mem hx
  show decide (-1 < tick l j) = true
  rw [decide_eq_true_iff]; unfold tick; omega
theorem leftF_left {a b : Int} (h : a ≤ b) (T : List Tm) : leftF b (leftF a T) = leftF b T := by
  unfold leftF
  rw [List.filter_filter]
  apply List.filter_congr
  intro x _
  rw [Bool.eq_iff_iff]
  simp only [Bool.and_eq_true, decide_eq_true_eq]
  omega
theorem leftF_none {l : List Int} {k : Nat} {now : Int} (h : 1024 ≤ now) : leftF now (bsT l k) = [] := by
  apply List.filter_eq_nil_iff.2
  intro x hx
  obtain ⟨j, _, rfl⟩ := bsT_mem hx
  show ¬ decide (now < tick l j) = true
  rw [decide_eq_true_iff]; unfold tick; omega
/-- how often each thing has come -/
def gotD (D : Int) (l : List Int) : List Int := (List.range l.length).map fun j => if tick l j ≤ D then 1 else 0
theorem gotD_len (D : Int) (l : List Int) : (gotD D l).length = l.length := by simp [gotD]
theorem gotD_get (D : Int) (l : List Int) {j : Nat} (h : j < l.length) : nth (gotD D l) j = if tick l j ≤ D then 1 else 0 := by simp [gotD, nth, h]
def addG (g : List Int) (A : List Tm) : List Int := A.foldl (fun g x => g.set x.1.toNat (nth g x.1.toNat + 1)) g
theorem addG_len (g : List Int) (A : List Tm) : (addG g A).length = g.length := by
  induction A generalizing g with
  | nil => rfl
  | cons x r ih => show (addG (g.set _ _) r).length = _; rw [ih]; simp
theorem addG_succ (g : List Int) {A : List Tm} {k : Nat} (h : k < A.length) : addG g (A.take (k + 1)) = (addG g (A.take k)).set (nth A k).1.toNat (nth (addG g (A.take k)) (nth A k).1.toNat + 1) := by
  have e : nth A k = A[k] := by simp [nth, h]
  rw [List.take_succ_eq_append_getElem h, e]
  unfold addG
  rw [List.foldl_append]; rfl
theorem addG_get {g : List Int} {A : List Tm} (hn : (A.map (·.1)).Nodup) (hA : ∀ x ∈ A, 0 ≤ x.1 ∧ x.1.toNat < g.length) {j : Nat} (hj : j < g.length) : nth (addG g A) j = nth g j + (if (j : Int) ∈ A.map (·.1) then 1 else 0) := by
  induction A generalizing g with
  | nil => simp [addG]
  | cons x r ih =>
    simp only [List.map_cons, List.nodup_cons] at hn
    have hx := hA x (by simp)
    show nth (addG (g.set x.1.toNat (nth g x.1.toNat + 1)) r) j = _
    rw [ih hn.2 (fun y hy => by have := hA y (by simp [hy]); simpa using this) (by simpa using hj)]
    by_cases e : x.1.toNat = j
    · have hj2 : (j : Int) = x.1 := by omega
      have h1 : nth (g.set x.1.toNat (nth g x.1.toNat + 1)) j = nth g j + 1 := by
        rw [e]; simp [nth, hj]
      have h2 : ¬ (j : Int) ∈ r.map (·.1) := by rw [hj2]; exact hn.1
      rw [h1, if_neg h2, if_pos (by simp [hj2])]
      omega
    · have h1 : nth (g.set x.1.toNat (nth g x.1.toNat + 1)) j = nth g j := by
        simp [nth, List.getElem?_set_ne e]
      have h2 : (j : Int) ≠ x.1 := by omega
      rw [h1]
      simp only [List.map_cons, List.mem_cons, h2, false_or]
theorem addG_due {l : List Int} {D now : Int} {A : List Tm} (h : D ≤ now) (hp : A.Perm (dueF now (leftF D (bsT l l.length)))) : addG (gotD D l) A = gotD now l := by
  have ok := ((bsT_ok l l.length).sub (T' := leftF D (bsT l l.length)) List.filter_sublist).sub (T' := dueF now (leftF D (bsT l l.length))) List.filter_sublist
  have hn : (A.map (·.1)).Nodup := (hp.map _).nodup_iff.2 ok.nd
  have hA : ∀ x ∈ A, ∃ j, j < l.length ∧ x = ((j : Int), tick l j) ∧ D < x.2 ∧ x.2 ≤ now := by
    intro x hx
    have h1 := List.mem_filter.1 (hp.mem_iff.1 hx)
    have h2 := List.mem_filter.1 h1.1
    obtain ⟨j, h3, h4⟩ := bsT_mem h2.1
    exact ⟨j, h3, h4, by simpa using h2.2, by simpa using h1.2⟩
  have hin : ∀ j, j < l.length → ((j : Int) ∈ A.map (·.1) ↔ D < tick l j ∧ tick l j ≤ now) := by
    intro j hj
    constructor
    · intro h1
      obtain ⟨x, hx, he⟩ := List.mem_map.1 h1
      obtain ⟨i, h2, rfl, h3, h4⟩ := hA x hx
      have : i = j := by simp at he; omega
      subst this
      exact ⟨h3, h4⟩
    · rintro ⟨h1, h2⟩
      refine List.mem_map.2 ⟨((j : Int), tick l j), hp.mem_iff.2 (List.mem_filter.2 ⟨List.mem_filter.2 ⟨?_, by simpa using h1⟩, by simpa using h2⟩), rfl⟩
      exact List.mem_map.2 ⟨j, List.mem_range.2 hj, rfl⟩
  apply List.ext_getElem (by rw [addG_len, gotD_len, gotD_len])
  intro j h1 h2
  have hj : j < l.length := by rw [gotD_len] at h2; exact h2
  have hg := addG_get (g := gotD D l) hn (fun x hx => by obtain ⟨i, h3, rfl, _⟩ := hA x hx; rw [gotD_len]; exact ⟨by simp, by simpa using h3⟩) (j := j) (by rw [gotD_len]; exact hj)
  have e1 : (addG (gotD D l) A)[j] = nth (addG (gotD D l) A) j := by simp [nth, h1]
  have e2 : (gotD now l)[j] = nth (gotD now l) j := by simp [nth, h2]
  rw [e1, e2, hg, gotD_get D l hj, gotD_get now l hj]
  by_cases c : (j : Int) ∈ A.map (·.1)
  · have := (hin j hj).1 c
    rw [if_pos c, if_neg (by omega), if_pos (by omega)]; rfl
  · have : ¬ (D < tick l j ∧ tick l j ≤ now) := fun h => c ((hin j hj).2 h)
    rw [if_neg c]
    split <;> split <;> omega
theorem gotD_zero (l : List Int) : gotD (-1) l = List.replicate l.length 0 := by
  apply List.ext_getElem (by simp [gotD])
  intro j h1 h2
  simp only [gotD, List.getElem_map, List.getElem_range, List.getElem_replicate]
  rw [if_neg]
  unfold tick; omega
theorem gotD_all {l : List Int} {now : Int} (h : 1024 ≤ now) {j : Nat} (hj : j < l.length) : nth (gotD now l) j = 1 := by
  rw [gotD_get now l hj, if_pos]
  unfold tick; omega
/-- a thing that is due -/
theorem due_at {l : List Int} {D now : Int} {A : List Tm} (hp : A.Perm (dueF now (leftF D (bsT l l.length)))) {k : Nat} (hk : k < A.length) : ∃ p : Nat, p < l.length ∧ nth A k = ((p : Int), tick l p) ∧ D < tick l p ∧ tick l p ≤ now := by
  have hm : nth A k ∈ A := by simp [nth, hk]
  have h1 := List.mem_filter.1 (hp.mem_iff.1 hm)
  have h2 := List.mem_filter.1 h1.1
  obtain ⟨j, h3, h4⟩ := bsT_mem h2.1
  have h5 := h2.2
  have h6 := h1.2
  rw [h4] at h5 h6
  exact ⟨j, h3, h4, by simpa using h5, by simpa using h6⟩
theorem due_before {A : List Tm} (hs : A.Pairwise leTm) {k : Nat} (hk : k < A.length) (h0 : 0 < k) : (nth A (k - 1)).2 ≤ (nth A k).2 := by
  have h1 : k - 1 < A.length := by omega
  have := List.pairwise_iff_getElem.1 hs (k - 1) k h1 hk (by omega)
  rw [leTm_iff] at this
  simp [nth, hk, h1]
  omega
theorem got_zero {l : List Int} {D now : Int} {A : List Tm} (hn : (A.map (·.1)).Nodup) (hp : A.Perm (dueF now (leftF D (bsT l l.length)))) {q p : Nat} (hq : q < A.length) (hpl : p < l.length) (hnp : nth A q = ((p : Int), tick l p)) (hd : D < tick l p) : nth (addG (gotD D l) (A.take q)) p = 0 := by
  have hA : ∀ x ∈ A.take q, 0 ≤ x.1 ∧ x.1.toNat < (gotD D l).length := by
    intro x hx
    obtain ⟨i, hi, rfl⟩ := List.mem_iff_getElem.1 hx
    have hi2 : i < A.length := by simp at hi; omega
    obtain ⟨j, h1, h2, _⟩ := due_at hp hi2
    rw [List.getElem_take]
    rw [show nth A i = A[i] by simp [nth, hi2]] at h2
    rw [h2, gotD_len]
    exact ⟨by simp, by simpa using h1⟩
  have hn2 : ((A.take q).map (·.1)).Nodup := (List.Sublist.map _ (List.take_sublist q A)).nodup hn
  rw [addG_get hn2 hA (by rw [gotD_len]; exact hpl), gotD_get D l hpl, if_neg (by omega), if_neg]
  · rfl
  · intro h
    obtain ⟨x, hx, he⟩ := List.mem_map.1 h
    obtain ⟨i, hi, rfl⟩ := List.mem_iff_getElem.1 hx
    have hi1 : i < q := by simp at hi; omega
    have hi2 : i < A.length := by omega
    rw [List.getElem_take] at he
    have h1 : (nth A i).1 = (p : Int) := by simpa [nth, hi2] using he
    have h3 : (nth A q).1 = (p : Int) := by rw [hnp]
    have := nth_at hn hi2 hq h1 h3
    omega
end Go.Proofs.Ytliaoaejmmkkjaa

/- Rows of beats by their nodes: what the document's calls come to. -/
import Derived.Test.YtliaoaejmmkkjaaBA1

namespace Go.Proofs.Ytliaoaejmmkkjaa
open Go.RowKit
theorem mem_allG {I : Nat → Int} {T : List Tm} {k : Nat} {x : Bt} : x ∈ allG (btj I T) k ↔ ∃ j u, j < k ∧ lookT ((j : Nat) : Int) T = some u ∧ x = ((j : Int), I j, u) := by
  unfold allG btj
  rw [List.mem_flatMap]
  constructor
  · rintro ⟨j, hj, hx⟩
    have hj := List.mem_range.1 hj
    cases e : lookT (j : Int) T with
    | none => rw [e] at hx; cases hx
    | some u => rw [e] at hx; simp at hx; exact ⟨j, u, hj, e, hx⟩
  · rintro ⟨j, u, hj, e, rfl⟩
    exact ⟨j, List.mem_range.2 hj, by rw [e]; simp⟩
theorem allG_sorted (I : Nat → Int) (T : List Tm) : ∀ k, (allG (btj I T) k).Pairwise fun x y => x.1 < y.1 := by
  intro k
  induction k with
  | zero => exact .nil
  | succ k ih =>
    rw [allG_succ, List.pairwise_append]
    refine ⟨ih, ?_, ?_⟩
    · unfold btj; split
      · exact List.pairwise_singleton _ _
      · exact .nil
    · intro x hx y hy
      obtain ⟨j, u, hj, _, rfl⟩ := mem_allG.1 hx
      unfold btj at hy
      split at hy
      · simp at hy; subst hy; dsimp only; omega
      · cases hy
theorem allG_congr {G G' : Nat → List Bt} : ∀ k, (∀ j, j < k → G j = G' j) → allG G k = allG G' k := by
  intro k
  induction k with
  | zero => intro _; rfl
  | succ k ih => intro h; rw [allG_succ, allG_succ, ih fun j hj => h j (by omega), h k (by omega)]
theorem woB_all (I : Nat → Int) (T : List Tm) (id : Int) : ∀ k, woB id (allG (btj I T) k) = allG (btj I (dropT id T)) k := by
  intro k
  induction k with
  | zero => rfl
  | succ k ih =>
    rw [allG_succ, allG_succ, ← ih]
    have e : woB id (allG (btj I T) k ++ btj I T k) = woB id (allG (btj I T) k) ++ woB id (btj I T k) := by unfold woB; rw [List.filter_append]
    rw [e]
    congr 1
    by_cases hk : (k : Int) = id
    · unfold btj
      rw [← hk, dropT_look]
      cases lookT (k : Int) T with
      | none => rfl
      | some u => simp [woB]
    · unfold btj
      rw [lookT_drop hk]
      cases lookT (k : Int) T with
      | none => rfl
      | some u => simp [woB, hk]
theorem sorted_mem_eq {a b : List Bt} (ha : a.Pairwise fun x y => x.1 < y.1) (hb : b.Pairwise fun x y => x.1 < y.1) (h : ∀ x, x ∈ a ↔ x ∈ b) : a = b := by
  have na : a.Nodup := List.nodup_iff_pairwise_ne.2 (ha.imp fun {x y} h e => by subst e; omega)
  have nb : b.Nodup := List.nodup_iff_pairwise_ne.2 (hb.imp fun {x y} h e => by subst e; omega)
  exact List.Perm.eq_of_pairwise (fun x y _ _ h1 h2 => absurd h1 (by omega)) ha hb ((List.perm_ext_iff_of_nodup na nb).2 h)
theorem nth_memB {l : List Bt} {k : Nat} (h : k < l.length) : nth l k ∈ l := by simp [nth, h]
theorem nth_lt {l : List Bt} (hs : l.Pairwise fun x y => x.1 < y.1) {i j : Nat} (hi : i < j) (hj : j < l.length) : (nth l i).1 < (nth l j).1 := by
  have := List.pairwise_iff_getElem.1 hs i j (by omega) hj hi
  simpa [nth, hj, show i < l.length by omega] using this
/-- a beat put in its place -/
theorem ins_all {I : Nat → Int} {T : List Tm} {p : Nat} {inc u : Int} {k : Nat} (hp : p < 16) {W : List Bt} (hW : W = allG (btj I (dropT (p : Int) T)) 16) (hk : k ≤ W.length) (hlt : ∀ j, j < k → (nth W j).1 < (p : Int)) (hst : k = W.length ∨ ¬ (nth W k).1 < (p : Int)) :
    W.take k ++ [((p : Int), inc, u)] ++ W.drop k = allG (btj (upd I p inc) (setT (p : Int) u T)) 16 := by
  have hs := allG_sorted I (dropT (p : Int) T) 16
  rw [← hW] at hs
  have hm : ∀ x, x ∈ W ↔ ∃ j v, j < 16 ∧ j ≠ p ∧ lookT ((j : Nat) : Int) T = some v ∧ x = ((j : Int), I j, v) := by
    intro x
    rw [hW, mem_allG]
    constructor
    · rintro ⟨j, v, h1, h2, h3⟩
      by_cases e : j = p
      · subst e; rw [dropT_look] at h2; cases h2
      · rw [lookT_drop (by omega)] at h2; exact ⟨j, v, h1, e, h2, h3⟩
    · rintro ⟨j, v, h1, e, h2, h3⟩
      exact ⟨j, v, h1, by rw [lookT_drop (by omega)]; exact h2, h3⟩
  have htk : ∀ y ∈ W.take k, y.1 < (p : Int) := by
    intro y hy
    obtain ⟨i, hi, rfl⟩ := List.mem_iff_getElem.1 hy
    have hik : i < k := by simp at hi; omega
    have := hlt i hik
    rw [List.getElem_take]
    simpa [nth, show i < W.length by omega] using this
  have hdk : ∀ y ∈ W.drop k, (p : Int) < y.1 := by
    intro y hy
    have hyW : y ∈ W := List.mem_of_mem_drop hy
    obtain ⟨j, v, h1, h2, h3, h4⟩ := (hm y).1 hyW
    obtain ⟨i, hi, he⟩ := List.mem_iff_getElem.1 hy
    rw [List.getElem_drop] at he
    have hil : k + i < W.length := by simp at hi; omega
    rcases hst with h | h
    · omega
    · have hy2 : y.1 = (nth W (k + i)).1 := by rw [← he]; simp [nth, hil]
      have hge : (nth W k).1 ≤ y.1 := by
        rw [hy2]
        rcases Nat.eq_zero_or_pos i with h5 | h5
        · subst h5; exact Int.le_refl _
        · have := nth_lt hs (show k < k + i by omega) hil; omega
      subst h4
      dsimp only at hge ⊢
      omega
  refine sorted_mem_eq ?_ (allG_sorted _ _ 16) fun x => ?_
  · have h0 := hs
    rw [← List.take_append_drop k W, List.pairwise_append] at h0
    obtain ⟨h1, h2, h3⟩ := h0
    rw [List.append_assoc, List.pairwise_append]
    refine ⟨h1, ?_, fun a ha b hb => ?_⟩
    · exact List.pairwise_cons.2 ⟨fun y hy => hdk y hy, h2⟩
    · rcases List.mem_cons.1 hb with rfl | hb
      · exact htk a ha
      · exact h3 a ha b hb
  · have h1 : x ∈ W.take k ++ [((p : Int), inc, u)] ++ W.drop k ↔ x ∈ W ∨ x = ((p : Int), inc, u) := by
      rw [List.mem_append, List.mem_append, List.mem_singleton]
      constructor
      · rintro ((h | h) | h)
        · exact Or.inl (List.mem_of_mem_take h)
        · exact Or.inr h
        · exact Or.inl (List.mem_of_mem_drop h)
      · rintro (h | h)
        · rw [← List.take_append_drop k W, List.mem_append] at h
          rcases h with h | h
          · exact Or.inl (Or.inl h)
          · exact Or.inr h
        · exact Or.inl (Or.inr h)
    rw [h1, hm, mem_allG]
    constructor
    · rintro (⟨j, v, h2, h3, h4, rfl⟩ | rfl)
      · exact ⟨j, v, h2, by rw [lookT_set, if_neg (by omega)]; exact h4, by rw [upd_other _ _ h3]⟩
      · exact ⟨p, u, hp, by rw [lookT_set, if_pos rfl], by rw [upd_same]⟩
    · rintro ⟨j, v, h2, h3, rfl⟩
      by_cases e : j = p
      · subst e
        rw [lookT_set, if_pos rfl] at h3
        cases h3
        right; rw [upd_same]
      · rw [lookT_set, if_neg (by omega)] at h3
        left
        exact ⟨j, v, h2, e, h3, by rw [upd_other _ _ e]⟩
/-- where a node's beat stands in the row -/
theorem find_all {I : Nat → Int} {T : List Tm} (hB : BOk T) {id : Int} : (lookT id T = none ↔ ∀ x ∈ allG (btj I T) 16, x.1 ≠ id) ∧ ∀ k, k < (allG (btj I T) 16).length → (nth (allG (btj I T) 16) k).1 = id → ∃ u, lookT id T = some u ∧ nth (allG (btj I T) 16) k = (id, I id.toNat, u) := by
  refine ⟨⟨fun h x hx e => ?_, fun h => ?_⟩, fun k hk e => ?_⟩
  · obtain ⟨j, u, _, h2, rfl⟩ := mem_allG.1 hx
    dsimp only at e
    subst e; rw [h] at h2; cases h2
  · cases e : lookT id T with
    | none => rfl
    | some u =>
      have h4 := hB _ (lookT_some e)
      dsimp only at h4
      have e2 : ((id.toNat : Nat) : Int) = id := by omega
      exact absurd rfl (h (id, I id.toNat, u) (mem_allG.2 ⟨id.toNat, u, by omega, by rw [e2]; exact e, by rw [e2]⟩))
  · obtain ⟨j, u, _, h2, h3⟩ := mem_allG.1 (nth_memB hk)
    rw [h3] at e ⊢
    dsimp only at e
    subst e
    exact ⟨u, h2, by simp⟩
structure DuW (now : Int) (T O Tn : List Tm) : Prop where
  ok : TOk Tn
  bk : BOk Tn
  so : O.Pairwise leTm
  lt : ∀ x ∈ O, ∀ y ∈ dueF now Tn, leTm x y
  pm : (O ++ dueF now Tn).Perm (dueF now T)
  lf : leftF now Tn = leftF now T
theorem DuW.zero {now : Int} {T : List Tm} (ok : TOk T) (bk : BOk T) : DuW now T [] T := ⟨ok, bk, .nil, fun _ h => (List.not_mem_nil h).elim, .refl _, rfl⟩
theorem DuW.next {now : Int} {T O Tn : List Tm} (h : DuW now T O Tn) {e : Tm} (he : e ∈ dueF now Tn) (hmin : ∀ y ∈ dueF now Tn, leTm e y) : DuW now T (O ++ [e]) (dropT e.1 Tn) := by
  have hT := (List.mem_filter.1 he).1
  have hnow : e.2 ≤ now := by simpa using (List.mem_filter.1 he).2
  have hl := lookT_mem h.ok.nd (show (e.1, e.2) ∈ Tn from hT)
  have hdd : dueF now (dropT e.1 Tn) = dropT e.1 (dueF now Tn) := by
    unfold dropT dueF
    rw [List.filter_filter, List.filter_filter]
    congr 1
    funext x
    exact Bool.and_comm _ _
  have hnd := (h.ok.sub (T' := dueF now Tn) List.filter_sublist).nd
  have hpm : (e :: dropT e.1 (dueF now Tn)).Perm (dueF now Tn) := by
    have key : ∀ l : List Tm, (l.map (·.1)).Nodup → e ∈ l → (e :: dropT e.1 l).Perm l := by
      intro l
      induction l with
      | nil => intro _ h; cases h
      | cons z r ih =>
        intro hn hm
        simp only [List.map_cons, List.nodup_cons] at hn
        rcases List.mem_cons.1 hm with h1 | h1
        · subst h1
          have : dropT e.1 (e :: r) = r := by
            unfold dropT
            rw [List.filter_cons_of_neg (by simp)]
            exact List.filter_eq_self.2 fun x hx => by
              simp only [decide_eq_true_eq]
              intro e2
              exact hn.1 (List.mem_map.2 ⟨x, hx, e2⟩)
          rw [this]
        · have hne : z.1 ≠ e.1 := fun e2 => hn.1 (List.mem_map.2 ⟨e, h1, e2.symm⟩)
          have : dropT e.1 (z :: r) = z :: dropT e.1 r := by
            unfold dropT
            rw [List.filter_cons_of_pos (by simp [hne])]
          rw [this]
          exact (List.Perm.swap z e _).trans ((ih hn.2 h1).cons z)
    exact key _ hnd he
  refine ⟨h.ok.drop _, h.bk.sub List.filter_sublist, ?_, ?_, ?_, ?_⟩
  · rw [List.pairwise_append]
    exact ⟨h.so, List.pairwise_singleton _ _, fun x hx y hy => by simp at hy; subst hy; exact h.lt x hx _ he⟩
  · intro x hx y hy
    rw [hdd] at hy
    have hy2 : y ∈ dueF now Tn := (List.mem_filter.1 (show y ∈ (dueF now Tn).filter fun x => decide (x.1 ≠ e.1) from hy)).1
    rcases List.mem_append.1 hx with h1 | h1
    · exact h.lt x h1 y hy2
    · simp at h1; subst h1; exact hmin y hy2
  · rw [hdd, List.append_assoc]
    exact (hpm.append_left O).trans h.pm
  · have h1 : leftF now (dropT e.1 Tn) = dropT e.1 (leftF now Tn) := by
      unfold dropT leftF
      rw [List.filter_filter, List.filter_filter]
      congr 1
      funext x
      exact Bool.and_comm _ _
    rw [h1, dropT_none, h.lf]
    rw [lookT_left h.ok.nd, hl]
    dsimp only
    rw [if_neg (by omega)]
theorem DuW.done {now : Int} {T O Tn : List Tm} (h : DuW now T O Tn) (he : dueF now Tn = []) : O.Perm (dueF now T) ∧ O.Pairwise leTm ∧ Tn = leftF now T := by
  refine ⟨by have := h.pm; rw [he, List.append_nil] at this; exact this, h.so, ?_⟩
  rw [← h.lf]
  unfold leftF
  refine (List.filter_eq_self.2 fun x hx => ?_).symm
  have h1 : x ∉ dueF now Tn := by rw [he]; exact List.not_mem_nil
  have h2 : ¬ x.2 ≤ now := fun h2 => h1 (List.mem_filter.2 ⟨hx, by simpa using h2⟩)
  simpa using h2
/-- the first that is due, so far -/
def BestB (now : Int) (row : List Bt) (i : Nat) (b : Int) : Prop :=
  (b = -1 ∧ ∀ j, j < i → now < (nth row j).2.2) ∨ ∃ p : Nat, b = (p : Int) ∧ p < i ∧ (nth row p).2.2 ≤ now ∧ (∀ j, j < p → now < (nth row j).2.2 ∨ (nth row p).2.2 < (nth row j).2.2) ∧ ∀ j, j < i → now < (nth row j).2.2 ∨ (nth row p).2.2 ≤ (nth row j).2.2
theorem BestB.zero (now : Int) (row : List Bt) : BestB now row 0 (-1) := Or.inl ⟨rfl, fun j h => absurd h (by omega)⟩
theorem BestB.skip {now : Int} {row : List Bt} {i : Nat} {b : Int} (h : BestB now row i b) (hn : now < (nth row i).2.2) : BestB now row (i + 1) b := by
  rcases h with ⟨h1, h2⟩ | ⟨p, h1, h2, h3, h4, h5⟩
  · refine Or.inl ⟨h1, fun j hj => ?_⟩
    rcases Nat.lt_or_ge j i with h | h
    · exact h2 j h
    · have : j = i := by omega
      subst this; exact hn
  · refine Or.inr ⟨p, h1, by omega, h3, h4, fun j hj => ?_⟩
    rcases Nat.lt_or_ge j i with h | h
    · exact h5 j h
    · have : j = i := by omega
      subst this; exact Or.inl hn
theorem BestB.keep {now : Int} {row : List Bt} {i p : Nat} (h : BestB now row i (p : Int)) (hn : (nth row p).2.2 ≤ (nth row i).2.2) : BestB now row (i + 1) (p : Int) := by
  rcases h with ⟨h1, _⟩ | ⟨p', h1, h2, h3, h4, h5⟩
  · omega
  · have : p = p' := by omega
    subst this
    refine Or.inr ⟨p, rfl, by omega, h3, h4, fun j hj => ?_⟩
    rcases Nat.lt_or_ge j i with h | h
    · exact h5 j h
    · have : j = i := by omega
      subst this; exact Or.inr hn
theorem BestB.take {now : Int} {row : List Bt} {i : Nat} {b : Int} (h : BestB now row i b) (hn : (nth row i).2.2 ≤ now) (hb : b < 0 ∨ ∃ p : Nat, b = (p : Int) ∧ (nth row i).2.2 < (nth row p).2.2) : BestB now row (i + 1) (i : Int) := by
  refine Or.inr ⟨i, rfl, by omega, hn, fun j hj => ?_, fun j hj => ?_⟩
  · rcases h with ⟨h1, h2⟩ | ⟨p, h1, h2, h3, h4, h5⟩
    · exact Or.inl (h2 j hj)
    · rcases hb with hb | ⟨p', hb1, hb2⟩
      · omega
      · have : p = p' := by omega
        subst this
        rcases h5 j hj with h6 | h6
        · exact Or.inl h6
        · right; omega
  · rcases Nat.lt_or_ge j i with hj | hj
    · rcases h with ⟨h1, h2⟩ | ⟨p, h1, h2, h3, h4, h5⟩
      · exact Or.inl (h2 j hj)
      · rcases hb with hb | ⟨p', hb1, hb2⟩
        · omega
        · have : p = p' := by omega
          subst this
          rcases h5 j hj with h6 | h6
          · exact Or.inl h6
          · right; omega
    · have : j = i := by omega
      subst this; exact Or.inr (Int.le_refl _)
theorem mem_row {I : Nat → Int} {T : List Tm} (hB : BOk T) (ok : TOk T) {y : Tm} (h : y ∈ T) : ∃ j, j < (allG (btj I T) 16).length ∧ nth (allG (btj I T) 16) j = (y.1, I y.1.toNat, y.2) := by
  have h4 := hB _ h
  have e2 : ((y.1.toNat : Nat) : Int) = y.1 := by omega
  have hm : (y.1, I y.1.toNat, y.2) ∈ allG (btj I T) 16 := mem_allG.2 ⟨y.1.toNat, y.2, by omega, by rw [e2]; exact lookT_mem ok.nd h, by rw [e2]⟩
  obtain ⟨j, hj, e⟩ := List.mem_iff_getElem.1 hm
  exact ⟨j, hj, by simp [nth, hj, e]⟩
theorem BestB.none {now : Int} {I : Nat → Int} {T : List Tm} {b : Int} (hB : BOk T) (ok : TOk T) (h : BestB now (allG (btj I T) 16) (allG (btj I T) 16).length b) (hb : b < 0) : dueF now T = [] := by
  rcases h with ⟨_, h2⟩ | ⟨p, h1, _⟩
  · refine List.filter_eq_nil_iff.2 fun y hy => ?_
    obtain ⟨j, hj, e⟩ := mem_row (I := I) hB ok hy
    have := h2 j hj
    rw [e] at this
    simp; exact this
  · omega
theorem BestB.some {now : Int} {I : Nat → Int} {T : List Tm} {p : Nat} (hB : BOk T) (ok : TOk T) (h : BestB now (allG (btj I T) 16) (allG (btj I T) 16).length (p : Int)) :
    ∃ e : Tm, p < (allG (btj I T) 16).length ∧ nth (allG (btj I T) 16) p = btOf I e ∧ e ∈ dueF now T ∧ ∀ y ∈ dueF now T, leTm e y := by
  rcases h with ⟨h1, _⟩ | ⟨p', h1, h2, h3, h4, h5⟩
  · omega
  · have : p = p' := by omega
    subst this
    obtain ⟨j, u, hj, hl, he⟩ := mem_allG.1 (nth_memB h2)
    refine ⟨((j : Int), u), h2, by rw [he]; simp [btOf], ?_, fun y hy => ?_⟩
    · rw [he] at h3
      exact List.mem_filter.2 ⟨lookT_some hl, by simpa using h3⟩
    · obtain ⟨hy1, hy2⟩ := List.mem_filter.1 hy
      have hy3 : y.2 ≤ now := by simpa using hy2
      obtain ⟨i, hi, e⟩ := mem_row (I := I) hB ok hy1
      have h6 := h4 i
      have h7 := h5 i hi
      rw [e, he] at h6 h7
      dsimp only at h6 h7
      rw [leTm_iff]
      dsimp only
      rcases Nat.lt_trichotomy i p with h8 | h8 | h8
      · have := h6 h8; omega
      · subst h8
        rw [e] at he
        simp only [Prod.mk.injEq] at he
        omega
      · have h9 := nth_lt (allG_sorted I T 16) h8 hi
        rw [e, he] at h9
        dsimp only at h9
        omega
theorem wo_len {l : List Bt} {p : Nat} (h : p < l.length) : (woB (nth l p).1 l).length + 1 ≤ l.length := by
  have : (woB (nth l p).1 l).length < l.length := by
    unfold woB
    rw [List.length_filter_lt_length_iff_exists]
    exact ⟨nth l p, nth_memB h, by simp⟩
  omega
end Go.Proofs.Ytliaoaejmmkkjaa

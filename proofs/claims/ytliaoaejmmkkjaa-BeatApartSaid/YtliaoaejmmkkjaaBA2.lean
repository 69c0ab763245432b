/- What is heard of one node changes nothing of others: in plain words. -/
import Derived.Test.YtliaoaejmmkkjaaBA1

namespace Go.Proofs.Ytliaoaejmmkkjaa
open Go.RowKit
abbrev A4 := Int × Int × Int × Int
def encA4 (x : A4) : List Value := [i64 x.1, i64 x.2.1, i64 x.2.2.1, i64 x.2.2.2]
theorem encA4_len (x : A4) : (encA4 x).length = 4 := rfl
theorem encA4_clean (x : A4) : cleanL (encA4 x) = true := rfl
theorem lookT_perm {T T' : List Tm} (hn : (T.map (·.1)).Nodup) (p : T.Perm T') (id : Int) : lookT id T = lookT id T' := by
  have hn' : (T'.map (·.1)).Nodup := (p.map _).nodup_iff.1 hn
  cases e : lookT id T' with
  | some v => exact lookT_mem hn (p.mem_iff.2 (lookT_some e))
  | none =>
    cases e2 : lookT id T with
    | none => rfl
    | some v => exact absurd rfl (lookT_none e _ (p.mem_iff.1 (lookT_some e2)))
structure ApR (node : Int) (I1 : Nat → Int) (T1 : List Tm) (I2 : Nat → Int) (T2 : List Tm) : Prop where
  ok : TOk T1
  bk : BOk T1
  pm : (dropT node T1).Perm T2
  eI : ∀ j : Nat, (j : Int) ≠ node → I1 j = I2 j
theorem ApR.zero (node : Int) : ApR node (fun _ => 0) [] (fun _ => 0) [] := ⟨TOk.nil, fun _ hx => (List.not_mem_nil hx).elim, .refl _, fun _ _ => rfl⟩
theorem ApR.ok2 {node : Int} {I1 I2 : Nat → Int} {T1 T2 : List Tm} (h : ApR node I1 T1 I2 T2) : TOk T2 ∧ BOk T2 ∧ T2.length ≤ T1.length := by
  refine ⟨(h.ok.drop node).perm h.pm, fun x hx => h.bk x (List.filter_sublist.subset (h.pm.mem_iff.2 hx)), ?_⟩
  rw [← h.pm.length_eq]; exact dropT_len _ _
theorem ApR.look {node : Int} {I1 I2 : Nat → Int} {T1 T2 : List Tm} (h : ApR node I1 T1 I2 T2) (n : Int) : lookT n T2 = if n = node then none else lookT n T1 := by
  rw [← lookT_perm (h.ok.drop node).nd h.pm n]
  split
  · rename_i e; subst e; exact dropT_look _ _
  · rename_i e; exact lookT_drop e
theorem dropT_drop (a b : Int) (T : List Tm) : dropT a (dropT b T) = dropT b (dropT a T) := by
  unfold dropT
  rw [List.filter_filter, List.filter_filter]
  congr 1
  funext x
  exact Bool.and_comm _ _
theorem dropT_idem (a : Int) (T : List Tm) : dropT a (dropT a T) = dropT a T := dropT_none (dropT_look a T)
theorem dropT_set_same (a v : Int) (T : List Tm) : dropT a (setT a v T) = dropT a T := by
  unfold setT
  have e : dropT a (dropT a T ++ [(a, v)]) = dropT a (dropT a T) ++ dropT a [(a, v)] := by unfold dropT; rw [List.filter_append]
  rw [e, dropT_idem]
  simp [dropT]
theorem dropT_set_other {a b : Int} (h : a ≠ b) (v : Int) (T : List Tm) : dropT a (setT b v T) = setT b v (dropT a T) := by
  unfold setT
  have e : dropT a (dropT b T ++ [(b, v)]) = dropT a (dropT b T) ++ dropT a [(b, v)] := by unfold dropT; rw [List.filter_append]
  rw [e, dropT_drop]
  congr 1
  simp [dropT, Ne.symm h]
theorem dropT_permT {T T' : List Tm} (a : Int) (p : T.Perm T') : (dropT a T).Perm (dropT a T') := p.filter _
theorem setT_perm {T T' : List Tm} (a v : Int) (p : T.Perm T') : (setT a v T).Perm (setT a v T') := (dropT_permT a p).append_right _
theorem ApR.seen_mine {s node inc now e : Int} {I1 I2 I' : Nat → Int} {T1 T2 T' : List Tm} (h : ApR node I1 T1 I2 T2) (hs : seenF s I1 T1 node inc now = (e, I', T')) : ApR node I' T' I2 T2 := by
  obtain ⟨k1, k2, _⟩ := h.ok.seen h.bk hs
  unfold seenF at hs
  split at hs
  · rename_i h1
    split at hs
    · cases hs; exact h
    · cases hs
      simp only [argsB, Bool.and_eq_true] at h1
      have h4 : 0 ≤ node ∧ node ≤ 15 := by simpa [rightB] using h1.1.1
      refine ⟨k1, k2, by rw [dropT_set_same]; exact h.pm, fun j hj => ?_⟩
      rw [upd_other _ _ (by omega)]; exact h.eI j hj
  · cases hs; exact h
theorem ApR.seen_other {s node n inc now e1 e2 : Int} {I1 I2 I1' I2' : Nat → Int} {T1 T2 T1' T2' : List Tm} (h : ApR node I1 T1 I2 T2) (hn : n ≠ node) (hs1 : seenF s I1 T1 n inc now = (e1, I1', T1')) (hs2 : seenF s I2 T2 n inc now = (e2, I2', T2')) :
    e2 = e1 ∧ ApR node I1' T1' I2' T2' := by
  obtain ⟨k1, k2, _⟩ := h.ok.seen h.bk hs1
  have hl := h.look n
  rw [if_neg hn] at hl
  unfold seenF at hs1 hs2
  by_cases h1 : argsB n inc now = true
  · rw [if_pos h1] at hs1 hs2
    have h2 := h1
    simp only [argsB, Bool.and_eq_true] at h2
    have h4 : 0 ≤ n ∧ n ≤ 15 := by simpa [rightB] using h2.1.1
    have hI : I2 n.toNat = I1 n.toNat := (h.eI n.toNat (by omega)).symm
    have hf : fencedB I2 T2 n inc = fencedB I1 T1 n inc := by unfold fencedB; rw [hl, hI]
    have hu : newU s I2 T2 n inc now = newU s I1 T1 n inc now := by unfold newU; rw [hl, hI]
    rw [hf, hu] at hs2
    by_cases h3 : fencedB I1 T1 n inc = true
    · rw [if_pos h3] at hs1 hs2
      cases hs1; cases hs2
      exact ⟨rfl, h⟩
    · rw [if_neg h3] at hs1 hs2
      cases hs1; cases hs2
      refine ⟨rfl, k1, k2, ?_, fun j hj => ?_⟩
      · rw [dropT_set_other (Ne.symm hn)]; exact setT_perm _ _ h.pm
      · by_cases e : j = n.toNat
        · subst e; rw [upd_same, upd_same]
        · rw [upd_other _ _ e, upd_other _ _ e]; exact h.eI j hj
  · rw [if_neg h1] at hs1 hs2
    cases hs1; cases hs2
    exact ⟨rfl, h⟩
theorem ApR.drop_mine {node : Int} {I1 I2 : Nat → Int} {T1 T2 T' : List Tm} {bb : Bool} (h : ApR node I1 T1 I2 T2) (hT : (if bb then dropT node T1 else T1) = T') : ApR node I1 T' I2 T2 := by
  obtain ⟨k1, k2, _⟩ := h.ok.dropG h.bk hT
  subst hT
  cases bb with
  | true => exact ⟨k1, k2, by rw [if_pos rfl, dropT_idem]; exact h.pm, h.eI⟩
  | false => exact h
theorem ApR.drop_same {node n inc : Int} {I1 I2 : Nat → Int} {T1 T2 : List Tm} (h : ApR node I1 T1 I2 T2) (hn : n ≠ node) : dropG I2 T2 n inc = dropG I1 T1 n inc := by
  have hl := h.look n
  rw [if_neg hn] at hl
  unfold dropG
  rw [hl]
  cases e : lookT n T1 with
  | none => rfl
  | some u =>
    have h4 := h.bk _ (lookT_some e)
    dsimp only at h4 ⊢
    rw [h.eI n.toNat (by omega)]
theorem ApR.drop_other {node n : Int} {I1 I2 : Nat → Int} {T1 T2 T1' T2' : List Tm} {bb : Bool} (h : ApR node I1 T1 I2 T2) (hT : (if bb then dropT n T1 else T1) = T1') (hT2 : (if bb then dropT n T2 else T2) = T2') : ApR node I1 T1' I2 T2' := by
  obtain ⟨k1, k2, _⟩ := h.ok.dropG h.bk hT
  subst hT; subst hT2
  cases bb with
  | true => exact ⟨k1, k2, by rw [if_pos rfl, if_pos rfl, dropT_drop]; exact dropT_permT _ h.pm, h.eI⟩
  | false => exact h
theorem dropT_left (a now : Int) (T : List Tm) : dropT a (leftF now T) = leftF now (dropT a T) := by
  unfold dropT leftF
  rw [List.filter_filter, List.filter_filter]
  congr 1
  funext x
  exact Bool.and_comm _ _
theorem dropT_due (a now : Int) (T : List Tm) : dropT a (dueF now T) = dueF now (dropT a T) := by
  unfold dropT dueF
  rw [List.filter_filter, List.filter_filter]
  congr 1
  funext x
  exact Bool.and_comm _ _
theorem ApR.left {node now : Int} {I1 I2 : Nat → Int} {T1 T2 : List Tm} (h : ApR node I1 T1 I2 T2) : ApR node I1 (leftF now T1) I2 (leftF now T2) where
  ok := h.ok.sub List.filter_sublist
  bk := h.bk.sub List.filter_sublist
  pm := by rw [dropT_left]; exact h.pm.filter _
  eI := h.eI
theorem ApR.due {node now : Int} {I1 I2 : Nat → Int} {T1 T2 A1 A2 : List Tm} (h : ApR node I1 T1 I2 T2) (p1 : A1.Perm (dueF now T1)) (s1 : A1.Pairwise leTm) (p2 : A2.Perm (dueF now T2)) (s2 : A2.Pairwise leTm) :
    woB node (A1.map (btOf I1)) = A2.map (btOf I2) := by
  have e : dropT node A1 = A2 := by
    refine sorted_permTm ?_ (s1.filter _) s2
    have h1 := dropT_permT node p1
    rw [dropT_due] at h1
    exact h1.trans ((h.pm.filter _).trans p2.symm)
  rw [← e]
  have hm : ∀ x ∈ A1, 0 ≤ x.1 := fun x hx => (h.bk x (List.mem_filter.1 (p1.mem_iff.1 hx)).1).1
  clear e p1 s1 p2 s2
  induction A1 with
  | nil => rfl
  | cons y r ih =>
    have h0 := hm y (by simp)
    have ih := ih fun x hx => hm x (by simp [hx])
    unfold woB dropT at ih ⊢
    by_cases e : y.1 = node
    · rw [List.map_cons, List.filter_cons_of_neg (by simp [btOf, e]), List.filter_cons_of_neg (by simp [e])]
      exact ih
    · rw [List.map_cons, List.filter_cons_of_pos (by simp [btOf, e]), List.filter_cons_of_pos (by simp [e]), List.map_cons, ih]
      congr 1
      unfold btOf
      rw [h.eI y.1.toNat (by omega)]
theorem ApR.all {node : Int} {I1 I2 : Nat → Int} {T1 T2 : List Tm} (h : ApR node I1 T1 I2 T2) : ∀ k, woB node (allG (btj I1 T1) k) = allG (btj I2 T2) k := by
  intro k
  induction k with
  | zero => rfl
  | succ k ih =>
    rw [allG_succ, allG_succ, ← ih]
    have e : woB node (allG (btj I1 T1) k ++ btj I1 T1 k) = woB node (allG (btj I1 T1) k) ++ woB node (btj I1 T1 k) := by unfold woB; rw [List.filter_append]
    rw [e]
    congr 1
    have hl := h.look (k : Int)
    by_cases hk : (k : Int) = node
    · rw [if_pos hk] at hl
      unfold btj
      rw [hl]
      cases lookT (k : Int) T1 with
      | none => rfl
      | some u => simp [woB, hk]
    · rw [if_neg hk] at hl
      unfold btj
      rw [hl, h.eI k hk]
      cases lookT (k : Int) T1 with
      | none => rfl
      | some u => simp [woB, hk]
end Go.Proofs.Ytliaoaejmmkkjaa

/- A table of beats: what each call comes to, in one. -/
import Derived.Test.YtliaoaejmmkkjaaBT7

namespace Go.Proofs.Ytliaoaejmmkkjaa
open Go.RowKit
def argsB (n inc now : Int) : Bool := rightB n 0 15 && rightB inc 1 2147483647 && rightB now 0 1099511627776
def newU (s : Int) (I : Nat → Int) (T : List Tm) (n inc now : Int) : Int := match lookT n T with
  | none => laterV now s
  | some u => if I n.toNat = inc then imax (laterV now s) u else laterV now s
def fencedB (I : Nat → Int) (T : List Tm) (n inc : Int) : Bool := match lookT n T with
  | none => false
  | some _ => decide (inc < I n.toNat)
theorem seen_ok {s : Int} {I : Nat → Int} {T : List Tm} {n inc now : Int} (hs : 0 < s) (ok : TOk T) (ha : argsB n inc now = true) (hf : fencedB I T n inc = false) :
    Ct Try.prog 23 (some (bR s I T)) [.v (i64 n), .v (i64 inc), .v (i64 now)] (fun rs R' => rs = [.v (i64 0)] ∧ R' = some (bR s (upd I n.toNat inc) (setT n (newU s I T n inc now) T))) := by
  simp only [argsB, Bool.and_eq_true] at ha
  obtain ⟨⟨h1, h2⟩, h3⟩ := ha
  have h4 : 0 ≤ n ∧ n ≤ 15 := by simpa [rightB] using h1
  obtain ⟨j, rfl⟩ : ∃ j : Nat, n = (j : Int) := ⟨n.toNat, by omega⟩
  have hj : j < 16 := by omega
  have e : ((j : Int)).toNat = j := by omega
  unfold fencedB at hf
  unfold newU
  rw [e] at *
  have hr := laterV_rg now s
  cases hl : lookT (j : Int) T with
  | none => exact seen_new hs hj h2 h3 hl (rightB_in hr)
  | some u =>
    rw [hl] at hf
    dsimp only at hf ⊢
    by_cases he : I j = inc
    · rw [if_pos he]
      have h5 := ok.rg _ (lookT_some hl)
      exact seen_same hs hj h2 h3 hl hf (by simpa using he) (rightB_in (by unfold imax; split <;> omega))
    · rw [if_neg he]
      exact seen_more hs hj h2 h3 hl hf (by simpa using he) (rightB_in hr)
theorem seen_fenced {s : Int} {I : Nat → Int} {T : List Tm} {n inc now : Int} (hs : 0 < s) (ha : argsB n inc now = true) (hf : fencedB I T n inc = true) :
    Ct Try.prog 23 (some (bR s I T)) [.v (i64 n), .v (i64 inc), .v (i64 now)] (fun rs R' => rs = [.v (i64 11)] ∧ R' = some (bR s I T)) := by
  simp only [argsB, Bool.and_eq_true] at ha
  obtain ⟨⟨h1, h2⟩, h3⟩ := ha
  have h4 : 0 ≤ n ∧ n ≤ 15 := by simpa [rightB] using h1
  obtain ⟨j, rfl⟩ : ∃ j : Nat, n = (j : Int) := ⟨n.toNat, by omega⟩
  have hj : j < 16 := by omega
  have e : ((j : Int)).toNat = j := by omega
  unfold fencedB at hf
  rw [e] at hf
  cases hl : lookT (j : Int) T with
  | none => rw [hl] at hf; cases hf
  | some u =>
    rw [hl] at hf
    exact seen_fence hs hj h2 h3 hl hf
theorem get_some {s : Int} {I : Nat → Int} {T : List Tm} {n u : Int} (hs : 0 < s) (hB : BOk T) (h : lookT n T = some u) : Ct Try.prog 25 (some (bR s I T)) [.v (i64 n)] (fun rs R' => rs = [.v (bt n (I n.toNat) u), .v (.bool true)] ∧ R' = some (bR s I T)) := by
  have h4 := hB _ (lookT_some h)
  obtain ⟨j, rfl⟩ : ∃ j : Nat, n = (j : Int) := ⟨n.toNat, by omega⟩
  have e : ((j : Int)).toNat = j := by omega
  rw [e]
  exact get_yes hs (by omega) h
theorem get_none {s : Int} {I : Nat → Int} {T : List Tm} {n : Int} (hs : 0 < s) (h : lookT n T = none) : Ct Try.prog 25 (some (bR s I T)) [.v (i64 n)] (fun rs R' => rs = [.v (bt 0 0 0), .v (.bool false)] ∧ R' = some (bR s I T)) := get_no hs (Or.inr h)
theorem drop_some {s : Int} {I : Nat → Int} {T : List Tm} {n u inc : Int} (hs : 0 < s) (hB : BOk T) (h : lookT n T = some u) (he : I n.toNat = inc) : Ct Try.prog 28 (some (bR s I T)) [.v (i64 n), .v (i64 inc)] (fun rs R' => rs = [.v (.bool true)] ∧ R' = some (bR s I (dropT n T))) := by
  have h4 := hB _ (lookT_some h)
  obtain ⟨j, rfl⟩ : ∃ j : Nat, n = (j : Int) := ⟨n.toNat, by omega⟩
  have e : ((j : Int)).toNat = j := by omega
  rw [e] at he
  exact dropB_yes hs (by omega) h (bb := true) (by simpa using he)
theorem drop_other {s : Int} {I : Nat → Int} {T : List Tm} {n u inc : Int} (hs : 0 < s) (hB : BOk T) (h : lookT n T = some u) (he : I n.toNat ≠ inc) : Ct Try.prog 28 (some (bR s I T)) [.v (i64 n), .v (i64 inc)] (fun rs R' => rs = [.v (.bool false)] ∧ R' = some (bR s I T)) := by
  have h4 := hB _ (lookT_some h)
  obtain ⟨j, rfl⟩ : ∃ j : Nat, n = (j : Int) := ⟨n.toNat, by omega⟩
  have e : ((j : Int)).toNat = j := by omega
  rw [e] at he
  exact dropB_yes hs (by omega) h (bb := false) (by simpa using he)
theorem drop_none {s : Int} {I : Nat → Int} {T : List Tm} {n inc : Int} (hs : 0 < s) (h : lookT n T = none) : Ct Try.prog 28 (some (bR s I T)) [.v (i64 n), .v (i64 inc)] (fun rs R' => rs = [.v (.bool false)] ∧ R' = some (bR s I T)) := dropB_no (get_none hs h)
theorem lookT_drop {T : List Tm} {a b : Int} (h : a ≠ b) : lookT a (dropT b T) = lookT a T := by
  induction T with
  | nil => rfl
  | cons y r ih =>
    obtain ⟨p, v⟩ := y
    unfold dropT
    by_cases e : p = b
    · subst e
      rw [List.filter_cons_of_neg (by simp)]
      simp only [lookT, if_neg h]
      exact ih
    · rw [List.filter_cons_of_pos (by simpa using e)]
      simp only [lookT]
      split
      · rfl
      · exact ih
theorem lookT_set (T : List Tm) (a b v : Int) : lookT a (setT b v T) = if a = b then some v else lookT a T := by
  unfold setT
  rw [lookT_append]
  by_cases h : a = b
  · subst h; rw [dropT_look, if_pos rfl]; simp [lookT]
  · rw [lookT_drop h, if_neg h]
    cases lookT a T <;> simp [lookT, h]
theorem lookT_left {T : List Tm} (hn : (T.map (·.1)).Nodup) (now a : Int) : lookT a (leftF now T) = match lookT a T with | none => none | some u => if now < u then some u else none := by
  have hsub : (leftF now T).Sublist T := List.filter_sublist
  have hn2 := (hsub.map (·.1)).nodup hn
  cases e : lookT a T with
  | none =>
    dsimp only
    cases e2 : lookT a (leftF now T) with
    | none => rfl
    | some v => exact absurd rfl (lookT_none e _ (hsub.subset (lookT_some e2)))
  | some u =>
    dsimp only
    by_cases h : now < u
    · rw [if_pos h]
      exact lookT_mem hn2 (List.mem_filter.2 ⟨lookT_some e, by simpa using h⟩)
    · rw [if_neg h]
      cases e2 : lookT a (leftF now T) with
      | none => rfl
      | some v =>
        have h1 := List.mem_filter.1 (lookT_some e2)
        have h2 := lookT_mem hn h1.1
        rw [e] at h2; cases h2
        exact absurd (by simpa using h1.2) h
theorem TOk.set {T : List Tm} (h : TOk T) (n : Int) {v : Int} (hv : 0 ≤ v ∧ v ≤ 1099511627776) : TOk (setT n v T) := (h.drop n).add (dropT_look n T) hv
theorem BOk.sub {T T' : List Tm} (h : BOk T) (s : T'.Sublist T) : BOk T' := fun x hx => h x (s.subset hx)
theorem BOk.set {T : List Tm} (h : BOk T) {n : Int} (v : Int) (hn : 0 ≤ n ∧ n ≤ 15) : BOk (setT n v T) := by
  intro x hx
  rcases List.mem_append.1 hx with h1 | h1
  · exact h.sub List.filter_sublist x h1
  · simp at h1; subst h1; exact hn
theorem setT_len (n v : Int) (T : List Tm) : (setT n v T).length ≤ T.length + 1 := by
  have := dropT_len n T
  unfold setT
  rw [List.length_append]; simp; omega
theorem newU_rg {s : Int} {I : Nat → Int} {T : List Tm} {n inc now : Int} (ok : TOk T) : 0 ≤ newU s I T n inc now ∧ newU s I T n inc now ≤ 1099511627776 := by
  have hr := laterV_rg now s
  unfold newU
  split
  · exact hr
  · rename_i u e
    have h5 := ok.rg _ (lookT_some e)
    split
    · unfold imax; split <;> omega
    · exact hr
end Go.Proofs.Ytliaoaejmmkkjaa

/- Jobs that wait: as things of a heap. -/
import Derived.Test.YtdligbcmhjhkfaaHP9

namespace Go.Proofs.Ytdligbcmhjhkfaa
open Go.RowKit
structure JB where
  id : Int
  pr : Int
  sq : Int
  ph : Int
  nd : Int
  n0 : Int
  n1 : Int
  n2 : Int
instance : Inhabited JB := ⟨⟨0, 0, 0, 0, 0, 0, 0, 0⟩⟩
def encJ (n : JB) : List Value := [.int .i64 n.id, .int .i64 n.pr, .int .i64 n.sq, .int .i64 n.ph, .int .i64 n.nd, .int .i64 n.n0, .int .i64 n.n1, .int .i64 n.n2]
theorem encJ_len (x : JB) : (encJ x).length = 8 := rfl
theorem encJ_cl (x : JB) : cleanL (encJ x) = true := rfl
theorem encJ_one (x : JB) : oneL (encJ x) = true := rfl
abbrev jbV (n : JB) : Value := jobV n.id n.pr n.sq n.ph n.nd n.n0 n.n1 n.n2
theorem jbV_clean (n : JB) : clean (jbV n) = true := rfl
def ltJ (x y : JB) : Bool := jobB x.id x.pr x.sq y.id y.pr y.sq
theorem ltJ_iff {x y : JB} : ltJ x y = true ↔ y.pr < x.pr ∨ (x.pr = y.pr ∧ (x.sq < y.sq ∨ (x.sq = y.sq ∧ x.id < y.id))) := by
  unfold ltJ; simp [jobB]
theorem ltJ_ref (x y : JB) : Pure Try.prog 0 34 [jbV x, jbV y] (fun v => v = .bool (ltJ x y)) := refJob_s _ _ _ _ _ _ _ _ _ _ _ _ _ _ _ _
def keyJ (j : JB) : Int := IntKind.i64.wrap (9223372036854775807 - imax j.pr 0)
def thJ (j : JB) : Th := ⟨j.id, keyJ j, j.sq, j.id⟩
def okJ (j : JB) : Prop := 0 ≤ j.pr ∧ j.pr ≤ 9223372036854775807
theorem keyJ_eq {j : JB} (h : okJ j) : keyJ j = 9223372036854775807 - j.pr := by
  have : imax j.pr 0 = j.pr := by have := h.1; unfold imax; split <;> omega
  unfold keyJ
  rw [this, wrap_in (by have := h.1; have := h.2; omega)]
theorem lt_thJ {a b : JB} (ha : okJ a) (hb : okJ b) : ltT (thJ a) (thJ b) = ltJ a b := by
  rw [Bool.eq_iff_iff, ltT_iff, ltJ_iff]
  simp only [thJ, keyJ_eq ha, keyJ_eq hb]
  omega
theorem ltJ_of {a b : JB} (ha : okJ a) (hb : okJ b) (h : leT (thJ a) (thJ b)) (hne : a.id ≠ b.id) : ltJ a b = true := by
  rw [← lt_thJ ha hb]
  have h2 := leT_iff.1 h
  rw [ltT_iff]
  simp only [thJ] at *
  omega
def dropJ (a : Int) (js : List JB) : List JB := js.filter fun j => j.id != a
def hasJ (a : Int) (js : List JB) : Bool := js.any fun j => j.id == a
def findJ (a : Int) (js : List JB) : Option JB := js.find? fun j => j.id == a
def IdsJ (js : List JB) : Prop := (js.map JB.id).Nodup
abbrev thsJ (js : List JB) : List Th := js.map thJ
theorem thsJ_drop (a : Int) (js : List JB) : dropT a (thsJ js) = thsJ (dropJ a js) := by
  unfold dropT dropJ thsJ
  rw [List.filter_map]
  rfl
theorem thsJ_has (a : Int) (js : List JB) : hasT a (thsJ js) = hasJ a js := by
  unfold hasT hasJ thsJ
  rw [List.any_map]
  rfl
theorem IdsJ.ok {js : List JB} (h : IdsJ js) : IdsOk (thsJ js) := by
  unfold IdsOk thsJ
  rw [List.map_map]
  exact h
theorem mem_dropJ {a : Int} {js : List JB} {y : JB} : y ∈ dropJ a js ↔ y ∈ js ∧ y.id ≠ a := by simp [dropJ]
theorem IdsJ.drop {s : List JB} (h : IdsJ s) (a : Int) : IdsJ (dropJ a s) := List.Pairwise.sublist (List.Sublist.map _ List.filter_sublist) h
theorem IdsJ.put {s : List JB} (h : IdsJ s) (x : JB) : IdsJ (x :: dropJ x.id s) := by
  unfold IdsJ
  rw [List.map_cons, List.nodup_cons]
  refine ⟨fun hm => ?_, h.drop _⟩
  obtain ⟨y, hy, e⟩ := List.mem_map.1 hm
  exact (mem_dropJ.1 hy).2 e
theorem dropJ_len (a : Int) (s : List JB) : (dropJ a s).length ≤ s.length := List.length_filter_le _ _
theorem findJ_none {a : Int} {s : List JB} : findJ a s = none ↔ hasJ a s = false := by
  unfold findJ hasJ
  rw [List.find?_eq_none, List.any_eq_false]
theorem findJ_isSome (a : Int) (s : List JB) : (findJ a s).isSome = hasJ a s := by
  cases h : findJ a s with
  | none => rw [findJ_none.1 h]; rfl
  | some y =>
    cases h2 : hasJ a s with
    | true => rfl
    | false => rw [findJ_none.2 h2] at h; cases h
theorem findJ_mem {a : Int} {s : List JB} {y : JB} (h : findJ a s = some y) : y ∈ s ∧ y.id = a := by
  unfold findJ at h
  have h1 := List.find?_some h
  exact ⟨List.mem_of_find?_eq_some h, by simpa using h1⟩
theorem IdsJ.eq {s : List JB} (h : IdsJ s) {x y : JB} (hx : x ∈ s) (hy : y ∈ s) (e : x.id = y.id) : x = y := by
  induction s with
  | nil => cases hx
  | cons z r ih =>
    unfold IdsJ at h
    rw [List.map_cons, List.nodup_cons] at h
    rcases List.mem_cons.1 hx with hx1 | hx1 <;> rcases List.mem_cons.1 hy with hy1 | hy1
    · rw [hx1, hy1]
    · subst hx1; exact absurd (List.mem_map.2 ⟨y, hy1, e.symm⟩) h.1
    · subst hy1; exact absurd (List.mem_map.2 ⟨x, hx1, e⟩) h.1
    · exact ih h.2 hx1 hy1
theorem findJ_of {s : List JB} (h : IdsJ s) {y : JB} (hy : y ∈ s) : findJ y.id s = some y := by
  cases e : findJ y.id s with
  | none =>
    rw [findJ_none] at e
    unfold hasJ at e
    rw [List.any_eq_false] at e
    exact absurd (by simp) (e y hy)
  | some z =>
    obtain ⟨h1, h2⟩ := findJ_mem e
    rw [h.eq h1 hy h2]
theorem findJ_put (x : JB) (s : List JB) (a : Int) : findJ a (x :: dropJ x.id s) = if a = x.id then some x else findJ a s := by
  unfold findJ
  rw [List.find?_cons]
  split
  · rename_i h; have := beq_iff_eq.1 h; rw [if_pos this.symm]
  · rename_i h
    have hne : ¬ x.id = a := by simpa using h
    rw [if_neg (fun e => hne e.symm)]
    unfold dropJ
    rw [List.find?_filter]
    congr 1
    funext j
    by_cases e : j.id = a
    · have : j.id ≠ x.id := fun e2 => hne (e2 ▸ e)
      simp [e]; intro e3; exact hne e3.symm
    · simp [e]
theorem findJ_drop (a b : Int) (s : List JB) : findJ b (dropJ a s) = if b = a then none else findJ b s := by
  unfold findJ dropJ
  rw [List.find?_filter]
  by_cases e : b = a
  · subst e
    rw [if_pos rfl, List.find?_eq_none]
    intro x hx; simp
  · rw [if_neg e]
    congr 1
    funext j
    by_cases e2 : j.id = b
    · simp [e2, e]
    · simp [e2]
theorem findJ_perm {s s' : List JB} (h : IdsJ s) (hp : s.Perm s') (a : Int) : findJ a s = findJ a s' := by
  have h' : IdsJ s' := (hp.map JB.id).nodup_iff.1 h
  cases e : findJ a s with
  | none =>
    cases e2 : findJ a s' with
    | none => rfl
    | some y =>
      obtain ⟨h1, h2⟩ := findJ_mem e2
      have := findJ_of h (hp.mem_iff.2 h1)
      rw [h2, e] at this; cases this
  | some y =>
    obtain ⟨h1, h2⟩ := findJ_mem e
    have := findJ_of h' (hp.mem_iff.1 h1)
    rw [h2] at this
    exact this.symm
abbrev MapJ := List (Int × JB × Nat)
def JR (js : List JB) (M : MapJ) : Prop := (keysM M).Nodup ∧ ∀ a, getM M a = findJ a js
theorem JR.nil : JR [] [] := ⟨List.nodup_nil, fun _ => rfl⟩
theorem JR.put {js : List JB} {M : MapJ} (h : JR js M) (ck : Nat) (j : JB) : JR (j :: dropJ j.id js) (setM ck j.id j M) :=
  ⟨setM_nodup h.1, fun a => by rw [getM_set, findJ_put, h.2]⟩
theorem JR.drop {js : List JB} {M : MapJ} (h : JR js M) (a : Int) : JR (dropJ a js) (delM a M) :=
  ⟨delM_nodup h.1, fun b => by rw [getM_del h.1, findJ_drop, h.2]⟩
theorem JR.none {js : List JB} (h : JR js []) : js = [] := by
  cases js with
  | nil => rfl
  | cons y r =>
    have := h.2 y.id
    simp [getM, findJ] at this
end Go.Proofs.Ytdligbcmhjhkfaa

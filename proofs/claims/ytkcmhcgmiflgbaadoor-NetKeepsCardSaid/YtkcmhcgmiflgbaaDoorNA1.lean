/- Calls that may fail, told at once; what they change of one link. -/
import Derived.Test.YtkcmhcgmiflgbaaDoorNL1

namespace Go.Proofs.YtkcmhcgmiflgbaaDoor
open Go.RowKit
def okN (p q k : Int) (x : List Msg) : Bool := decide (0 ≤ k) && decide (k < ((ofL p q x).length : Int))
theorem okN_iff {p q k : Int} {x : List Msg} : okN p q k x = true ↔ 0 ≤ k ∧ k < ((ofL p q x).length : Int) := by simp [okN]
def takeC (p q k : Int) (x : List Msg) : Int := if okN p q k x = true then 0 else 7
def takeM (p q k : Int) (x : List Msg) : Msg := if okN p q k x = true then nth (ofL p q x) k.toNat else m0
def takeY (p q k : Int) (x : List Msg) : List Msg := if okN p q k x = true then takeX p q k.toNat x else x
def twinC (p q k : Int) (x : List Msg) : Int := if okN p q k x = true then putC x (nth (ofL p q x) k.toNat) else 7
def twinY (p q k : Int) (x : List Msg) : List Msg := if okN p q k x = true then putX x (nth (ofL p q x) k.toNat) else x
theorem ofL_len (p q : Int) (x : List Msg) : (ofL p q x).length ≤ x.length := List.length_filter_le _ _
theorem take_ct (x : List Msg) (p q k : Int) (hx : x.length ≤ 1000) : Ct Tryd.prog 11 (some (NetR x)) [.v (i64 p), .v (i64 q), .v (i64 k)] (fun rs R' => rs = [.v (mv (takeM p q k x)), .v (i64 (takeC p q k x))] ∧ R' = some (NetR (takeY p q k x))) := by
  have hl := ofL_len p q x
  by_cases h : okN p q k x = true
  · rw [takeM, takeC, takeY, if_pos h, if_pos h, if_pos h]
    have h2 := okN_iff.1 h
    obtain ⟨n, rfl⟩ : ∃ n : Nat, k = n := ⟨k.toNat, by omega⟩
    exact takeN_yes x p q n (by omega) (by omega)
  · rw [takeM, takeC, takeY, if_neg h, if_neg h, if_neg h]
    exact takeN_no x p q k (fun g => h (okN_iff.2 g))
theorem twin_ct (ct : TypeId) (cz : Nat × Nat) (x : List Msg) (p q k : Int) : CtX (GlobX (waysO ct cz)) Tryd.prog 13 (some (NetR x)) [.v (i64 p), .v (i64 q), .v (i64 k)] (fun rs R' => rs = [.v (i64 (twinC p q k x))] ∧ R' = some (NetR (twinY p q k x))) := by
  by_cases h : okN p q k x = true
  · rw [twinC, twinY, if_pos h, if_pos h]
    have h2 := okN_iff.1 h
    obtain ⟨n, rfl⟩ : ∃ n : Nat, k = n := ⟨k.toNat, by omega⟩
    exact twin_yes ct cz x p q n (by omega)
  · rw [twinC, twinY, if_neg h, if_neg h]
    exact twin_no ct cz x p q k (fun g => h (okN_iff.2 g))
theorem ofL_idem (p q : Int) (x : List Msg) : ofL p q (ofL p q x) = ofL p q x := by unfold ofL; rw [List.filter_filter]; congr; funext m; simp
theorem okN_on (p q k : Int) (x : List Msg) : okN p q k (ofL p q x) = okN p q k x := by unfold okN; rw [ofL_idem]
theorem putC_on {p q : Int} {x : List Msg} {m : Msg} (h1 : m.f = p) (h2 : m.t = q) : putC (ofL p q x) m = putC x m := by subst h1 h2; unfold putC; rw [ofL_idem]
theorem putX_on {p q : Int} {x : List Msg} {m : Msg} (h1 : m.f = p) (h2 : m.t = q) : putX (ofL p q x) m = ofL p q (putX x m) := by
  unfold putX; rw [putC_on h1 h2]
  split
  · rw [ofL_put, if_pos (by simp [kM, h1, h2])]
  · rfl
theorem putX_off {p q : Int} {x : List Msg} {m : Msg} (h : ¬ (m.f = p ∧ m.t = q)) : ofL p q (putX x m) = ofL p q x := by
  unfold putX
  split
  · rw [ofL_put, if_neg (by simpa [kM] using h), List.append_nil]
  · rfl
theorem putX_len (x : List Msg) (m : Msg) : (putX x m).length ≤ x.length + 1 := by unfold putX; split <;> simp
theorem ofL_sub {p q : Int} {x y : List Msg} (h : y.Sublist (ofL p q x)) : ofL p q y = y := by
  refine List.filter_eq_self.2 fun m hm => ?_
  exact (List.mem_filter.1 (h.subset hm)).2
theorem takeX_len (p q : Int) (k : Nat) (x : List Msg) : (takeX p q k x).length ≤ x.length := (List.eraseIdx_sublist _ _).length_le
theorem takeY_len (p q k : Int) (x : List Msg) : (takeY p q k x).length ≤ x.length := by unfold takeY; split; exact takeX_len _ _ _ _; exact Nat.le_refl _
theorem twinY_len (p q k : Int) (x : List Msg) : (twinY p q k x).length ≤ x.length + 1 := by unfold twinY; split; exact putX_len _ _; exact Nat.le_succ _
theorem takeY_on (p q k : Int) (x : List Msg) : takeY p q k (ofL p q x) = ofL p q (takeY p q k x) := by
  unfold takeY; rw [okN_on]
  split
  · rename_i h
    have h2 := okN_iff.1 h
    obtain ⟨n, rfl⟩ : ∃ n : Nat, k = n := ⟨k.toNat, by omega⟩
    have h3 := take_on (x := ofL p q x) (a := p) (b := q) (k := n) (by rw [ofL_idem]; omega)
    have h4 := take_on (x := x) (a := p) (b := q) (k := n) (by omega)
    rw [ofL_idem, ofL_sub (x := x) (y := takeX p q n (ofL p q x)) (List.eraseIdx_sublist _ _)] at h3
    rw [Int.toNat_natCast, h3, h4]
  · rfl
theorem takeY_off {p q a b : Int} (k : Int) (x : List Msg) (h : ¬ (a = p ∧ b = q)) : ofL p q (takeY a b k x) = ofL p q x := by
  unfold takeY
  split
  · rename_i h1
    have h2 := okN_iff.1 h1
    obtain ⟨n, rfl⟩ : ∃ n : Nat, k = n := ⟨k.toNat, by omega⟩
    exact take_off (by omega) (by simp only [ne_eq, Prod.mk.injEq]; exact fun g => h ⟨g.1.symm, g.2.symm⟩)
  · rfl
theorem nth_on {a b : Int} {x : List Msg} {k : Nat} (h : k < (ofL a b x).length) : (nth (ofL a b x) k).f = a ∧ (nth (ofL a b x) k).t = b := by
  have e : nth (ofL a b x) k = (ofL a b x)[k] := by simp [nth, h]
  rw [e]
  have := (List.mem_filter.1 (List.getElem_mem h)).2
  simpa using this
theorem twinY_on (p q k : Int) (x : List Msg) : twinY p q k (ofL p q x) = ofL p q (twinY p q k x) := by
  unfold twinY; rw [okN_on, ofL_idem]
  split
  · rename_i h
    have h2 := okN_iff.1 h
    obtain ⟨n, rfl⟩ : ∃ n : Nat, k = n := ⟨k.toNat, by omega⟩
    obtain ⟨h3, h4⟩ := nth_on (a := p) (b := q) (x := x) (k := n) (by omega)
    exact putX_on h3 h4
  · rfl
theorem twinY_off {p q a b : Int} (k : Int) (x : List Msg) (h : ¬ (a = p ∧ b = q)) : ofL p q (twinY a b k x) = ofL p q x := by
  unfold twinY
  split
  · rename_i h1
    have h2 := okN_iff.1 h1
    obtain ⟨n, rfl⟩ : ∃ n : Nat, k = n := ⟨k.toNat, by omega⟩
    obtain ⟨h3, h4⟩ := nth_on (a := a) (b := b) (x := x) (k := n) (by omega)
    exact putX_off (by rw [Int.toNat_natCast, h3, h4]; exact h)
  · rfl
theorem cutX_on (p q c : Int) (x : List Msg) : cutX c (ofL p q x) = ofL p q (cutX c x) := by
  unfold cutX ofL; rw [List.filter_filter, List.filter_filter]; congr; funext m; exact Bool.and_comm _ _
theorem cutX_off {p q c : Int} (x : List Msg) (h : ¬ (c = p ∨ c = q)) : ofL p q (cutX c x) = ofL p q x := by
  rw [← cutX_on]
  refine List.filter_eq_self.2 fun m hm => ?_
  have := (List.mem_filter.1 hm).2
  simp only [Bool.and_eq_true, decide_eq_true_eq] at this
  simpa [cutB, kM, this.1, this.2] using h
structure ActN where
  k : Int
  f : Int
  t : Int
  pl : Int
  m : Msg
instance : Inhabited ActN := ⟨⟨0, 0, 0, 0, m0⟩⟩
def encN4 (a : ActN) : List Value := [.int .i64 a.k, .int .i64 a.f, .int .i64 a.t, .int .i64 a.pl, .int .i64 a.m.k, .int .i64 a.m.f, .int .i64 a.m.t, .int .i64 a.m.e, .int .i64 a.m.i, .int .i64 a.m.j, .int .i64 a.m.q, .int .i64 a.m.p, .int .i64 a.m.c, .int .i64 a.m.x, .int .i64 a.m.y, .int .i64 a.m.z]
theorem encN4_len (a : ActN) : (encN4 a).length = 16 := rfl
theorem encN4_clean (a : ActN) : cleanL (encN4 a) = true := rfl
theorem encN4_one (a : ActN) : oneL (encN4 a) = true := rfl
end Go.Proofs.YtkcmhcgmiflgbaaDoor

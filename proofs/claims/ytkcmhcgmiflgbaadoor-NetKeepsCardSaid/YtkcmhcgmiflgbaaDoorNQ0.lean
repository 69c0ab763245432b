/- Which message is taken next, and what is left, plainly. -/
import Derived.Test.YtkcmhcgmiflgbaaDoorNP0

namespace Go.Proofs.YtkcmhcgmiflgbaaDoor
open Go.RowKit
theorem msg_self (y : Msg) : (y.k == y.k && (y.f == y.f && (y.t == y.t && (y.e == y.e && (y.i == y.i && (y.j == y.j && (y.q == y.q && (y.p == y.p && (y.c == y.c && (y.x == y.x && (y.y == y.y && (y.z == y.z && true)))))))))))) = true := by simp
theorem msg_other {u y : Msg} (h : u ≠ y) : (u.k == y.k && (u.f == y.f && (u.t == y.t && (u.e == y.e && (u.i == y.i && (u.j == y.j && (u.q == y.q && (u.p == y.p && (u.c == y.c && (u.x == y.x && (u.y == y.y && (u.z == y.z && true)))))))))))) = false := by
  rw [← Bool.not_eq_true]
  intro g
  simp only [Bool.and_eq_true, beq_iff_eq, and_true] at g
  obtain ⟨g1, g2, g3, g4, g5, g6, g7, g8, g9, g10, g11, g12⟩ := g
  obtain ⟨u1, u2, u3, u4, u5, u6, u7, u8, u9, u10, u11, u12⟩ := u
  obtain ⟨y1, y2, y3, y4, y5, y6, y7, y8, y9, y10, y11, y12⟩ := y
  simp only at g1 g2 g3 g4 g5 g6 g7 g8 g9 g10 g11 g12
  subst g1 g2 g3 g4 g5 g6 g7 g8 g9 g10 g11 g12
  exact h rfl
theorem bneI_self (e : Int) : (e != e) = false := by simp
theorem bneB_self (e : Bool) : (e != e) = false := by simp
theorem tmod_nat (p n : Nat) : (p : Int).tmod (n : Int) = ((p % n : Nat) : Int) := rfl
theorem tmod_zero (n : Nat) : (0 : Int).tmod (n : Int) = ((0 % n : Nat) : Int) := rfl
structure PickR (z : List Msg) (S : List Tm) (p : Nat) (r : Nat) (a b : Int) (many r2 : Nat) (y : Msg) (i2 : Nat) : Prop where
  hr : p % S.length = r
  hrS : r < S.length
  hk : nth S r = (a, b)
  hm : (ofL a b z).length = many
  hm0 : 0 < many
  hr2 : p % many = r2
  hrm : r2 < many
  hy : nth (ofL a b z) r2 = y
  hi : i2 < z.length
  hz : nth z i2 = y
  ht : takeX a b r2 z = z.eraseIdx i2
theorem keeps_pick {z : List Msg} {S : List Tm} (hS : SLinks z S) (h0 : 0 < z.length) (p : Nat) : ∃ r a b many r2 y i2, PickR z S p r a b many r2 y i2 := by
  have hS0 : 0 < S.length := by
    obtain ⟨m, hm⟩ := List.exists_mem_of_length_pos h0
    exact List.length_pos_of_mem ((hS.mem (kM m)).2 ⟨m, hm, rfl⟩)
  have hr := Nat.mod_lt p hS0
  obtain ⟨⟨a, b⟩, hk⟩ : ∃ k, nth S (p % S.length) = k := ⟨_, rfl⟩
  have hkS : (a, b) ∈ S := by rw [← hk]; simp [nth, hr]
  obtain ⟨m, hm, hkm⟩ := (hS.mem _).1 hkS
  have hmo : m ∈ ofL a b z := List.mem_filter.2 ⟨hm, by simpa [kM] using hkm⟩
  have hm0 := List.length_pos_of_mem hmo
  have hr2 := Nat.mod_lt p hm0
  obtain ⟨h1, h2⟩ := ofA_nth (a := a) (b := b) (x := z) hr2
  exact ⟨_, a, b, _, _, _, _, rfl, hr, hk, rfl, hm0, rfl, hr2, rfl, h2, h1, rfl⟩
theorem erase_cons {x : List Msg} {i : Nat} (h : i < x.length) : (nth x i :: x.eraseIdx i).Perm x := by
  have e := take_split h
  rw [erase_split h]
  have h1 := (List.perm_middle (a := nth x i) (l₁ := x.take i) (l₂ := x.drop (i + 1))).symm
  rw [show x.take i ++ nth x i :: x.drop (i + 1) = x from e.symm] at h1
  exact h1
theorem erase_perm {x z : List Msg} {i j : Nat} (hp : x.Perm z) (hi : i < x.length) (hj : j < z.length) (h : nth x i = nth z j) : (x.take i ++ x.drop (i + 1)).Perm (z.eraseIdx j) := by
  rw [← erase_split hi]
  have h1 := (erase_cons hi).trans (hp.trans (erase_cons hj).symm)
  rw [h] at h1
  exact h1.cons_inv
/-- what a search from the end has found -/
structure FindI (x : List Msg) (m : Msg) where
  j : Nat
  at_ : Int
  hj : j ≤ x.length
  ok : (at_ = -1 ∧ ∀ i, j ≤ i → i < x.length → nth x i ≠ m) ∨ ∃ i : Nat, at_ = i ∧ i < x.length ∧ nth x i = m
theorem putC_few {x : List Msg} {m : Msg} (h : x.length ≤ 100) : putC x m = chkM m := by
  unfold putC
  have := ofL_len m.f m.t x
  split
  · rename_i h1; rw [if_neg (by omega), h1]
  · rfl
end Go.Proofs.YtkcmhcgmiflgbaaDoor

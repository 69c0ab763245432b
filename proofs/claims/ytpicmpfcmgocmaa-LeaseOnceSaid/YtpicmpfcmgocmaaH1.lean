/- A pointer that is read and exchanged in one go, over a small memory with names. -/
import Derived.Test.YtpicmpfcmgocmaaH0

namespace Go.Proofs.Ytpicmpfcmgocmaa
open Go.RowKit
theorem After.refl {ng : Nat} {f : NM} {h : List (Nat × GO)} {ns : List Nat} {w : World} (hB : Before ng f h ns w) {v v' : Value} (hv : VR f v v') : After f h ns w f v v' h ns w :=
  { le := NM.le.refl f, lt := hB.lt, val := hv, sees := hB.sees, owx := fun b n h => ⟨Or.inl h, hB.owx b n h⟩, kp := fun _ _ h => h, ol := hB.ol, new := fun n b h => Or.inl ⟨n, h⟩, far := fun _ _ _ => rfl, top := hB.top, asc := hB.asc, low := fun x hx => ⟨x, hx, Nat.le_refl _⟩, grow := Nat.le_refl _, os := rfl, tape := rfl, out := rfl }
theorem After.write {ng : Nat} {f : NM} {h : List (Nat × GO)} {ns : List Nat} {w : World} (hB : Before ng f h ns w) {n b : Nat} {o o2 o2' : Obj} (hl : look h n = some (.rw o)) (hf : f n = some b) (hr : OR f o2 o2') {v v' : Value} (hv : VR f v v') :
    After f h ns w f v v' ((n, .rw o2) :: h) ns (setB w b o2') := by
  have hb := hB.lt n b hf
  obtain ⟨o1, g2, g3, g4⟩ := hB.sees n _ hl b hf
  refine { le := NM.le.refl f, lt := fun m k h => by simpa [setB] using hB.lt m k h, val := hv, sees := ?_, owx := fun b n h => ⟨Or.inl h, by simpa [setB] using hB.owx b n h⟩, kp := fun _ _ h => h, ol := hB.ol, new := fun n b h => Or.inl ⟨n, h⟩, far := ?_, top := hB.top, asc := hB.asc, low := fun x hx => ⟨x, hx, Nat.le_refl _⟩, grow := by simp [setB], os := rfl, tape := rfl, out := rfl }
  · intro m p hp
    simp only [look_cons] at hp
    by_cases e : n = m
    · subst e
      rw [if_pos rfl] at hp; cases hp
      intro b' hb'
      rw [hf] at hb'; cases hb'
      exact ⟨o2', g2, by simp [setB, hb], hr⟩
    · rw [if_neg e] at hp
      exact (hB.sees m p hp).far g2 e _
  · intro k hk hx
    have : b ≠ k := by
      intro he; subst he
      rw [g2] at hx; cases hx
    simp [setB, Array.getElem?_setIfInBounds, this]
theorem ar1 {f : NM} {x : Value} {c : Array Value} (h : AR f ⟨[x]⟩ c) : ∃ x', c = #[x'] ∧ VR f x x' := by
  obtain ⟨x', l', rfl, h1, h2⟩ := AR.cons (x' := undef) h
  have : l' = [] := by have := h2.1; exact List.eq_nil_of_length_eq_zero (by simpa using this.symm)
  subst this
  exact ⟨x', rfl, h1⟩
theorem ar2 {f : NM} {x y : Value} {c : Array Value} (h : AR f ⟨[x, y]⟩ c) : ∃ x' y', c = #[x', y'] ∧ VR f x x' ∧ VR f y y' := by
  obtain ⟨x', l', rfl, h1, h2⟩ := AR.cons (x' := undef) h
  obtain ⟨y', e, h3⟩ := ar1 h2
  cases e
  exact ⟨x', y', rfl, h1, h3⟩
theorem ar3 {f : NM} {x y z : Value} {c : Array Value} (h : AR f ⟨[x, y, z]⟩ c) : ∃ x' y' z', c = #[x', y', z'] ∧ VR f x x' ∧ VR f y y' ∧ VR f z z' := by
  obtain ⟨x', l', rfl, h1, h2⟩ := AR.cons (x' := undef) h
  obtain ⟨y', z', e, h3, h4⟩ := ar2 h2
  cases e
  exact ⟨x', y', z', rfl, h1, h3, h4⟩
/-- the store and the lease behind it, in memory -/
theorem st_sees {ng : Nat} {f : NM} {h : List (Nat × GO)} {ns : List Nat} {w : World} (hB : Before ng f h ns w) {n b : Nat} {s p : Value} {t : TypeId} (hn : look h n = some (.rw (.cells ⟨[s, p]⟩ t (0, 0)))) (hf : f n = some b) :
    ∃ s' p', w.heap[b]? = some (.cells #[s', p'] t (0, 0)) ∧ VR f s s' ∧ VR f p p' := by
  obtain ⟨o', _, h2, h3⟩ := hB.sees n _ hn b hf
  cases h3 with
  | cells _ _ ha =>
    obtain ⟨s', p', rfl, k1, k2⟩ := ar2 ha
    exact ⟨s', p', h2, k1, k2⟩
theorem le_sees {ng : Nat} {f : NM} {h : List (Nat × GO)} {ns : List Nat} {w : World} (hB : Before ng f h ns w) {n b : Nat} {x y z : Value} {t : TypeId} (hn : look h n = some (.rw (.cells ⟨[x, y, z]⟩ t (0, 0)))) (hf : f n = some b) :
    ∃ x' y' z', Blk w b t #[x', y', z'] := by
  obtain ⟨o', _, h2, h3⟩ := hB.sees n _ hn b hf
  cases h3 with
  | cells _ _ ha =>
    obtain ⟨x', y', z', rfl, _, _, _⟩ := ar3 ha
    exact ⟨x', y', z', h2⟩
theorem Spec.ptrLoad {ng : Nat} {n m : Nat} {s x y z : Value} {t : TypeId} {h : List (Nat × GO)} {ns : List Nat} {K : Value → List (Nat × GO) → List Nat → Prop}
    (hn : look h n = some (.rw (.cells ⟨[s, .pointer (some ⟨m, 0, none⟩)]⟩ t (0, 0)))) (hm : look h m = some (.rw (.cells ⟨[x, y, z]⟩ 40 (0, 0)))) (hK : K (.pointer (some ⟨m, 0, none⟩)) h ns) :
    Spec Try.prog ng 65 [.pointer (some ⟨n, 1, none⟩)] h ns K := by
  intro f w args' hB hA
  obtain ⟨x', rfl, hx⟩ := ar1 hA
  cases hx with
  | ptr hf =>
    rename_i b
    obtain ⟨s', p', h1, h2, h3⟩ := st_sees hB hn hf
    cases h3 with
    | ptr hg =>
      rename_i c
      obtain ⟨_, _, _, hb⟩ := le_sees hB hm hg
      have hc : w.cell? ⟨b, 1, none⟩ = some (.pointer (some ⟨c, 0, none⟩)) := by rw [cell_row h1]; rfl
      refine (ptrLoad_c b 1 c _ _ _ w hc hb).mono ?_
      rintro e w' ⟨rfl, rfl⟩
      exact ⟨_, _, h, ns, f, rfl, hK, After.refl hB (.ptr hg)⟩
theorem Spec.ptrStore {ng : Nat} {n m : Nat} {s x y z : Value} {p : Option Addr} {t : TypeId} {h : List (Nat × GO)} {ns : List Nat} {K : Value → List (Nat × GO) → List Nat → Prop}
    (hn : look h n = some (.rw (.cells ⟨[s, .pointer p]⟩ t (0, 0)))) (hm : look h m = some (.rw (.cells ⟨[x, y, z]⟩ 40 (0, 0)))) (hK : K (.tuple ⟨[]⟩) ((n, .rw (.cells ⟨[s, .pointer (some ⟨m, 0, none⟩)]⟩ t (0, 0))) :: h) ns) :
    Spec Try.prog ng 57 [.pointer (some ⟨n, 1, none⟩), .pointer (some ⟨m, 0, none⟩)] h ns K := by
  intro f w args' hB hA
  obtain ⟨x', y', rfl, hx, hy⟩ := ar2 hA
  cases hx with
  | ptr hf =>
    cases hy with
    | ptr hg =>
      rename_i b c
      obtain ⟨s', p', h1, h2, h3⟩ := st_sees hB hn hf
      obtain ⟨_, _, _, hb⟩ := le_sees hB hm hg
      have hp : ∃ q, p' = .pointer q := by cases h3 <;> exact ⟨_, rfl⟩
      obtain ⟨q, rfl⟩ := hp
      have hc : w.cell? ⟨b, 1, none⟩ = some (.pointer q) := by rw [cell_row h1]; rfl
      have hz : w.frozen? ⟨b, 1, none⟩ = false := Blk.frozen (t := t) h1 1
      refine (ptrStore_c b 1 c _ _ w hc hz (by rw [hb.cell]; rfl)).mono ?_
      rintro e w' ⟨rfl, rfl⟩
      rw [setCell_setB h1]
      exact ⟨_, _, _, ns, f, rfl, hK, After.write hB hn hf (.cells t (0, 0) (((AR.one h2).push (.ptr hg)))) (AR.nil f).tuple⟩
theorem Spec.ptrCas {ng : Nat} {n m k : Nat} {s x y z x2 y2 z2 : Value} {t : TypeId} {h : List (Nat × GO)} {ns : List Nat} {K : Value → List (Nat × GO) → List Nat → Prop}
    (hn : look h n = some (.rw (.cells ⟨[s, .pointer (some ⟨m, 0, none⟩)]⟩ t (0, 0)))) (hm : look h m = some (.rw (.cells ⟨[x, y, z]⟩ 40 (0, 0)))) (hk : look h k = some (.rw (.cells ⟨[x2, y2, z2]⟩ 40 (0, 0))))
    (hK : K (.bool true) ((n, .rw (.cells ⟨[s, .pointer (some ⟨k, 0, none⟩)]⟩ t (0, 0))) :: h) ns) :
    Spec Try.prog ng 79 [.pointer (some ⟨n, 1, none⟩), .pointer (some ⟨m, 0, none⟩), .pointer (some ⟨k, 0, none⟩)] h ns K := by
  intro f w args' hB hA
  obtain ⟨x', y', z', rfl, hx, hy, hz⟩ := ar3 hA
  cases hx with
  | ptr hf =>
    cases hy with
    | ptr hg =>
      cases hz with
      | ptr hj =>
        rename_i b c d
        obtain ⟨s', p', h1, h2, h3⟩ := st_sees hB hn hf
        obtain ⟨_, _, _, hb⟩ := le_sees hB hm hg
        obtain ⟨_, _, _, hd⟩ := le_sees hB hk hj
        cases h3 with
        | ptr hg2 =>
          rw [hg] at hg2; cases hg2
          have hc : w.cell? ⟨b, 1, none⟩ = some (.pointer (some ⟨c, 0, none⟩)) := by rw [cell_row h1]; rfl
          have hz : w.frozen? ⟨b, 1, none⟩ = false := Blk.frozen (t := t) h1 1
          refine (ptrCas_c b 1 c d _ _ w hc hz (by rw [hb.cell]; rfl) (by rw [hd.cell]; rfl)).mono ?_
          rintro e w' ⟨rfl, rfl⟩
          rw [setCell_setB h1]
          exact ⟨_, _, _, ns, f, rfl, hK, After.write hB hn hf (.cells t (0, 0) (((AR.one h2).push (.ptr hj)))) (.bool true)⟩
end Go.Proofs.Ytpicmpfcmgocmaa

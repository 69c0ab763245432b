/- A heap in memory. -/
import Derived.Test.YtdligbcmhjhkfaaHP1

namespace Go.Proofs.Ytdligbcmhjhkfaa
open Go.RowKit
abbrev tTh : TypeId := 103
/-- the blocks of a heap: what it is made of, its row, and where each thing is -/
def HeapP (G : List Th → Nat → MapL → Prop) (t : TypeId) (rest : List Value) (w : World) (b : Nat) (F : Nat → Prop) : Prop :=
  ∃ (lb mb : Nat) (L : List Th) (n : Nat) (M : MapL) (ck : Nat), F b ∧ F lb ∧ F mb ∧ b ≠ lb ∧ b ≠ mb ∧ lb ≠ mb ∧ w.heap[b]? = some (.cells ⟨[.slice (some ⟨lb, 0, none⟩) n L.length, .map (some mb)] ++ rest⟩ t (0, 0)) ∧
    w.heap[lb]? = some (.cells ⟨flatR encT L⟩ tTh (0, 0)) ∧ w.heap[mb]? = some (.map ⟨encM evN M⟩ ck) ∧ 0 < L.length ∧ G L n M
def Heap0 (t : TypeId) (rest : List Value) (w : World) (b : Nat) (F : Nat → Prop) : Prop :=
  F b ∧ w.heap[b]? = some (.cells ⟨[.slice none 0 0, .map none] ++ rest⟩ t (0, 0))
theorem HeapP.keeps {G : List Th → Nat → MapL → Prop} {t : TypeId} {rest : List Value} {w w' : World} {b : Nat} {F : Nat → Prop} (h : HeapP G t rest w b F) (hk : ∀ k, F k → w'.heap[k]? = w.heap[k]?) : HeapP G t rest w' b F := by
  obtain ⟨lb, mb, L, n, M, ck, h1, h2, h3, a1, a2, a3, h4, h5, h6, h7, h8⟩ := h
  exact ⟨lb, mb, L, n, M, ck, h1, h2, h3, a1, a2, a3, by rw [hk b h1]; exact h4, by rw [hk lb h2]; exact h5, by rw [hk mb h3]; exact h6, h7, h8⟩
theorem HeapP.up {G : List Th → Nat → MapL → Prop} {t : TypeId} {rest : List Value} {w : World} {b : Nat} {F F' : Nat → Prop} (h : HeapP G t rest w b F) (hs : ∀ k, F k → F' k) : HeapP G t rest w b F' := by
  obtain ⟨lb, mb, L, n, M, ck, h1, h2, h3, h4⟩ := h
  exact ⟨lb, mb, L, n, M, ck, hs _ h1, hs _ h2, hs _ h3, h4⟩
theorem HeapP.mono {G G' : List Th → Nat → MapL → Prop} {t : TypeId} {rest : List Value} {w : World} {b : Nat} {F : Nat → Prop} (h : HeapP G t rest w b F) (hG : ∀ L n M, G L n M → G' L n M) : HeapP G' t rest w b F := by
  obtain ⟨lb, mb, L, n, M, ck, h1, h2, h3, a1, a2, a3, h4, h5, h6, h7, h8⟩ := h
  exact ⟨lb, mb, L, n, M, ck, h1, h2, h3, a1, a2, a3, h4, h5, h6, h7, hG _ _ _ h8⟩
/-- a heap with a place that is free for a thing -/
def FitR (t : TypeId) (rest : List Value) (k : Nat) (x : Th) (s : List Th) : ARes where
  P := HeapP (fun L n M => n ≤ 1000000 ∧ HI L n M k x s) t rest
  keeps := fun w w' b F h hk _ => h.keeps hk
  up := fun w b F F' h hs => h.up hs
  own := fun w b F h => by obtain ⟨_, _, _, _, _, _, h, _⟩ := h; exact h
/-- a heap of these things -/
def HeapR (t : TypeId) (rest : List Value) (s : List Th) : ARes where
  P := fun w b F => (s = [] ∧ Heap0 t rest w b F) ∨ HeapP (fun L n M => HG L n M s) t rest w b F
  keeps := fun w w' b F h hk _ => h.imp (fun h => ⟨h.1, h.2.1, by rw [hk b h.2.1]; exact h.2.2⟩) fun h => h.keeps hk
  up := fun w b F F' h hs => h.imp (fun h => ⟨h.1, hs _ h.2.1, h.2.2⟩) fun h => h.up hs
  own := fun w b F h => by
    rcases h with h | h
    · exact h.2.1
    · obtain ⟨_, _, _, _, _, _, h, _⟩ := h; exact h
theorem HeapR.perm {t : TypeId} {rest : List Value} {s s' : List Th} (h : s.Perm s') : HeapR t rest s = HeapR t rest s' := by
  have : (HeapR t rest s).P = (HeapR t rest s').P := by
    funext w b F
    apply propext
    simp only [HeapR]
    constructor
    · rintro (⟨h1, h2⟩ | h1)
      · exact Or.inl ⟨by subst h1; exact h.nil_eq.symm, h2⟩
      · exact Or.inr (h1.mono fun L n M H => { H with perm := H.perm.trans h })
    · rintro (⟨h1, h2⟩ | h1)
      · exact Or.inl ⟨by subst h1; exact h.eq_nil, h2⟩
      · exact Or.inr (h1.mono fun L n M H => { H with perm := H.perm.trans h.symm })
  unfold HeapR at this ⊢
  simp only [ARes.mk.injEq]
  exact ⟨this, trivial⟩
open Classical in
noncomputable def hpNM (b lb mb : Nat) (F : Nat → Prop) : NM := ⟨fun n => if n = 500 ∨ n = 599 then some b else if n = 501 then some lb else if n = 502 then some mb else none,
  fun q => if q = lb then some 501 else if q = mb then some 502 else if F q then some 500 else none⟩
theorem AR.appL {f : NM} {x x' y y' : List Value} (h : AR f ⟨x⟩ ⟨x'⟩) (k : AR f ⟨y⟩ ⟨y'⟩) : AR f ⟨x ++ y⟩ ⟨x' ++ y'⟩ := by simpa using AR.append h k
theorem AR.lits {f : NM} {b : Nat} (h1 : f 500 = some b) (h2 : f 599 = some b) (r : List Value) : AR f ⟨r.map lit⟩ ⟨r⟩ := by
  refine ⟨by simp, fun i v v' a c => ?_⟩
  simp only [List.getElem?_toArray, List.getElem?_map] at a c
  rw [c] at a
  simp at a
  subst a
  exact .lit v' h1 h2
theorem lit_inv {f : NM} {v v' : Value} (h : VR f (lit v) v') : v' = v := by
  cases h; rfl
theorem AR.lits_inv {f : NM} {r r' : List Value} (h : AR f ⟨r.map lit⟩ ⟨r'⟩) : r' = r := by
  apply List.ext_getElem?
  intro i
  have hs : r.length = r'.length := by simpa using h.1
  by_cases hi : i < r.length
  · have hi' : i < r'.length := by omega
    have := h.2 i (lit r[i]) r'[i] (by simp [hi]) (by simp [hi'])
    rw [List.getElem?_eq_getElem hi, List.getElem?_eq_getElem hi', lit_inv this]
  · rw [List.getElem?_eq_none (by omega), List.getElem?_eq_none (by omega)]
theorem AR.split2 {f : NM} {a b : Value} {y : List Value} {c : Array Value} (h : AR f ⟨[a, b] ++ y⟩ c) : ∃ a' b' y', c = ⟨[a', b'] ++ y'⟩ ∧ VR f a a' ∧ VR f b b' ∧ AR f ⟨y⟩ ⟨y'⟩ := by
  obtain ⟨a', l', rfl, h1, h2⟩ := AR.cons (x' := undef) h
  obtain ⟨b', l2, e, h3, h4⟩ := AR.cons (x' := undef) h2
  have e' : l' = b' :: l2 := by simpa using e
  subst e'
  exact ⟨a', b', l2, rfl, h1, h3, h4⟩
abbrev hpH (L : List Th) (n : Nat) (M : MapL) (ck : Nat) (t : TypeId) (rest : List Value) : List (Nat × GO) :=
  [(500, .rw (.cells ⟨[.slice (some ⟨501, 0, none⟩) n L.length, .map (some 502)] ++ rest.map lit⟩ t)), (501, .rw (.cells ⟨flatR encT L⟩ tTh)), (502, .rw (.map ⟨encM evN M⟩ ck))]
theorem unp_heap {R : ARes} {G : List Th → Nat → MapL → Prop} {t : TypeId} {rest : List Value} {w : World} {b : Nat} {F : Nat → Prop} (h : HeapP G t rest w b F) (h3 : b < w.heap.size) (h4 : ∀ k, F k → k < w.heap.size) :
    ∃ (f : NM) (L : List Th) (n : Nat) (M : MapL) (ck : Nat), 0 < L.length ∧ G L n M ∧ UnpR w (some R) b F f (hpH L n M ck t rest) := by
  obtain ⟨lb, mb, L, n, M, ck, f1, f2, f3, a1, a2, a3, q1, q2, q3, q4, q5⟩ := h
  refine ⟨hpNM b lb mb F, L, n, M, ck, q4, q5, { at_ := by simp [hpNM], nm := ?_, ow1 := ?_, ow2 := ?_, sees := ?_ }⟩
  · intro n q hn
    simp only [hpNM] at hn
    split at hn
    · rename_i e; cases hn; exact ⟨by omega, by omega, h3, f1⟩
    · split at hn
      · cases hn; exact ⟨by omega, by omega, h4 _ f2, f2⟩
      · split at hn
        · cases hn; exact ⟨by omega, by omega, h4 _ f3, f3⟩
        · cases hn
  · intro q n hn
    simp only [hpNM] at hn
    split at hn
    · rename_i e; cases hn; exact ⟨by decide, by decide, e ▸ f2⟩
    · split at hn
      · rename_i e; cases hn; exact ⟨by decide, by decide, e ▸ f3⟩
      · split at hn
        · rename_i e; cases hn; exact ⟨by decide, by decide, e⟩
        · cases hn
  · intro q hq
    simp only [hpNM]
    split
    · exact ⟨_, rfl⟩
    · split
      · exact ⟨_, rfl⟩
      · exact ⟨500, by simp [hq]⟩
  · intro n g hg
    rw [look_cons, look_cons, look_cons] at hg
    split at hg
    · rename_i e; subst e; cases hg
      intro b' hb
      simp [hpNM] at hb; subst hb
      refine ⟨_, by simp [hpNM, f1, a1, a2], q1, .cells _ _ (AR.appL ?_ (AR.lits (b := b) (by simp [hpNM]) (by simp [hpNM]) rest))⟩
      have := (AR.one (f := hpNM b lb mb F) (.slice (l := n) (c := L.length) (off := 0) (n := 501) (b := lb) (by simp [hpNM]))).push (v := .map (some 502)) (v' := .map (some mb)) (.map (by simp [hpNM]))
      simpa using this
    · split at hg
      · rename_i e; subst e; cases hg
        intro b' hb
        simp [hpNM] at hb; subst hb
        exact ⟨_, by simp [hpNM], q2, .cells _ _ (cleanA _ (flatR_clean (fun _ => rfl) _))⟩
      · split at hg
        · rename_i e; subst e; cases hg
          intro b' hb
          simp [hpNM] at hb; subst hb
          exact ⟨_, by have a4 : ¬ mb = lb := fun h => a3 h.symm; simp [hpNM, a4], q3, OR.encM evN_clean rfl rfl⟩
        · cases hg
theorem unp_heap0 {R : ARes} {t : TypeId} {rest : List Value} {w : World} {b : Nat} {F : Nat → Prop} (h : Heap0 t rest w b F) (h3 : b < w.heap.size) (h4 : ∀ k, F k → k < w.heap.size) :
    ∃ (f : NM), UnpR w (some R) b F f [(500, .rw (.cells ⟨[.slice none 0 0, .map none] ++ rest.map lit⟩ t))] := by
  classical
  obtain ⟨f1, q1⟩ := h
  refine ⟨⟨fun n => if n = 500 ∨ n = 599 then some b else none, fun q => if F q then some 500 else none⟩, { at_ := by simp, nm := ?_, ow1 := ?_, ow2 := ?_, sees := ?_ }⟩
  · intro n q hn
    simp only at hn
    split at hn
    · rename_i e; cases hn; exact ⟨by omega, by omega, h3, f1⟩
    · cases hn
  · intro q n hn
    simp only at hn
    split at hn
    · rename_i e; cases hn; exact ⟨by decide, by decide, e⟩
    · cases hn
  · intro q hq; exact ⟨500, by simp [hq]⟩
  · intro n g hg
    rw [look_cons] at hg
    split at hg
    · rename_i e; subst e; cases hg
      intro b' hb
      simp at hb; subst hb
      refine ⟨_, by simp [f1], q1, .cells _ _ (AR.appL ?_ (AR.lits (b := b) (by simp) (by simp) rest))⟩
      have := fun f => (AR.one (f := f) (.sliceN 0 0)).push (v := .map none) (v' := .map none) .mapN
      simpa using this _
    · cases hg
/-- blocks of these names are a heap -/
theorem pack_heap {h : List (Nat × GO)} {nH nL nM : Nat} {N : List Nat} {G : List Th → Nat → MapL → Prop} {t : TypeId} {rest : List Value} {L : List Th} {n c : Nat} {M : MapL} {ck : Nat}
    (hl : look h nH = some (.rw (.cells ⟨[.slice (some ⟨nL, 0, none⟩) n c, .map (some nM)] ++ rest.map lit⟩ t))) (h2 : look h nL = some (.rw (.cells ⟨flatR encT L⟩ tTh))) (h3 : look h nM = some (.rw (.map ⟨encM evN M⟩ ck)))
    (hN : (memL nH N && memL nL N && memL nM N && !Nat.beq nH nL && !Nat.beq nH nM && !Nat.beq nL nM) = true) (hc : c = L.length) (h0 : 0 < L.length) (hG : G L n M) (g : NM) (w : World) (b : Nat) (hs : Sees g h w) (hb : g nH = some b) :
    HeapP G t rest w b fun k => ∃ n, memL n N = true ∧ g.ow k = some n := by
  simp only [Bool.and_eq_true, Bool.not_eq_true'] at hN
  obtain ⟨⟨⟨⟨⟨m1, m2⟩, m3⟩, d1⟩, d2⟩, d3⟩ := hN
  have ne : ∀ {a b : Nat}, Nat.beq a b = false → a ≠ b := fun h e => by subst e; simp at h
  obtain ⟨o', k1, k2, k3⟩ := hs nH _ hl b hb
  cases k3 with
  | cells _ _ ha =>
    obtain ⟨a', b', y', rfl, r1, r2, r3⟩ := AR.split2 ha
    have := AR.lits_inv r3; subst this
    cases r1 with
    | sliceZ _ _ A => omega
    | slice hnL =>
      rename_i lb
      subst hc
      cases r2 with
      | map hnM =>
        rename_i mb
        obtain ⟨o2, p1, p2, p3⟩ := hs nL _ h2 lb hnL
        obtain ⟨o3, s1, s2, s3⟩ := hs nM _ h3 mb hnM
        refine ⟨lb, mb, L, n, M, ck, ⟨nH, m1, k1⟩, ⟨nL, m2, p1⟩, ⟨nM, m3, s1⟩, ?_, ?_, ?_, k2, ?_, ?_, h0, hG⟩
        · intro e; subst e; rw [k1] at p1; exact ne d1 (by simpa using p1)
        · intro e; subst e; rw [k1] at s1; exact ne d2 (by simpa using s1)
        · intro e; subst e; rw [p1] at s1; exact ne d3 (by simpa using s1)
        · cases p3 with
          | cells _ _ hh => rw [p2, cleanL_eq (flatR_clean (fun _ => rfl) _) hh]
        · cases s3 with
          | map _ hh => rw [s2, ES.encM_eq evN_clean hh]
theorem pack_zero {h : List (Nat × GO)} {nH : Nat} {N : List Nat} {t : TypeId} {rest : List Value} (hl : look h nH = some (.rw (.cells ⟨[.slice none 0 0, .map none] ++ rest.map lit⟩ t))) (hN : memL nH N = true) (g : NM) (w : World) (b : Nat) (hs : Sees g h w) (hb : g nH = some b) :
    Heap0 t rest w b fun k => ∃ n, memL n N = true ∧ g.ow k = some n := by
  obtain ⟨o', k1, k2, k3⟩ := hs nH _ hl b hb
  cases k3 with
  | cells _ _ ha =>
    obtain ⟨a', b', y', rfl, r1, r2, r3⟩ := AR.split2 ha
    have := AR.lits_inv r3; subst this
    cases r1
    cases r2
    exact ⟨⟨nH, hN, k1⟩, k2⟩
end Go.Proofs.Ytdligbcmhjhkfaa

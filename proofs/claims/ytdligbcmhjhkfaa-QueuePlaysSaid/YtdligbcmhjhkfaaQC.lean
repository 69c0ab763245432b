/- A heap with clean cells behind it, opened and closed. -/
import Derived.Test.YtdligbcmhjhkfaaQ0

namespace Go.Proofs.Ytdligbcmhjhkfaa
open Go.RowKit
abbrev hpHC (L : List Th) (n : Nat) (M : MapL) (ck : Nat) (t : TypeId) (rest : List Value) : List (Nat × GO) :=
  [(500, .rw (.cells ⟨[.slice (some ⟨501, 0, none⟩) n L.length, .map (some 502)] ++ rest⟩ t)), (501, .rw (.cells ⟨flatR encT L⟩ tTh)), (502, .rw (.map ⟨encM evN M⟩ ck))]
theorem unp_heapC {R : ARes} {G : List Th → Nat → MapL → Prop} {t : TypeId} {rest : List Value} {w : World} {b : Nat} {F : Nat → Prop} (hr : cleanL rest = true) (h : HeapP G t rest w b F) (h3 : b < w.heap.size) (h4 : ∀ k, F k → k < w.heap.size) :
    ∃ (f : NM) (L : List Th) (n : Nat) (M : MapL) (ck : Nat), 0 < L.length ∧ G L n M ∧ UnpR w (some R) b F f (hpHC L n M ck t rest) := by
  obtain ⟨lb, mb, L, n, M, ck, f1, f2, f3, a1, a2, a3, q1, q2, q3, q4, q5⟩ := h
  refine ⟨hpNM b lb mb F, L, n, M, ck, q4, q5, { at_ := by simp [hpNM], nm := ?_, ow1 := ?_, ow2 := ?_, sees := ?_ }⟩
  · intro n q hn
    simp only [hpNM] at hn
    split at hn
    · rename_i e; cases hn; exact ⟨by omega, by omega, h3, f1⟩
    · split at hn
      · cases hn; exact ⟨by omega, by omega, h4 _ f2, f2⟩
      · split at hn
        · cases hn; exact ⟨by omega, by omega, h4 _ f3, f3⟩
        · cases hn
  · intro q n hn
    simp only [hpNM] at hn
    split at hn
    · rename_i e; cases hn; exact ⟨by decide, by decide, e ▸ f2⟩
    · split at hn
      · rename_i e; cases hn; exact ⟨by decide, by decide, e ▸ f3⟩
      · split at hn
        · rename_i e; cases hn; exact ⟨by decide, by decide, e⟩
        · cases hn
  · intro q hq
    simp only [hpNM]
    split
    · exact ⟨_, rfl⟩
    · split
      · exact ⟨_, rfl⟩
      · exact ⟨500, by simp [hq]⟩
  · intro n g hg
    rw [look_cons, look_cons, look_cons] at hg
    split at hg
    · rename_i e; subst e; cases hg
      intro b' hb
      simp [hpNM] at hb; subst hb
      refine ⟨_, by simp [hpNM, f1, a1, a2], q1, .cells _ _ (AR.appL ?_ (cleanA _ hr))⟩
      have := (AR.one (f := hpNM b lb mb F) (.slice (l := n) (c := L.length) (off := 0) (n := 501) (b := lb) (by simp [hpNM]))).push (v := .map (some 502)) (v' := .map (some mb)) (.map (by simp [hpNM]))
      simpa using this
    · split at hg
      · rename_i e; subst e; cases hg
        intro b' hb
        simp [hpNM] at hb; subst hb
        exact ⟨_, by simp [hpNM], q2, .cells _ _ (cleanA _ (flatR_clean (fun _ => rfl) _))⟩
      · split at hg
        · rename_i e; subst e; cases hg
          intro b' hb
          simp [hpNM] at hb; subst hb
          exact ⟨_, by have a4 : ¬ mb = lb := fun h => a3 h.symm; simp [hpNM, a4], q3, OR.encM evN_clean rfl rfl⟩
        · cases hg
theorem unp_heap0C {R : ARes} {t : TypeId} {rest : List Value} {w : World} {b : Nat} {F : Nat → Prop} (hr : cleanL rest = true) (h : Heap0 t rest w b F) (h3 : b < w.heap.size) (h4 : ∀ k, F k → k < w.heap.size) :
    ∃ (f : NM), UnpR w (some R) b F f [(500, .rw (.cells ⟨[.slice none 0 0, .map none] ++ rest⟩ t))] := by
  classical
  obtain ⟨f1, q1⟩ := h
  refine ⟨⟨fun n => if n = 500 ∨ n = 599 then some b else none, fun q => if F q then some 500 else none⟩, { at_ := by simp, nm := ?_, ow1 := ?_, ow2 := ?_, sees := ?_ }⟩
  · intro n q hn
    simp only at hn
    split at hn
    · rename_i e; cases hn; exact ⟨by omega, by omega, h3, f1⟩
    · cases hn
  · intro q n hn
    simp only at hn
    split at hn
    · rename_i e; cases hn; exact ⟨by decide, by decide, e⟩
    · cases hn
  · intro q hq; exact ⟨500, by simp [hq]⟩
  · intro n g hg
    rw [look_cons] at hg
    split at hg
    · rename_i e; subst e; cases hg
      intro b' hb
      simp at hb; subst hb
      refine ⟨_, by simp [f1], q1, .cells _ _ (AR.appL ?_ (cleanA _ hr))⟩
      have := fun f => (AR.one (f := f) (.sliceN 0 0)).push (v := .map none) (v' := .map none) .mapN
      simpa using this _
    · cases hg
theorem pack_heapC {h : List (Nat × GO)} {nH nL nM : Nat} {N : List Nat} {G : List Th → Nat → MapL → Prop} {t : TypeId} {rest : List Value} {L : List Th} {n c : Nat} {M : MapL} {ck : Nat}
    (hl : look h nH = some (.rw (.cells ⟨[.slice (some ⟨nL, 0, none⟩) n c, .map (some nM)] ++ rest⟩ t))) (h2 : look h nL = some (.rw (.cells ⟨flatR encT L⟩ tTh))) (h3 : look h nM = some (.rw (.map ⟨encM evN M⟩ ck)))
    (hN : (memL nH N && memL nL N && memL nM N && !Nat.beq nH nL && !Nat.beq nH nM && !Nat.beq nL nM) = true) (hr : cleanL rest = true) (hc : c = L.length) (h0 : 0 < L.length) (hG : G L n M) (g : NM) (w : World) (b : Nat) (hs : Sees g h w) (hb : g nH = some b) :
    HeapP G t rest w b fun k => ∃ n, memL n N = true ∧ g.ow k = some n := by
  simp only [Bool.and_eq_true, Bool.not_eq_true'] at hN
  obtain ⟨⟨⟨⟨⟨m1, m2⟩, m3⟩, d1⟩, d2⟩, d3⟩ := hN
  have ne : ∀ {a b : Nat}, Nat.beq a b = false → a ≠ b := fun h e => by subst e; simp at h
  obtain ⟨o', k1, k2, k3⟩ := hs nH _ hl b hb
  cases k3 with
  | cells _ _ ha =>
    obtain ⟨a', b', y', rfl, r1, r2, r3⟩ := AR.split2 ha
    have := congrArg Array.toList (cleanL_eq hr r3); simp only at this; subst this
    cases r1 with
    | sliceZ _ _ A => omega
    | slice hnL =>
      rename_i lb
      subst hc
      cases r2 with
      | map hnM =>
        rename_i mb
        obtain ⟨o2, p1, p2, p3⟩ := hs nL _ h2 lb hnL
        obtain ⟨o3, s1, s2, s3⟩ := hs nM _ h3 mb hnM
        refine ⟨lb, mb, L, n, M, ck, ⟨nH, m1, k1⟩, ⟨nL, m2, p1⟩, ⟨nM, m3, s1⟩, ?_, ?_, ?_, k2, ?_, ?_, h0, hG⟩
        · intro e; subst e; rw [k1] at p1; exact ne d1 (by simpa using p1)
        · intro e; subst e; rw [k1] at s1; exact ne d2 (by simpa using s1)
        · intro e; subst e; rw [p1] at s1; exact ne d3 (by simpa using s1)
        · cases p3 with
          | cells _ _ hh => rw [p2, cleanL_eq (flatR_clean (fun _ => rfl) _) hh]
        · cases s3 with
          | map _ hh => rw [s2, ES.encM_eq evN_clean hh]
theorem pack_zeroC {h : List (Nat × GO)} {nH : Nat} {N : List Nat} {t : TypeId} {rest : List Value} (hl : look h nH = some (.rw (.cells ⟨[.slice none 0 0, .map none] ++ rest⟩ t))) (hr : cleanL rest = true) (hN : memL nH N = true) (g : NM) (w : World) (b : Nat) (hs : Sees g h w) (hb : g nH = some b) :
    Heap0 t rest w b fun k => ∃ n, memL n N = true ∧ g.ow k = some n := by
  obtain ⟨o', k1, k2, k3⟩ := hs nH _ hl b hb
  cases k3 with
  | cells _ _ ha =>
    obtain ⟨a', b', y', rfl, r1, r2, r3⟩ := AR.split2 ha
    have := congrArg Array.toList (cleanL_eq hr r3); simp only at this; subst this
    cases r1
    cases r2
    exact ⟨⟨nH, hN, k1⟩, k2⟩
abbrev tQ : TypeId := 74
abbrev evJ (j : JB) : Value := jbV j
theorem evJ_clean (j : JB) : clean (evJ j) = true := rfl
abbrev qH (L : List Th) (n : Nat) (M : MapL) (ck : Nat) (J : MapJ) (jk : Nat) : List (Nat × GO) :=
  [(500, .rw (.cells ⟨[.slice (some ⟨501, 0, none⟩) n L.length, .map (some 502), .map (some 503)]⟩ tQ)), (501, .rw (.cells ⟨flatR encT L⟩ tTh)), (502, .rw (.map ⟨encM evN M⟩ ck)), (503, .rw (.map ⟨encM evJ J⟩ jk))]
open Classical in
noncomputable def qNM (b lb mb jb : Nat) (F : Nat → Prop) : NM := ⟨fun n => if n = 500 then some b else if n = 501 then some lb else if n = 502 then some mb else if n = 503 then some jb else none,
  fun q => if q = jb then some 503 else if q = lb then some 501 else if q = mb then some 502 else if F q then some 500 else none⟩
theorem unp_q {R : ARes} {G : List Th → Nat → MapL → Prop} {w : World} {b jb jk : Nat} {J : MapJ} {F Fh : Nat → Prop} (h : HeapP G tQ [.map (some jb)] w b Fh) (hj : F jb) (hnj : ¬ Fh jb) (hFh : ∀ k, Fh k → F k) (hJ : w.heap[jb]? = some (.map ⟨encM evJ J⟩ jk)) (h3 : b < w.heap.size) (h4 : ∀ k, F k → k < w.heap.size) :
    ∃ (f : NM) (L : List Th) (n : Nat) (M : MapL) (ck : Nat), 0 < L.length ∧ G L n M ∧ UnpR w (some R) b F f (qH L n M ck J jk) := by
  obtain ⟨lb, mb, L, n, M, ck, f1, f2, f3, a1, a2, a3, q1, q2, q3, q4, q5⟩ := h
  have j1 : b ≠ jb := fun e => hnj (e ▸ f1)
  have j2 : lb ≠ jb := fun e => hnj (e ▸ f2)
  have j3 : mb ≠ jb := fun e => hnj (e ▸ f3)
  refine ⟨qNM b lb mb jb F, L, n, M, ck, q4, q5, { at_ := by simp [qNM], nm := ?_, ow1 := ?_, ow2 := ?_, sees := ?_ }⟩
  · intro n q hn
    simp only [qNM] at hn
    split at hn
    · cases hn; exact ⟨by omega, by omega, h3, hFh _ f1⟩
    · split at hn
      · cases hn; exact ⟨by omega, by omega, h4 _ (hFh _ f2), hFh _ f2⟩
      · split at hn
        · cases hn; exact ⟨by omega, by omega, h4 _ (hFh _ f3), hFh _ f3⟩
        · split at hn
          · cases hn; exact ⟨by omega, by omega, h4 _ hj, hj⟩
          · cases hn
  · intro q n hn
    simp only [qNM] at hn
    split at hn
    · rename_i e; cases hn; exact ⟨by decide, by decide, e ▸ hj⟩
    · split at hn
      · rename_i e; cases hn; exact ⟨by decide, by decide, e ▸ hFh _ f2⟩
      · split at hn
        · rename_i e; cases hn; exact ⟨by decide, by decide, e ▸ hFh _ f3⟩
        · split at hn
          · rename_i e; cases hn; exact ⟨by decide, by decide, e⟩
          · cases hn
  · intro q hq
    simp only [qNM]
    split
    · exact ⟨_, rfl⟩
    · split
      · exact ⟨_, rfl⟩
      · split
        · exact ⟨_, rfl⟩
        · exact ⟨500, by simp [hq]⟩
  · intro n g hg
    rw [look_cons, look_cons, look_cons, look_cons] at hg
    split at hg
    · rename_i e; subst e; cases hg
      intro b' hb
      simp [qNM] at hb; subst hb
      refine ⟨_, by simp [qNM, hFh _ f1, a1, a2, j1], q1, .cells _ _ ?_⟩
      have := ((AR.one (f := qNM b lb mb jb F) (.slice (l := n) (c := L.length) (off := 0) (n := 501) (b := lb) (by simp [qNM]))).push (v := .map (some 502)) (v' := .map (some mb)) (.map (by simp [qNM]))).push (v := .map (some 503)) (v' := .map (some jb)) (.map (by simp [qNM]))
      simpa using this
    · split at hg
      · rename_i e; subst e; cases hg
        intro b' hb
        simp [qNM] at hb; subst hb
        exact ⟨_, by simp [qNM, j2], q2, .cells _ _ (cleanA _ (flatR_clean (fun _ => rfl) _))⟩
      · split at hg
        · rename_i e; subst e; cases hg
          intro b' hb
          simp [qNM] at hb; subst hb
          exact ⟨_, by have a4 : ¬ mb = lb := fun h => a3 h.symm; simp [qNM, a4, j3], q3, OR.encM evN_clean rfl rfl⟩
        · split at hg
          · rename_i e; subst e; cases hg
            intro b' hb
            simp [qNM] at hb; subst hb
            exact ⟨_, by simp [qNM], hJ, OR.encM evJ_clean rfl rfl⟩
          · cases hg
open Classical in
noncomputable def q0NM (b jb : Nat) (F : Nat → Prop) : NM := ⟨fun n => if n = 500 then some b else if n = 503 then some jb else none,
  fun q => if q = jb then some 503 else if F q then some 500 else none⟩
theorem unp_q0 {R : ARes} {w : World} {b jb jk : Nat} {J : MapJ} {F Fh : Nat → Prop} (h : Heap0 tQ [.map (some jb)] w b Fh) (hj : F jb) (hnj : ¬ Fh jb) (hFh : ∀ k, Fh k → F k) (hJ : w.heap[jb]? = some (.map ⟨encM evJ J⟩ jk)) (h3 : b < w.heap.size) (h4 : ∀ k, F k → k < w.heap.size) :
    ∃ (f : NM), UnpR w (some R) b F f [(500, .rw (.cells ⟨[.slice none 0 0, .map none, .map (some 503)]⟩ tQ)), (503, .rw (.map ⟨encM evJ J⟩ jk))] := by
  obtain ⟨f1, q1⟩ := h
  have j1 : b ≠ jb := fun e => hnj (e ▸ f1)
  refine ⟨q0NM b jb F, { at_ := by simp [q0NM], nm := ?_, ow1 := ?_, ow2 := ?_, sees := ?_ }⟩
  · intro n q hn
    simp only [q0NM] at hn
    split at hn
    · cases hn; exact ⟨by omega, by omega, h3, hFh _ f1⟩
    · split at hn
      · cases hn; exact ⟨by omega, by omega, h4 _ hj, hj⟩
      · cases hn
  · intro q n hn
    simp only [q0NM] at hn
    split at hn
    · rename_i e; cases hn; exact ⟨by decide, by decide, e ▸ hj⟩
    · split at hn
      · rename_i e; cases hn; exact ⟨by decide, by decide, e⟩
      · cases hn
  · intro q hq
    simp only [q0NM]
    split
    · exact ⟨_, rfl⟩
    · exact ⟨500, by simp [hq]⟩
  · intro n g hg
    rw [look_cons, look_cons] at hg
    split at hg
    · rename_i e; subst e; cases hg
      intro b' hb
      simp [q0NM] at hb; subst hb
      refine ⟨_, by simp [q0NM, hFh _ f1, j1], q1, .cells _ _ ?_⟩
      have := ((AR.one (f := q0NM b jb F) (.sliceN 0 0)).push (v := .map none) (v' := .map none) .mapN).push (v := .map (some 503)) (v' := .map (some jb)) (.map (by simp [q0NM]))
      simpa using this
    · split at hg
      · rename_i e; subst e; cases hg
        intro b' hb
        simp [q0NM] at hb; subst hb
        exact ⟨_, by simp [q0NM], hJ, OR.encM evJ_clean rfl rfl⟩
      · cases hg
theorem AR.split3 {f : NM} {a b c : Value} {d : Array Value} (h : AR f ⟨[a, b, c]⟩ d) : ∃ a' b' c', d = ⟨[a', b', c']⟩ ∧ VR f a a' ∧ VR f b b' ∧ VR f c c' := by
  obtain ⟨a', b', y', rfl, h1, h2, h3⟩ := AR.split2 (y := [c]) h
  obtain ⟨c', l', e, h4, h5⟩ := AR.cons (x' := undef) h3
  have e' : y' = c' :: l' := by simpa using e
  subst e'
  have : l' = [] := by have := h5.1; exact List.eq_nil_of_length_eq_zero (by simpa using this.symm)
  subst this
  exact ⟨a', b', c', rfl, h1, h2, h4⟩
theorem nb_ne {a b : Nat} (h : Nat.beq a b = false) : a ≠ b := fun e => by subst e; simp at h
theorem pack_q {h : List (Nat × GO)} {nH nL nM nJ : Nat} {G : List Th → Nat → MapL → Prop} {L : List Th} {n c : Nat} {M : MapL} {ck : Nat} {J : MapJ} {jk : Nat}
    (hl : look h nH = some (.rw (.cells ⟨[.slice (some ⟨nL, 0, none⟩) n c, .map (some nM), .map (some nJ)]⟩ tQ))) (h2 : look h nL = some (.rw (.cells ⟨flatR encT L⟩ tTh))) (h3 : look h nM = some (.rw (.map ⟨encM evN M⟩ ck))) (h4 : look h nJ = some (.rw (.map ⟨encM evJ J⟩ jk)))
    (hN : (!Nat.beq nH nL && !Nat.beq nH nM && !Nat.beq nL nM && !Nat.beq nH nJ && !Nat.beq nL nJ && !Nat.beq nM nJ) = true) (hc : c = L.length) (h0 : 0 < L.length) (hG : G L n M) (g : NM) (w : World) (b : Nat) (hs : Sees g h w) (hb : g nH = some b) :
    ∃ jb, (∃ n, memL n [nH, nL, nM, nJ] = true ∧ g.ow jb = some n) ∧ ¬ (∃ n, memL n [nH, nL, nM] = true ∧ g.ow jb = some n) ∧ HeapP G tQ [.map (some jb)] w b (fun k => ∃ n, memL n [nH, nL, nM] = true ∧ g.ow k = some n) ∧ w.heap[jb]? = some (.map ⟨encM evJ J⟩ jk) := by
  simp only [Bool.and_eq_true, Bool.not_eq_true'] at hN
  obtain ⟨⟨⟨⟨⟨d1, d2⟩, d3⟩, d4⟩, d5⟩, d6⟩ := hN
  obtain ⟨o', k1, k2, k3⟩ := hs nH _ hl b hb
  cases k3 with
  | cells _ _ ha =>
    obtain ⟨a', b', c', rfl, r1, r2, r3⟩ := AR.split3 ha
    cases r1 with
    | sliceZ _ _ A => omega
    | slice hnL =>
      rename_i lb
      subst hc
      cases r2 with
      | map hnM =>
        rename_i mb
        cases r3 with
        | map hnJ =>
          rename_i jb
          obtain ⟨o2, p1, p2, p3⟩ := hs nL _ h2 lb hnL
          obtain ⟨o3, s1, s2, s3⟩ := hs nM _ h3 mb hnM
          obtain ⟨o4, t1, t2, t3⟩ := hs nJ _ h4 jb hnJ
          refine ⟨jb, ⟨nJ, by simp [memL], t1⟩, ?_, ⟨lb, mb, L, n, M, ck, ⟨nH, by simp [memL], k1⟩, ⟨nL, by simp [memL], p1⟩, ⟨nM, by simp [memL], s1⟩, ?_, ?_, ?_, k2, ?_, ?_, h0, hG⟩, ?_⟩
          · rintro ⟨n, e1, e2⟩
            rw [t1] at e2; cases e2
            simp [memL, d4, d5, d6] at e1
          · intro e; subst e; rw [k1] at p1; exact nb_ne d1 (by simpa using p1)
          · intro e; subst e; rw [k1] at s1; exact nb_ne d2 (by simpa using s1)
          · intro e; subst e; rw [p1] at s1; exact nb_ne d3 (by simpa using s1)
          · cases p3 with
            | cells _ _ hh => rw [p2, cleanL_eq (flatR_clean (fun _ => rfl) _) hh]
          · cases s3 with
            | map _ hh => rw [s2, ES.encM_eq evN_clean hh]
          · cases t3 with
            | map _ hh => rw [t2, ES.encM_eq evJ_clean hh]
theorem pack_q0 {h : List (Nat × GO)} {nH nJ : Nat} {J : MapJ} {jk : Nat}
    (hl : look h nH = some (.rw (.cells ⟨[.slice none 0 0, .map none, .map (some nJ)]⟩ tQ))) (h4 : look h nJ = some (.rw (.map ⟨encM evJ J⟩ jk)))
    (hN : (!Nat.beq nH nJ) = true) (g : NM) (w : World) (b : Nat) (hs : Sees g h w) (hb : g nH = some b) :
    ∃ jb, (∃ n, memL n [nH, nJ] = true ∧ g.ow jb = some n) ∧ ¬ (∃ n, memL n [nH] = true ∧ g.ow jb = some n) ∧ Heap0 tQ [.map (some jb)] w b (fun k => ∃ n, memL n [nH] = true ∧ g.ow k = some n) ∧ w.heap[jb]? = some (.map ⟨encM evJ J⟩ jk) := by
  simp only [Bool.not_eq_true'] at hN
  obtain ⟨o', k1, k2, k3⟩ := hs nH _ hl b hb
  cases k3 with
  | cells _ _ ha =>
    obtain ⟨a', b', c', rfl, r1, r2, r3⟩ := AR.split3 ha
    cases r1
    cases r2
    cases r3 with
    | map hnJ =>
      rename_i jb
      obtain ⟨o4, t1, t2, t3⟩ := hs nJ _ h4 jb hnJ
      refine ⟨jb, ⟨nJ, by simp [memL], t1⟩, ?_, ⟨⟨nH, by simp [memL], k1⟩, k2⟩, ?_⟩
      · rintro ⟨n, e1, e2⟩
        rw [t1] at e2; cases e2
        simp [memL] at e1
        exact nb_ne hN e1
      · cases t3 with
        | map _ hh => rw [t2, ES.encM_eq evJ_clean hh]
end Go.Proofs.Ytdligbcmhjhkfaa

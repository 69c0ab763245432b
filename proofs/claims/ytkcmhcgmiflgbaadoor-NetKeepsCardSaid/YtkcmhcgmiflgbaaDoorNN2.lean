/- A net in memory, put together again. -/
import Derived.Test.YtkcmhcgmiflgbaaDoorNN1

namespace Go.Proofs.YtkcmhcgmiflgbaaDoor
open Go.RowKit
theorem pack_net {h : List (Nat × GO)} {N : List Nat} {x : List Msg} {t : TypeId} {mm nm ck n0 : Nat} {E Eo : List NEnt} {rest : List (Nat × GO)} {K0 : Option (Int × Int)}
    (hl : look h n0 = some (.rw (.cells ⟨[.map (some mm)]⟩ t (0, 0)))) (hm : look h mm = some (.rw (.map ⟨encR (E.map (gN K0 nm))⟩ ck))) (hI : NetI E ck x)
    (hs : ∀ e ∈ E, K0 = some e.key → ∃ te, look h nm = some (.rw (.cells ⟨flatR eM (e.L ++ e.jk)⟩ te (0, 0))))
    (hr : RestOk Eo rest) (hrest : rest ≠ [] → look h 503 = look rest 503) (ho : ∀ e ∈ E, K0 ≠ some e.key → e ∈ Eo) (hod : ((offK K0 E).map (·.k)).Nodup)
    (hN0 : memL n0 N = true) (hNm : memL mm N = true) (hNn : (∃ e ∈ E, K0 = some e.key) → memL nm N = true) (hN3 : memL 503 N = true) (hn3 : nm ≠ 503) : Packs h n0 N (NetR x) := by
  intro g w b hse hb
  obtain ⟨o', k1, k2, k3⟩ := hse n0 _ hl b hb
  cases k3 with
  | cells _ _ ha =>
    obtain ⟨v', rfl, hv⟩ := AR.one_inv ha
    cases hv with
    | map hmm =>
      rename_i m
      obtain ⟨o2, p1, p2, p3⟩ := hse mm _ hm m hmm
      cases p3 with
      | map _ hE =>
        obtain ⟨G', rfl, hl', hsame⟩ := hE.real
        -- the blocks of those that stand as they are
        have hbag : ∀ e ∈ E, K0 ≠ some e.key → (∃ n, memL n N = true ∧ g.ow e.k = some n) ∧ g.ow e.k = some 503 ∧ ∃ te, w.heap[e.k]? = some (.cells ⟨flatR eM (e.L ++ e.jk)⟩ te (0, 0)) := by
          intro e he hk
          have heo := ho e he hk
          rcases hr with ⟨h1, _⟩ | h1
          · rw [h1] at heo; cases heo
          · have h2 := hrest (by rw [h1]; simp)
            rw [h1] at h2
            have h3 : look h 503 = some (.abs (BagR Eo)) := h2
            obtain ⟨b3, F3, _, h5, _, h6⟩ := hse 503 _ h3
            obtain ⟨h7, h8⟩ := h6.2 e heo
            exact ⟨⟨503, hN3, h5 _ h7⟩, h5 _ h7, h8⟩
        -- the real entries
        have hpair : ∀ (i : Nat) (e : NEnt), E[i]? = some e → ∃ r', G'[i]? = some r' ∧ r'.a = e.a ∧ r'.b = e.b ∧ r'.n = e.n ∧ ∃ q, r'.v = .slice (some ⟨q, 0, none⟩) e.L.length e.cap ∧ (∃ n, memL n N = true ∧ g.ow q = some n) ∧
            ((K0 = some e.key ∧ g.ow q = some nm) ∨ (K0 ≠ some e.key ∧ q = e.k ∧ g.ow q = some 503)) ∧ ∃ te, w.heap[q]? = some (.cells ⟨flatR eM (e.L ++ e.jk)⟩ te (0, 0)) := by
          intro i e hi
          have hil : i < G'.length := by rw [hl']; simpa using (List.getElem?_eq_some_iff.1 hi).1
          have he := List.mem_of_getElem? hi
          obtain ⟨e1, e2, e3, e4⟩ := hsame i (gN K0 nm e) G'[i] (by simp [hi]) (List.getElem?_eq_getElem hil)
          refine ⟨G'[i], List.getElem?_eq_getElem hil, e1, e2, e3, ?_⟩
          have e4 : VR g (if K0 = some e.key then .slice (some ⟨nm, 0, none⟩) e.L.length e.cap else lit e.real) G'[i].v := e4
          by_cases hk : K0 = some e.key
          · rw [if_pos hk] at e4
            generalize G'[i].v = v' at e4
            have hne : e.L.length ≠ 0 := fun h0 => hI.ne e he (List.eq_nil_of_length_eq_zero h0)
            generalize hll : e.L.length = ll at e4
            generalize hcc : e.cap = cc at e4
            cases e4 with
            | sliceZ => exact absurd hll hne
            | slice hq =>
              rename_i q
              obtain ⟨te, h5⟩ := hs e he hk
              obtain ⟨o3, s1, s2, s3⟩ := hse nm _ h5 q hq
              refine ⟨q, rfl, ⟨nm, hNn ⟨e, he, hk⟩, s1⟩, Or.inl ⟨hk, s1⟩, te, ?_⟩
              cases s3 with
              | cells _ _ ha2 => rw [s2, cleanL_eq (flatR_clean eM_clean _) ha2]
          · rw [if_neg hk] at e4
            have e5 : G'[i].v = e.real := by
              generalize G'[i].v = v' at e4
              cases e4; rfl
            obtain ⟨h5, h6, h7⟩ := hbag e he hk
            exact ⟨e.k, e5, h5, Or.inr ⟨hk, rfl, h6⟩, h7⟩
        have hex : ∃ E' : List NEnt, encR G' = encR (E'.map fun e => ⟨e.a, e.b, e.real, e.n⟩) ∧ E'.length = E.length ∧ ∀ (i : Nat) (e e' : NEnt), E[i]? = some e → E'[i]? = some e' → e'.a = e.a ∧ e'.b = e.b ∧ e'.L = e.L ∧ e'.jk = e.jk ∧ e'.n = e.n ∧
            (∃ n, memL n N = true ∧ g.ow e'.k = some n) ∧ ((K0 = some e.key ∧ g.ow e'.k = some nm) ∨ (K0 ≠ some e.key ∧ e'.k = e.k ∧ g.ow e'.k = some 503)) ∧ ∃ te, w.heap[e'.k]? = some (.cells ⟨flatR eM (e.L ++ e.jk)⟩ te (0, 0)) := by
          have hl2 : G'.length = E.length := by rw [hl']; simp
          clear hsame hE p2 hm hI hs ho hod hNn hbag hl'
          induction E generalizing G' with
          | nil => have : G' = [] := List.eq_nil_of_length_eq_zero hl2; subst this; exact ⟨[], rfl, rfl, fun i e e' h => by simp at h⟩
          | cons e r ih =>
            cases G' with
            | nil => cases hl2
            | cons r' G2 =>
              obtain ⟨E2, i1, i2, i3⟩ := ih G2 (fun i e hi => hpair (i + 1) e (by simpa using hi)) (by simpa using hl2)
              obtain ⟨r1, j1, j2, j3, j4, q, j5, j6, j7, j8⟩ := hpair 0 e rfl
              simp at j1; subst j1
              refine ⟨⟨e.a, e.b, e.L, e.jk, e.n, q⟩ :: E2, ?_, by simp [i2], fun i x x' h1 h2 => ?_⟩
              · simp only [List.map_cons]
                rw [show List.map RE.e G2 = encR G2 from rfl, i1]
                congr 1
                obtain ⟨ra, rb, rv, rn⟩ := r'
                simp only at j2 j3 j4 j5
                subst j2; subst j3; subst j4; subst j5
                rfl
              · cases i with
                | zero => simp at h1 h2; subst h1; subst h2; exact ⟨rfl, rfl, rfl, rfl, rfl, j6, j7, j8⟩
                | succ i => exact i3 i x x' (by simpa using h1) (by simpa using h2)
        obtain ⟨E', hE1, hE2, hE3⟩ := hex
        have hidx : ∀ e' ∈ E', ∃ (i : Nat) (e : NEnt), E[i]? = some e ∧ E'[i]? = some e' ∧ e ∈ E := by
          intro e' he'
          obtain ⟨i, hi⟩ := List.getElem?_of_mem he'
          have hil : i < E.length := by rw [← hE2]; exact (List.getElem?_eq_some_iff.1 hi).1
          exact ⟨i, E[i], List.getElem?_eq_getElem hil, hi, List.getElem_mem hil⟩
        have hmap : ∀ {β : Type} (p : NEnt → β), (∀ (i : Nat) (e e' : NEnt), E[i]? = some e → E'[i]? = some e' → p e' = p e) → E'.map p = E.map p := by
          intro β p hp
          apply List.ext_getElem?
          intro i
          simp only [List.getElem?_map]
          cases h1 : E[i]? with
          | none =>
            have : E'[i]? = none := by rw [List.getElem?_eq_none_iff] at h1 ⊢; omega
            rw [this]
          | some e =>
            have hil : i < E'.length := by rw [hE2]; exact (List.getElem?_eq_some_iff.1 h1).1
            rw [List.getElem?_eq_getElem hil]
            simp only [Option.map_some]
            rw [hp i e _ h1 (List.getElem?_eq_getElem hil)]
        refine ⟨t, some m, ⟨n0, hN0, k1⟩, k2, ⟨mm, hNm, p1⟩, E', ck, by rw [p2, hE1], ?_, ?_, ?_⟩
        · refine ⟨?_, fun e' he' => ?_, ?_, fun e' he' => ?_, fun e' he' => ?_, fun y hy => ?_⟩
          · rw [hmap NEnt.key fun i e e' h1 h2 => by obtain ⟨a1, a2, _⟩ := hE3 i e e' h1 h2; simp [NEnt.key, a1, a2]]
            exact hI.nd
          · obtain ⟨i, e, h1, h2, h3⟩ := hidx e' he'
            obtain ⟨_, _, _, _, a5, _⟩ := hE3 i e e' h1 h2
            rw [a5]; exact hI.lt e h3
          · rw [hmap (·.n) fun i e e' h1 h2 => (hE3 i e e' h1 h2).2.2.2.2.1]
            exact hI.bn
          · obtain ⟨i, e, h1, h2, h3⟩ := hidx e' he'
            rw [(hE3 i e e' h1 h2).2.2.1]; exact hI.ne e h3
          · obtain ⟨i, e, h1, h2, h3⟩ := hidx e' he'
            obtain ⟨a1, a2, a3, _⟩ := hE3 i e e' h1 h2
            rw [a1, a2, a3]; exact hI.eq e h3
          · obtain ⟨e, h1, h2, h3⟩ := hI.all y hy
            obtain ⟨i, hi⟩ := List.getElem?_of_mem h1
            have hil : i < E'.length := by rw [hE2]; exact (List.getElem?_eq_some_iff.1 hi).1
            obtain ⟨a1, a2, _⟩ := hE3 i e _ hi (List.getElem?_eq_getElem hil)
            exact ⟨E'[i], List.getElem_mem hil, a1.trans h2, a2.trans h3⟩
        · -- the blocks are others
          rw [List.Nodup, List.pairwise_map, List.pairwise_iff_getElem]
          intro i j hi hj hij heq
          have hi2 : i < E.length := by omega
          have hj2 : j < E.length := by omega
          obtain ⟨_, _, _, _, _, _, b1, _⟩ := hE3 i E[i] E'[i] (List.getElem?_eq_getElem hi2) (List.getElem?_eq_getElem hi)
          obtain ⟨_, _, _, _, _, _, b2, _⟩ := hE3 j E[j] E'[j] (List.getElem?_eq_getElem hj2) (List.getElem?_eq_getElem hj)
          have hkne : E[i].key ≠ E[j].key := fun h => by
            have h1 := List.pairwise_iff_getElem.1 (List.pairwise_map.1 hI.nd) i j hi2 hj2 hij
            exact h1 h
          rcases b1 with ⟨c1, c2⟩ | ⟨c1, c2, c3⟩
          · rcases b2 with ⟨d1, d2⟩ | ⟨d1, d2, d3⟩
            · rw [c1] at d1; exact hkne (Option.some.inj d1)
            · rw [heq, d3] at c2; exact hn3 (Option.some.inj c2).symm
          · rcases b2 with ⟨d1, d2⟩ | ⟨d1, d2, d3⟩
            · rw [heq, d2] at c3; exact hn3 (Option.some.inj c3)
            · have hmi : E[i] ∈ offK K0 E := List.mem_filter.2 ⟨List.getElem_mem hi2, by simpa using c1⟩
              have hmj : E[j] ∈ offK K0 E := List.mem_filter.2 ⟨List.getElem_mem hj2, by simpa using d1⟩
              have := k_inj hod hmi hmj (by rw [← c2, ← d2, heq])
              exact hkne (by rw [this])
        · intro e' he'
          obtain ⟨i, e, h1, h2, h3⟩ := hidx e' he'
          obtain ⟨_, _, a3, a4, _, a6, _, a8⟩ := hE3 i e e' h1 h2
          rw [a3, a4]; exact ⟨a6, a8⟩
end Go.Proofs.YtkcmhcgmiflgbaaDoor

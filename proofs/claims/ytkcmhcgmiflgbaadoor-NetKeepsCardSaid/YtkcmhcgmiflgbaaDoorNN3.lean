/- What a net tells: how many are on a link, and which. -/
import Derived.Test.YtkcmhcgmiflgbaaDoorNN2

namespace Go.Proofs.YtkcmhcgmiflgbaaDoor
open Go.RowKit
theorem pl7 : Plain Tryd.prog 7 := Plain.of Tryd.func7 (by kernel_rfl) rfl
theorem pl9 : Plain Tryd.prog 9 := Plain.of Tryd.func9 (by kernel_rfl) rfl
theorem pl11 : Plain Tryd.prog 11 := Plain.of Tryd.func11 (by kernel_rfl) rfl
theorem pl13 : Plain Tryd.prog 13 := Plain.of Tryd.func13 (by kernel_rfl) rfl
theorem pl15 : Plain Tryd.prog 15 := Plain.of Tryd.func15 (by kernel_rfl) rfl
theorem pl17 : Plain Tryd.prog 17 := Plain.of Tryd.func17 (by kernel_rfl) rfl
theorem pl18 : Plain Tryd.prog 18 := Plain.of Tryd.func18 (by kernel_rfl) rfl
theorem pl20 : Plain Tryd.prog 20 := Plain.of Tryd.func20 (by kernel_rfl) rfl
theorem pl22 : Plain Tryd.prog 22 := Plain.of Tryd.func22 (by kernel_rfl) rfl
theorem pl26 : Plain Tryd.prog 26 := Plain.of Tryd.func26 (by kernel_rfl) rfl
theorem pl27 : Plain Tryd.prog 27 := Plain.of Tryd.func27 (by kernel_rfl) rfl
theorem pl42 : Plain Tryd.prog 42 := Plain.of Tryd.func42 (by kernel_rfl) rfl
theorem pl30 : Plain Tryd.prog 30 := Plain.of Tryd.func30 (by kernel_rfl) rfl
theorem pl28 : Plain Tryd.prog 28 := Plain.of Tryd.func28 (by kernel_rfl) rfl
theorem pl29 : Plain Tryd.prog 29 := Plain.of Tryd.func29 (by kernel_rfl) rfl
theorem getG_none {K0 : Option (Int × Int)} {nm : Nat} {a b : Int} {E : List NEnt} (h : ∀ e ∈ E, e.key ≠ (a, b)) : getR a b (E.map (gN K0 nm)) = none := by
  induction E with
  | nil => rfl
  | cons x r ih =>
    simp only [List.map_cons, getR, gN]
    rw [if_neg (fun hk => h x (by simp) (by simp [NEnt.key, hk.1, hk.2]))]
    exact ih fun e he => h e (List.mem_cons_of_mem _ he)
theorem getG_some {K0 : Option (Int × Int)} {nm : Nat} {a b : Int} {E : List NEnt} {e : NEnt} (hn : (E.map NEnt.key).Nodup) (he : e ∈ E) (hk : e.key = (a, b)) : getR a b (E.map (gN K0 nm)) = some ((gN K0 nm e).v, e.n) := by
  induction E with
  | nil => cases he
  | cons x r ih =>
    simp only [List.map_cons, List.nodup_cons] at hn
    simp only [List.map_cons, getR]
    rcases List.mem_cons.1 he with rfl | he
    · have h1 := congrArg Prod.fst hk
      have h2 := congrArg Prod.snd hk
      simp only at h1 h2
      rw [if_pos ⟨by simp only [gN]; exact h1.symm, by simp only [gN]; exact h2.symm⟩]; rfl
    · have hne : x.key ≠ (a, b) := fun h => hn.1 (List.mem_map.2 ⟨e, he, by rw [hk, h]⟩)
      rw [if_neg (fun h => hne (by simp only [gN] at h; simp [NEnt.key, h.1, h.2]))]
      exact ih hn.2 he
theorem gN_on {K : Int × Int} {nm : Nat} {e : NEnt} (h : e.key = K) : (gN (some K) nm e).v = .slice (some ⟨nm, 0, none⟩) e.L.length e.cap := by simp [gN, h]
theorem ofL_none {E : List NEnt} {ck : Nat} {x : List Msg} (hI : NetI E ck x) {a b : Int} (h : ∀ e ∈ E, e.key ≠ (a, b)) : ofL a b x = [] := by
  unfold ofL
  rw [List.filter_eq_nil_iff]
  intro m hm hc
  obtain ⟨e, h1, h2, h3⟩ := hI.all m hm
  simp at hc
  exact h e h1 (by simp [NEnt.key, h2, h3, hc.1, hc.2])
theorem ofL_some {E : List NEnt} {ck : Nat} {x : List Msg} (hI : NetI E ck x) {a b : Int} {e : NEnt} (he : e ∈ E) (hk : e.key = (a, b)) : ofL a b x = e.L := by
  have h1 := congrArg Prod.fst hk
  have h2 := congrArg Prod.snd hk
  simp only at h1 h2
  rw [hI.eq e he, h1, h2]
theorem key_or (E : List NEnt) (a b : Int) : (∀ e ∈ E, e.key ≠ (a, b)) ∨ ∃ e ∈ E, e.key = (a, b) := by
  by_cases h : ∃ e ∈ E, e.key = (a, b)
  · exact Or.inr h
  · left; intro e he hk; exact h ⟨e, he, hk⟩
/-- the three ways in which a link may stand -/
theorem net_ways {R : ARes} {x : List Msg} {w : World} {b : Nat} {F : Nat → Prop} (h : RecvR w (some (NetR x)) b F) (p q : Int) {Go : Prop}
    (k0 : x = [] → ∀ f t, UnpR w (some R) b F f [(500, .rw (.cells ⟨[.map none]⟩ t (0, 0)))] → Go)
    (k1 : ofL p q x = [] → ∀ f t E ck rest, NetI E ck x → (E.map (·.k)).Nodup → (∀ e ∈ E, e.key ≠ (p, q)) → RestOk E rest →
      UnpR w (some R) b F f ((500, .rw (.cells ⟨[.map (some 501)]⟩ t (0, 0))) :: (501, .rw (.map ⟨encR (E.map (gN none 502))⟩ ck)) :: rest) → Go)
    (k2 : ∀ f t te E ck rest e, NetI E ck x → (E.map (·.k)).Nodup → e ∈ E → e.key = (p, q) → ofL p q x = e.L → RestOk (offK (some (p, q)) E) rest →
      UnpR w (some R) b F f ((500, .rw (.cells ⟨[.map (some 501)]⟩ t (0, 0))) :: (501, .rw (.map ⟨encR (E.map (gN (some (p, q)) 502))⟩ ck)) :: (502, .rw (.cells ⟨flatR eM (e.L ++ e.jk)⟩ te (0, 0))) :: rest) → Go) : Go := by
  obtain ⟨⟨t, o, h1, h2, h3⟩, h4, h5⟩ := h
  cases o with
  | none =>
    refine k0 h3 (oneNM b F) t ?_
    refine { at_ := by simp [oneNM], nm := ?_, ow1 := ?_, ow2 := ?_, sees := ?_ }
    · intro n q hn
      simp only [oneNM] at hn
      split at hn
      · rename_i e; subst e; cases hn; exact ⟨by decide, by decide, h4, h1⟩
      · cases hn
    · intro q n hn
      simp only [oneNM] at hn
      split at hn
      · cases hn; rename_i e; exact ⟨by decide, by decide, e⟩
      · cases hn
    · intro q hq; exact ⟨500, by simp [oneNM, hq]⟩
    · intro n g hg
      rw [look_cons] at hg
      split at hg
      · rename_i e; subst e; cases hg
        intro b' hb
        simp [oneNM] at hb; subst hb
        exact ⟨_, by simp [oneNM, h1], h2, .cells _ _ (AR.one .mapN)⟩
      · cases hg
  | some m =>
    obtain ⟨h6, E, ck, h7, hI, hB⟩ := h3
    rcases key_or E p q with hk | ⟨e, he, hk⟩
    · obtain ⟨f, te, rest, hr, hu⟩ := unp_net0 (R := R) h1 h2 h6 h7 hI hB h4 h5 none none (Or.inl ⟨rfl, fun e _ h => by cases h⟩)
      have : offK none E = E := by unfold offK; rw [List.filter_eq_self]; intro e _; simp
      rw [this] at hr
      exact k1 (ofL_none hI hk) f t E ck rest hI hB.1 hk hr hu
    · obtain ⟨f, te, rest, hr, hu⟩ := unp_net0 (R := R) h1 h2 h6 h7 hI hB h4 h5 (some (p, q)) (some e) (Or.inr ⟨e, he, rfl, by rw [hk]⟩)
      exact k2 f t te E ck rest e hI hB.1 he hk (ofL_some hI he hk) hr hu
theorem pack0 {h : List (Nat × GO)} {t : TypeId} (hl : look h 500 = some (.rw (.cells ⟨[.map none]⟩ t (0, 0)))) : Packs h 500 [500] (NetR []) := by
  intro g w b hs hb
  obtain ⟨o', k1, k2, k3⟩ := hs 500 _ hl b hb
  cases k3 with
  | cells _ _ ha =>
    obtain ⟨v', rfl, hv⟩ := AR.one_inv ha
    cases hv
    exact ⟨t, none, ⟨500, rfl, k1⟩, k2, rfl⟩
theorem look_rest {E : List NEnt} {rest : List (Nat × GO)} (_ : RestOk E rest) : True := trivial
/-- as it was -/
theorem pack1 {x : List Msg} {h : List (Nat × GO)} {t : TypeId} {E : List NEnt} {ck : Nat} {rest : List (Nat × GO)} (hl : look h 500 = some (.rw (.cells ⟨[.map (some 501)]⟩ t (0, 0)))) (hm : look h 501 = some (.rw (.map ⟨encR (E.map (gN none 502))⟩ ck)))
    (hI : NetI E ck x) (hb : (E.map (·.k)).Nodup) (hr : RestOk E rest) (h3 : rest ≠ [] → look h 503 = look rest 503) : Packs h 500 [500, 501, 503] (NetR x) :=
  pack_net hl hm hI (fun e _ h => by cases h) hr h3 (fun e he _ => he) (by unfold offK; exact (List.filter_sublist.map _).nodup hb) rfl rfl (fun ⟨e, _, h⟩ => by cases h) rfl (by decide)
theorem pack2 {x : List Msg} {h : List (Nat × GO)} {t te : TypeId} {E : List NEnt} {ck : Nat} {rest : List (Nat × GO)} {p q : Int} {mm nm : Nat} {e : NEnt} (N : List Nat) (hl : look h 500 = some (.rw (.cells ⟨[.map (some mm)]⟩ t (0, 0)))) (hm : look h mm = some (.rw (.map ⟨encR (E.map (gN (some (p, q)) nm))⟩ ck)))
    (hc : look h nm = some (.rw (.cells ⟨flatR eM (e.L ++ e.jk)⟩ te (0, 0)))) (hI : NetI E ck x) (hb : ((offK (some (p, q)) E).map (·.k)).Nodup) (he : e ∈ E) (hk : e.key = (p, q)) (hr : RestOk (offK (some (p, q)) E) rest) (h3 : rest ≠ [] → look h 503 = look rest 503)
    (hN : (memL 500 N && memL mm N && memL nm N && memL 503 N) = true) (hn : nm ≠ 503) : Packs h 500 N (NetR x) := by
  simp only [Bool.and_eq_true] at hN
  refine pack_net hl hm hI (fun e' he' h => ⟨te, ?_⟩) hr h3 (fun e' he' h => List.mem_filter.2 ⟨he', decide_eq_true h⟩) hb hN.1.1.1 hN.1.1.2 (fun _ => hN.1.2) hN.2 hn
  have := key_inj hI.nd he' he (by rw [hk]; exact (Option.some.inj h).symm)
  subst this; exact hc
end Go.Proofs.YtkcmhcgmiflgbaaDoor

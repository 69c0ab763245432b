/- A net in memory: messages that are on their way, link by link. -/
import Derived.Test.YtkcmhcgmiflgbaaDoorNM1

namespace Go.Proofs.YtkcmhcgmiflgbaaDoor
open Go.RowKit
structure NEnt where
  a : Int
  b : Int
  L : List Msg
  jk : List Msg
  n : Nat
  k : Nat
theorem eM_clean (m : Msg) : cleanL (eM m) = true := rfl
theorem eM_one (m : Msg) : oneL (eM m) = true := rfl
def ofL (a b : Int) (x : List Msg) : List Msg := x.filter fun m => decide (m.f = a) && decide (m.t = b)
abbrev NEnt.key (e : NEnt) : Int × Int := (e.a, e.b)
abbrev NEnt.cap (e : NEnt) : Nat := (e.L ++ e.jk).length
abbrev NEnt.real (e : NEnt) : Value := .slice (some ⟨e.k, 0, none⟩) e.L.length e.cap
/-- an entry as it is: as it stands, or by a name -/
def gN (K0 : Option (Int × Int)) (nm : Nat) (e : NEnt) : RE := ⟨e.a, e.b, if K0 = some e.key then .slice (some ⟨nm, 0, none⟩) e.L.length e.cap else lit e.real, e.n⟩
structure NetI (E : List NEnt) (ck : Nat) (x : List Msg) : Prop where
  nd : (E.map NEnt.key).Nodup
  lt : ∀ e ∈ E, e.n < ck
  bn : (E.map (·.n)).Nodup
  ne : ∀ e ∈ E, e.L ≠ []
  eq : ∀ e ∈ E, e.L = ofL e.a e.b x
  all : ∀ m ∈ x, ∃ e ∈ E, e.a = m.f ∧ e.b = m.t
def BagOk (E : List NEnt) (w : World) (F : Nat → Prop) : Prop := (E.map (·.k)).Nodup ∧ ∀ e ∈ E, F e.k ∧ ∃ t, w.heap[e.k]? = some (.cells ⟨flatR eM (e.L ++ e.jk)⟩ t (0, 0))
theorem BagOk.keep {E : List NEnt} {w w' : World} {F F' : Nat → Prop} (h : BagOk E w F) (hk : ∀ k, F k → w'.heap[k]? = w.heap[k]?) (hF : ∀ k, F k → F' k) : BagOk E w' F' :=
  ⟨h.1, fun e he => by
    obtain ⟨h1, t, h2⟩ := h.2 e he
    exact ⟨hF _ h1, t, (hk _ h1).trans h2⟩⟩
def BagR (E : List NEnt) : ARes where
  P := fun w b F => F b ∧ BagOk E w F
  keeps := fun _ _ _ _ ⟨h1, h2⟩ hk _ => ⟨h1, h2.keep hk fun _ h => h⟩
  up := fun _ _ _ _ ⟨h1, h2⟩ hs => ⟨hs _ h1, h2.keep (fun _ _ => rfl) hs⟩
  own := fun _ _ _ ⟨h1, _⟩ => h1
def MapP (x : List Msg) (w : World) (F : Nat → Prop) : Option Nat → Prop
  | none => x = []
  | some m => F m ∧ ∃ E ck, w.heap[m]? = some (.map ⟨encR (E.map fun e => ⟨e.a, e.b, e.real, e.n⟩)⟩ ck) ∧ NetI E ck x ∧ BagOk E w F
def NetP (x : List Msg) (w : World) (b : Nat) (F : Nat → Prop) : Prop := ∃ t o, F b ∧ w.heap[b]? = some (.cells ⟨[.map o]⟩ t (0, 0)) ∧ MapP x w F o
theorem MapP.keep {x : List Msg} {w w' : World} {F F' : Nat → Prop} {o : Option Nat} (h : MapP x w F o) (hk : ∀ k, F k → w'.heap[k]? = w.heap[k]?) (hF : ∀ k, F k → F' k) : MapP x w' F' o := by
  cases o with
  | none => exact h
  | some m =>
    obtain ⟨h1, E, ck, h2, h3, h4⟩ := h
    exact ⟨hF _ h1, E, ck, (hk _ h1).trans h2, h3, h4.keep hk hF⟩
def NetR (x : List Msg) : ARes where
  P := NetP x
  keeps := fun _ _ b _ ⟨t, o, h1, h2, h3⟩ hk _ => ⟨t, o, h1, (hk b h1).trans h2, h3.keep hk fun _ h => h⟩
  up := fun _ _ _ _ ⟨t, o, h1, h2, h3⟩ hs => ⟨t, o, hs _ h1, h2, h3.keep (fun _ _ => rfl) hs⟩
  own := fun _ _ _ ⟨_, _, h1, _⟩ => h1
def RestOk (Eo : List NEnt) (rest : List (Nat × GO)) : Prop := (Eo = [] ∧ rest = []) ∨ rest = [(503, .abs (BagR Eo))]
def selH : Option NEnt → TypeId → List (Nat × GO)
  | none, _ => []
  | some e, t => [(502, .rw (.cells ⟨flatR eM (e.L ++ e.jk)⟩ t (0, 0)))]
def offK (K0 : Option (Int × Int)) (E : List NEnt) : List NEnt := E.filter fun e => decide (K0 ≠ some e.key)
open Classical in
noncomputable def netNM (b m : Nat) (s : Option NEnt) (Eo : List NEnt) (F : Nat → Prop) : NM :=
  ⟨fun n => if n = 500 ∨ n = 599 then some b else if n = 501 then some m else if n = 502 then s.map (·.k) else if n = 503 then Eo.head?.map (·.k) else none,
   fun q => if q = m then some 501 else if s.map (·.k) = some q then some 502 else if q ∈ Eo.map (·.k) then some 503 else if F q then some 500 else none⟩
theorem eM_ne (m : Msg) (L : List Msg) (o : Option Nat) (r : List Value) : flatR eM (m :: L) ≠ .map o :: r := by
  intro h
  have := congrArg List.head? h
  simp [flatR, eM] at this
theorem key_inj {E : List NEnt} (h : (E.map NEnt.key).Nodup) {e e' : NEnt} (h1 : e ∈ E) (h2 : e' ∈ E) (hk : e.key = e'.key) : e = e' := by
  induction E with
  | nil => cases h1
  | cons x r ih =>
    simp only [List.map_cons, List.nodup_cons] at h
    rcases List.mem_cons.1 h1 with rfl | h3
    · rcases List.mem_cons.1 h2 with rfl | h4
      · rfl
      · exact absurd (List.mem_map.2 ⟨e', h4, hk.symm⟩) h.1
    · rcases List.mem_cons.1 h2 with rfl | h4
      · exact absurd (List.mem_map.2 ⟨e, h3, hk⟩) h.1
      · exact ih h.2 h3 h4
theorem k_inj {E : List NEnt} (h : (E.map (·.k)).Nodup) {e e' : NEnt} (h1 : e ∈ E) (h2 : e' ∈ E) (hk : e.k = e'.k) : e = e' := by
  induction E with
  | nil => cases h1
  | cons x r ih =>
    simp only [List.map_cons, List.nodup_cons] at h
    rcases List.mem_cons.1 h1 with rfl | h3
    · rcases List.mem_cons.1 h2 with rfl | h4
      · rfl
      · exact absurd (List.mem_map.2 ⟨e', h4, hk.symm⟩) h.1
    · rcases List.mem_cons.1 h2 with rfl | h4
      · exact absurd (List.mem_map.2 ⟨e, h3, hk⟩) h.1
      · exact ih h.2 h3 h4
theorem look_app2 {α : Type} {x y : List (Nat × α)} {n : Nat} {g : α} (e : look (x ++ y) n = some g) : look x n = some g ∨ look y n = some g := by
  induction x with
  | nil => exact Or.inr e
  | cons z r ih =>
    obtain ⟨m, p⟩ := z
    rw [List.cons_append, look_cons] at e
    rw [look_cons]
    split at e
    · rename_i e2; rw [if_pos e2]; exact Or.inl e
    · rename_i e2; rw [if_neg e2]; exact ih e
/-- a net, taken apart: the entry of one link by a name, or none -/
theorem unp_net0 {R : ARes} {x : List Msg} {w : World} {b m : Nat} {F : Nat → Prop} {t : TypeId} {E : List NEnt} {ck : Nat} (f1 : F b) (q1 : w.heap[b]? = some (.cells ⟨[.map (some m)]⟩ t (0, 0))) (f2 : F m)
    (q2 : w.heap[m]? = some (.map ⟨encR (E.map fun e => ⟨e.a, e.b, e.real, e.n⟩)⟩ ck)) (hI : NetI E ck x) (hB : BagOk E w F) (h3 : b < w.heap.size) (h4 : ∀ k, F k → k < w.heap.size)
    (K0 : Option (Int × Int)) (s : Option NEnt) (hs : (s = none ∧ ∀ e ∈ E, K0 ≠ some e.key) ∨ ∃ e0 ∈ E, s = some e0 ∧ K0 = some e0.key) :
    ∃ f te rest, RestOk (offK K0 E) rest ∧ UnpR w (some R) b F f ((500, .rw (.cells ⟨[.map (some 501)]⟩ t (0, 0))) :: (501, .rw (.map ⟨encR (E.map (gN K0 502))⟩ ck)) :: (selH s te ++ rest)) := by
  classical
  obtain ⟨Eo, hEo⟩ : ∃ Eo, offK K0 E = Eo := ⟨_, rfl⟩
  have hmemO : ∀ e, e ∈ Eo ↔ e ∈ E ∧ K0 ≠ some e.key := by
    intro e; rw [← hEo]; unfold offK; rw [List.mem_filter]; simp
  have hbm : b ≠ m := fun e => by subst e; rw [q1] at q2; cases q2
  have hkm : ∀ e ∈ E, e.k ≠ m := fun e he h => by
    obtain ⟨_, te, h5⟩ := hB.2 e he
    rw [h, q2] at h5; cases h5
  have hkb : ∀ e ∈ E, e.k ≠ b := fun e he h => by
    obtain ⟨_, te, h5⟩ := hB.2 e he
    rw [h, q1] at h5
    have hne := hI.ne e he
    cases hL : e.L with
    | nil => exact hne hL
    | cons y r =>
      rw [hL] at h5
      have h6 : [Value.map (some m)] = flatR eM (y :: (r ++ e.jk)) := by
        have := Option.some.inj h5
        injection this with h7 _ _
        injection h7
      exact eM_ne _ _ _ _ h6.symm
  have hsE : ∀ e0, s = some e0 → e0 ∈ E ∧ K0 = some e0.key := by
    intro e0 h
    rcases hs with ⟨h5, _⟩ | ⟨e1, h5, h6, h7⟩
    · rw [h5] at h; cases h
    · rw [h6] at h; cases h; exact ⟨h5, h7⟩
  have hsO : ∀ e0 e, s = some e0 → e ∈ Eo → e.k ≠ e0.k := by
    intro e0 e h he h5
    obtain ⟨h6, h7⟩ := hsE e0 h
    obtain ⟨h8, h9⟩ := (hmemO e).1 he
    have := k_inj hB.1 h8 h6 h5
    subst this; exact h9 h7
  obtain ⟨te, hte⟩ : ∃ te, ∀ e0, s = some e0 → w.heap[e0.k]? = some (.cells ⟨flatR eM (e0.L ++ e0.jk)⟩ te (0, 0)) := by
    cases s with
    | none => exact ⟨0, fun e0 h => by cases h⟩
    | some e0 =>
      obtain ⟨_, te, h5⟩ := hB.2 e0 (hsE e0 rfl).1
      exact ⟨te, fun e h => by cases h; exact h5⟩
  obtain ⟨f, hf⟩ : ∃ f, netNM b m s Eo F = f := ⟨_, rfl⟩
  have g500 : f 500 = some b := by rw [← hf]; simp [netNM]
  have g599 : f 599 = some b := by rw [← hf]; simp [netNM]
  have g501 : f 501 = some m := by rw [← hf]; simp [netNM]
  have g502 : f 502 = s.map (·.k) := by rw [← hf]; simp [netNM]
  have g503 : f 503 = Eo.head?.map (·.k) := by rw [← hf]; simp [netNM]
  have gx : ∀ n q, f n = some q → (n = 500 ∧ q = b) ∨ (n = 599 ∧ q = b) ∨ (n = 501 ∧ q = m) ∨ (n = 502 ∧ ∃ e0, s = some e0 ∧ q = e0.k) ∨ (n = 503 ∧ ∃ e ∈ Eo, q = e.k) := by
    intro n q h
    rw [← hf] at h
    have h : (if n = 500 ∨ n = 599 then some b else if n = 501 then some m else if n = 502 then s.map (·.k) else if n = 503 then Eo.head?.map (·.k) else none) = some q := h
    split at h
    · rename_i e; cases h; rcases e with e | e
      · exact Or.inl ⟨e, rfl⟩
      · exact Or.inr (Or.inl ⟨e, rfl⟩)
    · split at h
      · rename_i e; cases h; exact Or.inr (Or.inr (Or.inl ⟨e, rfl⟩))
      · split at h
        · rename_i e
          obtain ⟨e0, h5, h6⟩ := Option.map_eq_some_iff.1 h
          exact Or.inr (Or.inr (Or.inr (Or.inl ⟨e, e0, h5, h6.symm⟩)))
        · split at h
          · rename_i e
            obtain ⟨e0, h5, h6⟩ := Option.map_eq_some_iff.1 h
            exact Or.inr (Or.inr (Or.inr (Or.inr ⟨e, e0, List.mem_of_head? h5, h6.symm⟩)))
          · cases h
  have ox : ∀ q, f.ow q = if q = m then some 501 else if s.map (·.k) = some q then some 502 else if q ∈ Eo.map (·.k) then some 503 else if F q then some 500 else none := fun q => by rw [← hf]; rfl
  have o501 : f.ow m = some 501 := by rw [ox, if_pos rfl]
  have o502 : ∀ e0, s = some e0 → f.ow e0.k = some 502 := fun e0 h => by
    rw [ox, if_neg (hkm e0 (hsE e0 h).1), if_pos (by rw [h]; rfl)]
  have o503 : ∀ e ∈ Eo, f.ow e.k = some 503 := fun e he => by
    rw [ox, if_neg (hkm e ((hmemO e).1 he).1), if_neg, if_pos (List.mem_map.2 ⟨e, he, rfl⟩)]
    intro h
    obtain ⟨e0, h5, h6⟩ := Option.map_eq_some_iff.1 h
    exact hsO e0 e h5 he h6.symm
  have o500 : f.ow b = some 500 := by
    rw [ox, if_neg hbm, if_neg, if_neg, if_pos f1]
    · intro h
      obtain ⟨e, h5, h6⟩ := List.mem_map.1 h
      exact hkb e ((hmemO e).1 h5).1 h6
    · intro h
      obtain ⟨e0, h5, h6⟩ := Option.map_eq_some_iff.1 h
      exact hkb e0 (hsE e0 h5).1 h6
  have hFk : ∀ e ∈ E, F e.k := fun e he => (hB.2 e he).1
  refine ⟨f, te, if Eo = [] then [] else [(503, .abs (BagR Eo))], ?_, { at_ := g500, nm := ?_, ow1 := ?_, ow2 := ?_, sees := ?_ }⟩
  · rw [hEo]
    by_cases e : Eo = []
    · rw [if_pos e]; exact Or.inl ⟨e, rfl⟩
    · rw [if_neg e]; exact Or.inr rfl
  · intro n q h
    rcases gx n q h with ⟨rfl, rfl⟩ | ⟨rfl, rfl⟩ | ⟨rfl, rfl⟩ | ⟨rfl, e0, h5, rfl⟩ | ⟨rfl, e, h5, rfl⟩
    · exact ⟨by decide, by decide, h3, f1⟩
    · exact ⟨by decide, by decide, h3, f1⟩
    · exact ⟨by decide, by decide, h4 _ f2, f2⟩
    · have := hFk e0 (hsE e0 h5).1; exact ⟨by decide, by decide, h4 _ this, this⟩
    · have := hFk e ((hmemO e).1 h5).1; exact ⟨by decide, by decide, h4 _ this, this⟩
  · intro q n h
    rw [ox] at h
    split at h
    · rename_i e; cases h; subst e; exact ⟨by decide, by decide, f2⟩
    · split at h
      · rename_i e; cases h
        obtain ⟨e0, h5, h6⟩ := Option.map_eq_some_iff.1 e
        subst h6
        exact ⟨by decide, by decide, hFk e0 (hsE e0 h5).1⟩
      · split at h
        · rename_i e; cases h
          obtain ⟨e0, h5, h6⟩ := List.mem_map.1 e
          subst h6
          exact ⟨by decide, by decide, hFk e0 ((hmemO e0).1 h5).1⟩
        · split at h
          · rename_i e; cases h; exact ⟨by decide, by decide, e⟩
          · cases h
  · intro q hq
    rw [ox]
    by_cases e1 : q = m
    · exact ⟨501, by rw [if_pos e1]⟩
    · rw [if_neg e1]
      by_cases e2 : s.map (·.k) = some q
      · exact ⟨502, by rw [if_pos e2]⟩
      · rw [if_neg e2]
        by_cases e3 : q ∈ Eo.map (·.k)
        · exact ⟨503, by rw [if_pos e3]⟩
        · exact ⟨500, by rw [if_neg e3, if_pos hq]⟩
  · intro n g hg
    rw [look_cons] at hg
    split at hg
    · rename_i e; subst e; cases hg
      intro b' hb
      rw [g500] at hb; cases hb
      exact ⟨_, o500, q1, .cells _ _ (AR.one (.map g501))⟩
    · rw [look_cons] at hg
      split at hg
      · rename_i e; subst e; cases hg
        intro b' hb
        rw [g501] at hb; cases hb
        refine ⟨_, o501, q2, .map _ (SameE.es ⟨by simp, fun i y y' h5 h6 => ?_⟩)⟩
        simp only [List.getElem?_map, Option.map_eq_some_iff] at h5 h6
        obtain ⟨e, h7, rfl⟩ := h5
        obtain ⟨e', h8, rfl⟩ := h6
        rw [h7] at h8; cases h8
        refine ⟨rfl, rfl, rfl, ?_⟩
        show VR f (if K0 = some e.key then _ else _) _
        by_cases hk : K0 = some e.key
        · rw [if_pos hk]
          have he := List.mem_of_getElem? h7
          rcases hs with ⟨_, h9⟩ | ⟨e0, h9, h10, h11⟩
          · exact absurd hk (h9 e he)
          · rw [h11] at hk
            have := key_inj hI.nd h9 he (Option.some.inj hk)
            subst this
            exact .slice (by rw [g502, h10]; rfl)
        · rw [if_neg hk]
          exact .lit _ g500 g599
      · rcases look_app2 hg with hg2 | hg2
        · cases hs1 : s with
          | none => rw [hs1] at hg2; cases hg2
          | some e0 =>
            rw [hs1] at hg2
            simp only [selH, look_cons] at hg2
            split at hg2
            · rename_i e; subst e; cases hg2
              intro b' hb
              rw [g502, hs1] at hb
              cases hb
              exact ⟨_, o502 e0 hs1, hte e0 hs1, .cells _ _ (cleanA f (flatR_clean eM_clean _))⟩
            · cases hg2
        · by_cases e : Eo = []
          · rw [if_pos e] at hg2; cases hg2
          · rw [if_neg e, look_cons] at hg2
            split at hg2
            · rename_i e2; subst e2; cases hg2
              obtain ⟨e0, r, hc⟩ := List.exists_cons_of_ne_nil e
              refine ⟨e0.k, fun q => q ∈ Eo.map (·.k), by rw [g503, hc]; rfl, fun q hq => ?_, ?_, ?_, ?_⟩
              · obtain ⟨e1, h5, rfl⟩ := List.mem_map.1 hq
                exact o503 e1 h5
              · rw [hc]; simp
              · rw [← hEo]; exact (List.filter_sublist.map _).nodup hB.1
              · intro e1 he1
                exact ⟨List.mem_map.2 ⟨e1, he1, rfl⟩, (hB.2 e1 ((hmemO e1).1 he1).1).2⟩
            · cases hg2
end Go.Proofs.YtkcmhcgmiflgbaaDoor

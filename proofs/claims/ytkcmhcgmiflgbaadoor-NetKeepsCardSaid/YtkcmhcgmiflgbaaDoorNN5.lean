/- A message put on a net, plainly. -/
import Derived.Test.YtkcmhcgmiflgbaaDoorNN4
import Derived.Test.YtkcmhcgmiflgbaaDoorNM7
import Derived.Test.YtkcmhcgmiflgbaaDoorGi

namespace Go.Proofs.YtkcmhcgmiflgbaaDoor
open Go.RowKit
abbrev kM (m : Msg) : Int × Int := (m.f, m.t)
theorem ofL_put (a b : Int) (x : List Msg) (m : Msg) : ofL a b (x ++ [m]) = ofL a b x ++ (if kM m = (a, b) then [m] else []) := by
  unfold ofL
  rw [List.filter_append]
  congr 1
  by_cases h : m.f = a ∧ m.t = b
  · rw [List.filter_cons_of_pos (by simp [h]), if_pos (by simp [h])]; rfl
  · rw [List.filter_cons_of_neg (by simpa using h), if_neg (by simpa [kM] using h)]; rfl
def putE (K : Int × Int) (L jk : List Msg) (e : NEnt) : NEnt := if e.key = K then { e with L := L, jk := jk } else e
theorem putE_key (K : Int × Int) (L jk : List Msg) (e : NEnt) : (putE K L jk e).key = e.key := by unfold putE; split <;> rfl
theorem putE_n (K : Int × Int) (L jk : List Msg) (e : NEnt) : (putE K L jk e).n = e.n := by unfold putE; split <;> rfl
theorem putE_k (K : Int × Int) (L jk : List Msg) (e : NEnt) : (putE K L jk e).k = e.k := by unfold putE; split <;> rfl
theorem putE_on {K : Int × Int} {L jk : List Msg} {e : NEnt} (h : e.key = K) : putE K L jk e = { e with L := L, jk := jk } := by unfold putE; rw [if_pos h]
theorem putE_off {K : Int × Int} {L jk : List Msg} {e : NEnt} (h : e.key ≠ K) : putE K L jk e = e := by unfold putE; rw [if_neg h]
/-- the messages of one link are others -/
theorem NetI.change {E : List NEnt} {ck : Nat} {x y : List Msg} (hI : NetI E ck x) {K : Int × Int} {L jk : List Msg} (hL : L ≠ []) (hK : ofL K.1 K.2 y = L) (ho : ∀ a b, (a, b) ≠ K → ofL a b y = ofL a b x) (hm : ∃ e ∈ E, e.key = K) : NetI (E.map (putE K L jk)) ck y where
  nd := by
    rw [List.map_map, show NEnt.key ∘ putE K L jk = NEnt.key from funext (putE_key K L jk)]; exact hI.nd
  lt := fun e he => by
    obtain ⟨e0, h1, rfl⟩ := List.mem_map.1 he
    rw [putE_n]; exact hI.lt e0 h1
  bn := by
    rw [List.map_map, show (fun e : NEnt => e.n) ∘ putE K L jk = (fun e => e.n) from funext (putE_n K L jk)]; exact hI.bn
  ne := fun e he => by
    obtain ⟨e0, h1, rfl⟩ := List.mem_map.1 he
    by_cases h : e0.key = K
    · rw [putE_on h]; exact hL
    · rw [putE_off h]; exact hI.ne e0 h1
  eq := fun e he => by
    obtain ⟨e0, h1, rfl⟩ := List.mem_map.1 he
    by_cases h : e0.key = K
    · rw [putE_on h]
      show L = ofL e0.a e0.b y
      rw [← hK, ← h]
    · rw [putE_off h, ho _ _ h]; exact hI.eq e0 h1
  all := fun m hmy => by
    by_cases h : kM m = K
    · obtain ⟨e, h1, h2⟩ := hm
      refine ⟨putE K L jk e, List.mem_map.2 ⟨e, h1, rfl⟩, ?_⟩
      have := putE_key K L jk e
      rw [h2] at this
      subst h
      exact ⟨congrArg Prod.fst this, congrArg Prod.snd this⟩
    · have h2 : m ∈ ofL m.f m.t y := List.mem_filter.2 ⟨hmy, by simp⟩
      rw [ho _ _ h] at h2
      obtain ⟨e, h3, h4, h5⟩ := hI.all m (List.mem_filter.1 h2).1
      refine ⟨putE K L jk e, List.mem_map.2 ⟨e, h3, rfl⟩, ?_⟩
      have := putE_key K L jk e
      exact ⟨(congrArg Prod.fst this).trans h4, (congrArg Prod.snd this).trans h5⟩
theorem NetI.putOld {E : List NEnt} {ck : Nat} {x : List Msg} (hI : NetI E ck x) {m : Msg} {e : NEnt} (he : e ∈ E) (hk : e.key = kM m) (jk : List Msg) : NetI (E.map (putE (kM m) (e.L ++ [m]) jk)) ck (x ++ [m]) := by
  refine hI.change (by simp) ?_ (fun a b h => ?_) ⟨e, he, hk⟩
  · rw [ofL_put, if_pos rfl, ofL_some hI he hk]
  · rw [ofL_put, if_neg (fun h2 => h h2.symm), List.append_nil]
theorem NetI.putNew {E : List NEnt} {ck : Nat} {x : List Msg} (hI : NetI E ck x) {m : Msg} (hk : ∀ e ∈ E, e.key ≠ kM m) (jk : List Msg) : NetI (E ++ [⟨m.f, m.t, [m], jk, ck, 0⟩]) (ck + 1) (x ++ [m]) where
  nd := by
    rw [List.map_append, List.nodup_append]
    refine ⟨hI.nd, by simp, fun a ha b hb => ?_⟩
    obtain ⟨e, h1, rfl⟩ := List.mem_map.1 ha
    simp at hb; subst hb
    exact hk e h1
  lt := fun e he => by
    rcases List.mem_append.1 he with he | he
    · have := hI.lt e he; omega
    · simp at he; subst he; show ck < ck + 1; omega
  bn := by
    rw [List.map_append, List.nodup_append]
    refine ⟨hI.bn, by simp, fun a ha b hb => ?_⟩
    obtain ⟨e, h1, rfl⟩ := List.mem_map.1 ha
    simp at hb; subst hb
    have := hI.lt e h1
    omega
  ne := fun e he => by
    rcases List.mem_append.1 he with he | he
    · exact hI.ne e he
    · simp at he; subst he; simp
  eq := fun e he => by
    rcases List.mem_append.1 he with he | he
    · rw [ofL_put, if_neg (fun h => hk e he h.symm), List.append_nil]; exact hI.eq e he
    · simp at he; subst he
      show [m] = ofL m.f m.t (x ++ [m])
      rw [ofL_put, if_pos rfl, ofL_none hI hk]; rfl
  all := fun y hy => by
    rcases List.mem_append.1 hy with hy | hy
    · obtain ⟨e, h1, h2⟩ := hI.all y hy
      exact ⟨e, List.mem_append_left _ h1, h2⟩
    · simp at hy; subst hy
      exact ⟨_, List.mem_append_right _ (List.mem_singleton.2 rfl), rfl, rfl⟩
theorem NetI.nil : NetI [] 0 [] := ⟨by simp, by simp, by simp, by simp, by simp, by simp⟩
/-! what stands in the map behind it -/
theorem setN_put {E : List NEnt} {e : NEnt} {K : Int × Int} {nm nm' : Nat} {L jk : List Msg} (hn : (E.map (·.n)).Nodup) (hd : (E.map NEnt.key).Nodup) (he : e ∈ E) (hk : e.key = K) :
    setN e.n (.slice (some ⟨nm', 0, none⟩) L.length (L ++ jk).length) (E.map (gN (some K) nm)) = (E.map (putE K L jk)).map (gN (some K) nm') := by
  have off : ∀ y : NEnt, y.key ≠ K → gN (some K) nm' (putE K L jk y) = gN (some K) nm y := fun y hy => by
    rw [putE_off hy]; simp only [gN]; rw [if_neg (fun h => hy (Option.some.inj h).symm), if_neg (fun h => hy (Option.some.inj h).symm)]
  have on : gN (some K) nm' (putE K L jk e) = { gN (some K) nm e with v := .slice (some ⟨nm', 0, none⟩) L.length (L ++ jk).length } := by
    rw [putE_on hk]; simp only [gN]; rw [if_pos (by rw [← hk])]
  induction E with
  | nil => cases he
  | cons y r ih =>
    simp only [List.map_cons, List.nodup_cons] at hn hd
    simp only [List.map_cons, setN]
    rcases List.mem_cons.1 he with rfl | he2
    · rw [if_pos (show (gN (some K) nm e).n = e.n from rfl), on]
      congr 1
      rw [List.map_map]
      refine List.map_congr_left fun z hz => ?_
      exact (off z fun h => hd.1 (List.mem_map.2 ⟨z, hz, by rw [h, hk]⟩)).symm
    · have hne : y.key ≠ K := fun h => hd.1 (List.mem_map.2 ⟨e, he2, by rw [h, hk]⟩)
      have hnn : (gN (some K) nm y).n ≠ e.n := fun h => hn.1 (List.mem_map.2 ⟨e, he2, h.symm⟩)
      rw [if_neg hnn, ih hn.2 hd.2 he2, off y hne]
theorem setN_newU {E : List NEnt} {ck : Nat} {m : Msg} {nm' : Nat} {z u : Value} (hlt : ∀ e ∈ E, e.n < ck) (hk : ∀ e ∈ E, e.key ≠ kM m) :
    setN ck u (E.map (gN none 502) ++ [⟨m.f, m.t, z, ck⟩]) = E.map (gN (some (kM m)) nm') ++ [⟨m.f, m.t, u, ck⟩] := by
  induction E with
  | nil => simp [setN]
  | cons y r ih =>
    have hnn : (gN none 502 y).n ≠ ck := fun h => by have := hlt y (by simp); have h : y.n = ck := h; omega
    simp only [List.map_cons, List.cons_append, setN]
    rw [if_neg hnn, ih (fun e he => hlt e (List.mem_cons_of_mem _ he)) (fun e he => hk e (List.mem_cons_of_mem _ he))]
    congr 1
    simp only [gN]
    rw [if_neg (by simp), if_neg (fun h => hk y (by simp) (Option.some.inj h).symm)]
theorem setN_new {E : List NEnt} {ck : Nat} {m : Msg} {nm' : Nat} {jk : List Msg} {z : Value} (hlt : ∀ e ∈ E, e.n < ck) (hk : ∀ e ∈ E, e.key ≠ kM m) :
    setN ck (.slice (some ⟨nm', 0, none⟩) [m].length ([m] ++ jk).length) (E.map (gN none 502) ++ [⟨m.f, m.t, z, ck⟩]) = (E ++ [(⟨m.f, m.t, [m], jk, ck, 0⟩ : NEnt)]).map (gN (some (kM m)) nm') := by
  rw [setN_newU (nm' := nm') hlt hk, List.map_append]
  congr 1
  simp [gN, NEnt.key, kM]
  omega
theorem gE_n {K0 : Option (Int × Int)} {nm : Nat} {E : List NEnt} : (E.map (gN K0 nm)).map (·.n) = E.map (·.n) := by
  rw [List.map_map]; rfl
theorem offK_put {E : List NEnt} {K : Int × Int} {L jk : List Msg} : offK (some K) (E.map (putE K L jk)) = offK (some K) E := by
  unfold offK
  induction E with
  | nil => rfl
  | cons y r ih =>
    simp only [List.map_cons]
    by_cases h : y.key = K
    · rw [List.filter_cons_of_neg (by simp [putE_key, h]), List.filter_cons_of_neg (by simp [h]), ih]
    · have h1 : decide (some K ≠ some y.key) = true := decide_eq_true fun h2 => h (Option.some.inj h2).symm
      have h3 : decide (some K ≠ some (putE K L jk y).key) = true := by rw [putE_key]; exact h1
      rw [List.filter_cons_of_pos (p := fun e : NEnt => decide (some K ≠ some e.key)) h3, List.filter_cons_of_pos (p := fun e : NEnt => decide (some K ≠ some e.key)) h1, ih, putE_off h]
theorem offK_new {E : List NEnt} {m : Msg} {jk : List Msg} {ck : Nat} (hk : ∀ e ∈ E, e.key ≠ kM m) : offK (some (kM m)) (E ++ [⟨m.f, m.t, [m], jk, ck, 0⟩]) = E := by
  unfold offK
  rw [List.filter_append, List.filter_cons_of_neg (by simp [NEnt.key, kM]), List.filter_nil, List.append_nil, List.filter_eq_self]
  intro e he
  exact decide_eq_true fun h => hk e he (Option.some.inj h).symm
end Go.Proofs.YtkcmhcgmiflgbaaDoor

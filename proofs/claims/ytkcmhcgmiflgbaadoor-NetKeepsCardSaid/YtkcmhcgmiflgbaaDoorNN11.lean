/- A message taken off a link, plainly. -/
import Derived.Test.YtkcmhcgmiflgbaaDoorNN10
import Derived.Test.YtkcmhcgmiflgbaaDoorNR1

namespace Go.Proofs.YtkcmhcgmiflgbaaDoor
open Go.RowKit
theorem ofN_rank {a b : Int} {x : List Msg} {n k : Nat} (hk : k < (ofN a b x n).length) : (ofN a b x (nth (ofN a b x n) k)).length = k ∧ kM (nth x (nth (ofN a b x n) k)) = (a, b) ∧ nth (ofN a b x n) k < n := by
  induction n with
  | zero => cases hk
  | succ n ih =>
    by_cases h : k < (ofN a b x n).length
    · have e : nth (ofN a b x (n + 1)) k = nth (ofN a b x n) k := by
        simp only [ofN]; exact Go.Proofs.YtkcmhcgmiflgbaaDoor.nth_app h
      rw [e]
      obtain ⟨h1, h2, h3⟩ := ih h
      exact ⟨h1, h2, by omega⟩
    · simp only [ofN, List.length_append] at hk
      by_cases hc : kM (nth x n) = (a, b)
      · rw [if_pos hc] at hk
        have hkk : k = (ofN a b x n).length := by simp at hk; omega
        have e : nth (ofN a b x (n + 1)) k = n := by
          simp only [ofN, if_pos hc]
          subst hkk
          simp [nth]
        rw [e]
        exact ⟨hkk.symm, hc, by omega⟩
      · rw [if_neg hc] at hk; simp at hk; omega
def takeX (a b : Int) (k : Nat) (x : List Msg) : List Msg := x.eraseIdx (nth (ofA a b x) k)
theorem ofL_app (a b : Int) (x y : List Msg) : ofL a b (x ++ y) = ofL a b x ++ ofL a b y := by unfold ofL; rw [List.filter_append]
theorem ofL_one (a b : Int) (m : Msg) : ofL a b [m] = if kM m = (a, b) then [m] else [] := by
  have := ofL_put a b [] m
  simpa [ofL] using this
theorem erase_split {α : Type} {x : List α} {i : Nat} (_ : i < x.length) : x.eraseIdx i = x.take i ++ x.drop (i + 1) := List.eraseIdx_eq_take_drop_succ x i
theorem take_split {x : List Msg} {i : Nat} (h : i < x.length) : x = x.take i ++ ([nth x i] ++ x.drop (i + 1)) := by
  have e : nth x i = x[i] := by simp [nth, h]
  rw [e]
  simp
theorem take_on {a b : Int} {x : List Msg} {k : Nat} (hk : k < (ofL a b x).length) : ofL a b (takeX a b k x) = (ofL a b x).eraseIdx k := by
  have hk2 : k < (ofA a b x).length := by rw [ofA_len]; exact hk
  obtain ⟨h1, h2, h3⟩ := ofN_rank (n := x.length) hk2
  obtain ⟨i, hi⟩ : ∃ i, nth (ofA a b x) k = i := ⟨_, rfl⟩
  unfold takeX
  rw [hi] at h1 h2 h3 ⊢
  have hl : (ofL a b (x.take i)).length = k := by
    rw [← ofN_map (a := a) (b := b) (Nat.le_of_lt h3)]; simpa using h1
  rw [erase_split h3, ofL_app]
  conv => rhs; rw [take_split h3]
  rw [ofL_app, ofL_app, ofL_one, if_pos h2, List.eraseIdx_append_of_length_le (by omega), hl, Nat.sub_self]
  rfl
theorem take_off {a b c d : Int} {x : List Msg} {k : Nat} (hk : k < (ofL a b x).length) (h : (c, d) ≠ (a, b)) : ofL c d (takeX a b k x) = ofL c d x := by
  have hk2 : k < (ofA a b x).length := by rw [ofA_len]; exact hk
  obtain ⟨h1, h2, h3⟩ := ofN_rank (n := x.length) hk2
  obtain ⟨i, hi⟩ : ∃ i, nth (ofA a b x) k = i := ⟨_, rfl⟩
  unfold takeX
  rw [hi] at h1 h2 h3 ⊢
  rw [erase_split h3, ofL_app]
  conv => rhs; rw [take_split h3]
  rw [ofL_app, ofL_app, ofL_one, if_neg (fun e => h (e.symm.trans h2))]
  simp
theorem NetI.drop {E : List NEnt} {ck : Nat} {x y : List Msg} (hI : NetI E ck x) {K : Int × Int} (hK : ofL K.1 K.2 y = []) (ho : ∀ a b, (a, b) ≠ K → ofL a b y = ofL a b x) : NetI (offK (some K) E) ck y where
  nd := (List.filter_sublist.map _).nodup hI.nd
  lt := fun e he => hI.lt e (List.mem_filter.1 he).1
  bn := (List.filter_sublist.map _).nodup hI.bn
  ne := fun e he => hI.ne e (List.mem_filter.1 he).1
  eq := fun e he => by
    obtain ⟨h1, h2⟩ := List.mem_filter.1 he
    have h3 : e.key ≠ K := fun h => (of_decide_eq_true h2) (by rw [h])
    rw [ho _ _ h3]; exact hI.eq e h1
  all := fun m hm => by
    have hne : kM m ≠ K := fun h => by
      have : m ∈ ofL K.1 K.2 y := List.mem_filter.2 ⟨hm, by rw [← h]; simp []⟩
      rw [hK] at this; cases this
    have h2 : m ∈ ofL m.f m.t y := List.mem_filter.2 ⟨hm, by simp⟩
    rw [ho _ _ hne] at h2
    obtain ⟨e, h3, h4, h5⟩ := hI.all m (List.mem_filter.1 h2).1
    refine ⟨e, List.mem_filter.2 ⟨h3, decide_eq_true fun h => hne ?_⟩, h4, h5⟩
    rw [Option.some.inj h]
    simp [kM, NEnt.key, h4, h5]
theorem delG {K0 : Option (Int × Int)} {nm : Nat} {K : Int × Int} {E : List NEnt} (hn : (E.map NEnt.key).Nodup) : delR K.1 K.2 (E.map (gN K0 nm)) = (offK (some K) E).map (gN K0 nm) := by
  unfold offK
  induction E with
  | nil => rfl
  | cons x r ih =>
    simp only [List.map_cons, List.nodup_cons] at hn
    simp only [List.map_cons, delR]
    by_cases h : x.key = K
    · rw [if_pos (by rw [← h]; exact ⟨rfl, rfl⟩), List.filter_cons_of_neg (by simp [h])]
      rw [List.filter_eq_self.2]
      intro e he
      exact decide_eq_true fun h2 => hn.1 (List.mem_map.2 ⟨e, he, by rw [← Option.some.inj h2, h]⟩)
    · have h1 : decide (some K ≠ some x.key) = true := decide_eq_true fun h2 => h (Option.some.inj h2).symm
      rw [if_neg (fun h2 => h (Prod.ext h2.1.symm h2.2.symm)), List.filter_cons_of_pos (p := fun e : NEnt => decide (some K ≠ some e.key)) h1, ih hn.2]
      rfl
theorem setR_put {E : List NEnt} {e : NEnt} {K : Int × Int} {nm nm' : Nat} {L jk : List Msg} (hd : (E.map NEnt.key).Nodup) (he : e ∈ E) (hk : e.key = K) :
    setR K.1 K.2 (.slice (some ⟨nm', 0, none⟩) L.length (L ++ jk).length) (E.map (gN (some K) nm)) = (E.map (putE K L jk)).map (gN (some K) nm') := by
  have off : ∀ y : NEnt, y.key ≠ K → gN (some K) nm' (putE K L jk y) = gN (some K) nm y := fun y hy => by
    rw [putE_off hy]; simp only [gN]; rw [if_neg (fun h => hy (Option.some.inj h).symm), if_neg (fun h => hy (Option.some.inj h).symm)]
  have on : gN (some K) nm' (putE K L jk e) = { gN (some K) nm e with v := .slice (some ⟨nm', 0, none⟩) L.length (L ++ jk).length } := by
    rw [putE_on hk]; simp only [gN]; rw [if_pos (by rw [← hk])]
  induction E with
  | nil => cases he
  | cons y r ih =>
    simp only [List.map_cons, List.nodup_cons] at hd
    simp only [List.map_cons, setR]
    rcases List.mem_cons.1 he with rfl | he2
    · rw [if_pos (show K.1 = (gN (some K) nm e).a ∧ K.2 = (gN (some K) nm e).b by rw [← hk]; exact ⟨rfl, rfl⟩), on]
      congr 1
      rw [List.map_map]
      refine List.map_congr_left fun z hz => ?_
      exact (off z fun h => hd.1 (List.mem_map.2 ⟨z, hz, by rw [h, hk]⟩)).symm
    · have hne : y.key ≠ K := fun h => hd.1 (List.mem_map.2 ⟨e, he2, by rw [h, hk]⟩)
      rw [if_neg (fun h => hne (Prod.ext h.1.symm h.2.symm)), ih hd.2 he2, off y hne]
/-- a row behind a row of one's own, where there is room -/
theorem cutOff_zero (cap sz : Nat) : cutOff cap 0 sz 0 = 0 := by
  by_cases h : cap = 0
  · rw [cutOff_pos h]
  · rw [cutOff_neg h]; omega
theorem app_in {α : Type} [Inhabited α] {enc : α → List Value} {sz : Nat} {h : List (Nat × GO)} {ns : List Nat} {nm m n c bytes e off0 : Nat} {z : List Value} {b : Option Addr} {K : Value → List (Nat × GO) → List Nat → Prop} {A jk Y : List α} (h0 : off0 = 0) (hsz : ∀ x, (enc x).length = sz) (hone : ∀ x, oneL (enc x) = true) {t : TypeId}
    (hl : look h nm = some (.rw (.cells ⟨flatR enc (A ++ jk)⟩ t (0, 0)))) (hb : rowOf h b (m * sz) = some (flatR enc Y)) (hm : m = Y.length) (hn : n = A.length) (hc : c = (A ++ jk).length) (hle : Y.length ≤ jk.length)
    (k1 : K (.slice (some ⟨nm, 0, none⟩) (A ++ Y).length c) ((nm, .rw (.cells ⟨flatR enc (A ++ Y ++ jk.drop Y.length)⟩ t (0, 0))) :: h) ns) :
    AppG ⟨some ⟨nm, off0, none⟩, n, c, b, m, sz, bytes, e, z⟩ h ns K := by
  subst hm; subst hn; subst hc; subst h0
  refine .mk ?_
  simp only [runApp]
  refine rdK_intro hb ?_
  refine bif2_true (Nat.ble_eq_true_of_le (by simp only [List.length_append]; omega)) ?_
  simp only [appPut, hl]
  refine rdK_intro (v := .cells ⟨flatR enc (A ++ Y ++ jk.drop Y.length)⟩ t (0, 0)) ?_ ?_
  · have h0 : Nat.beq 0 0 = true := rfl
    simp only [appIn, flatR_one hone, h0, Bool.and_self, blit_rows hsz hle]
  · rw [List.length_append] at k1; exact k1
theorem raw_updateE {P : Program} {tt : List (Nat × TK)} (hT : TKok P tt) {o : Oper} {h : List (Nat × GO)} {ns : List Nat} {K : Value → List (Nat × GO) → List Nat → Prop} {mt nm ck : Nat} {i : TK} {kt et : Nat} {x y z : Operand} {a b : Int} {G G' : List RE} {v u : Value} {n : Nat} (ho : o.op = .mapUpdate mt x y z) (hi : look tt mt = some i) (hd : i.desc = .map kt et) (hk : key2B tt kt .i64 = true)
    (hl : look h nm = some (.rw (.map ⟨encR G⟩ ck))) (hg : getR a b G = some (v, n)) (hG : setR a b u G = G') (hK : K undef ((nm, .rw (.map ⟨encR G'⟩ ck)) :: h) ns) : RawG P o [.map (some nm), k2v .i64 a b, u] h ns K := by
  subst hG; exact raw_update hT ho hi hd hk hl hg hK
theorem raw_deleteE {P : Program} {tt : List (Nat × TK)} (hT : TKok P tt) {o : Oper} {h : List (Nat × GO)} {ns : List Nat} {K : Value → List (Nat × GO) → List Nat → Prop} {ts : Array TypeId} {mt nm ck : Nat} {i : TK} {kt et : Nat} {xs : Array Operand} {a b : Int} {G G' : List RE} (ho : o.op = .call ⟨.builtin .delete, xs, ts⟩) (ht : ts[0]? = some mt) (hi : look tt mt = some i) (hd : i.desc = .map kt et) (hk : key2B tt kt .i64 = true)
    (hl : look h nm = some (.rw (.map ⟨encR G⟩ ck))) (hG : delR a b G = G') (hK : K (.tuple #[]) ((nm, .rw (.map ⟨encR G'⟩ ck)) :: h) ns) : RawG P o [.map (some nm), k2v .i64 a b] h ns K := by
  subst hG; exact raw_delete hT ho ht hi hd hk hl hK
/-- the entry of one link is gone -/
theorem pack3 {x : List Msg} {h : List (Nat × GO)} {t : TypeId} {E : List NEnt} {ck : Nat} {rest : List (Nat × GO)} {K : Int × Int} (N : List Nat) (hl : look h 500 = some (.rw (.cells ⟨[.map (some 501)]⟩ t (0, 0)))) (hm : look h 501 = some (.rw (.map ⟨encR ((offK (some K) E).map (gN (some K) 502))⟩ ck)))
    (hI : NetI (offK (some K) E) ck x) (hb : ((offK (some K) E).map (·.k)).Nodup) (hr : RestOk (offK (some K) E) rest) (h3 : rest ≠ [] → look h 503 = look rest 503) (hN : (memL 500 N && memL 501 N && memL 503 N) = true) : Packs h 500 N (NetR x) := by
  simp only [Bool.and_eq_true] at hN
  have hno : ∀ e ∈ offK (some K) E, some K ≠ some e.key := fun e he => of_decide_eq_true (List.mem_filter.1 he).2
  exact pack_net hl hm hI (fun e he h => absurd h (hno e he)) hr h3 (fun e he _ => he) (by unfold offK; rw [List.filter_filter]; simp only [Bool.and_self]; exact hb) hN.1.1 hN.1.2 (fun ⟨e, he, h⟩ => absurd h (hno e he)) hN.2 (by decide)
end Go.Proofs.YtkcmhcgmiflgbaaDoor

/- Maps with keys of two numbers; contracts where the world is such. -/
import Derived.Test.YtkcmhcgmiflgbaaDoorGg
import Derived.Maps.RangeRun
namespace Go.Proofs.YtkcmhcgmiflgbaaDoor
open Go
open Go.ChangeMaps (setBlock)

/-! maps whose keys are two numbers: what is told by lemmas -/
structure RE where
  a : Int
  b : Int
  v : Value
  n : Nat
def RE.e (x : RE) : MapEntry := ⟨k2v .i64 x.a x.b, x.v, x.n⟩
abbrev encR (G : List RE) : List MapEntry := G.map RE.e
def getR (a b : Int) : List RE → Option (Value × Nat)
  | [] => none
  | x :: r => if a = x.a ∧ b = x.b then some (x.v, x.n) else getR a b r
def setR (a b : Int) (v : Value) : List RE → List RE
  | [] => []
  | x :: r => if a = x.a ∧ b = x.b then { x with v := v } :: r else x :: setR a b v r
def delR (a b : Int) : List RE → List RE
  | [] => []
  | x :: r => if a = x.a ∧ b = x.b then r else x :: delR a b r
def setN (n : Nat) (v : Value) : List RE → List RE
  | [] => []
  | x :: r => if x.n = n then { x with v := v } :: r else x :: setN n v r
theorem find2_no {a b : Int} : ∀ {G : List RE}, getR a b G = none → find2 .i64 a b (encR G) = some none := by
  intro G
  induction G with
  | nil => intro _; rfl
  | cons x r ih =>
    intro h
    simp only [getR] at h
    split at h
    · cases h
    · rename_i e
      have e2 : (a == x.a && b == x.b) = false := by
        rw [Bool.eq_false_iff]; intro h2; simp at h2; exact e h2
      simp only [List.map_cons, RE.e, find2, kindsEq_i64, Bool.and_self, e2, ih h]
theorem find2_yes {a b : Int} {v : Value} {n : Nat} : ∀ {G : List RE}, getR a b G = some (v, n) → ∃ i x, find2 .i64 a b (encR G) = some (some (i, v)) ∧ G[i]? = some x ∧ x.a = a ∧ x.b = b ∧ x.v = v ∧ x.n = n ∧
    (∀ u, (encR G).modify i (fun e => { e with key := k2v .i64 a b, val := u }) = encR (setR a b u G)) ∧ (encR G).modify i (fun e => { e with key := k2v .i64 a b }) = encR G ∧ (encR G).eraseIdx i = encR (delR a b G) := by
  intro G
  induction G with
  | nil => intro h; cases h
  | cons x r ih =>
    intro h
    simp only [getR] at h
    split at h
    · rename_i e
      cases h
      obtain ⟨rfl, rfl⟩ := e
      refine ⟨0, x, ?_, rfl, rfl, rfl, rfl, rfl, fun u => ?_, ?_, ?_⟩
      · simp [RE.e, find2, kindsEq_i64]
      · simp [RE.e, setR]
      · simp [RE.e]
      · simp [delR]
    · rename_i e
      obtain ⟨i, y, h1, h2, h3, h4, h5, h6, h7, h8, h9⟩ := ih h
      have e2 : (a == x.a && b == x.b) = false := by
        rw [Bool.eq_false_iff]; intro h2; simp at h2; exact e h2
      refine ⟨i + 1, y, ?_, by simpa using h2, h3, h4, h5, h6, fun u => ?_, ?_, ?_⟩
      · simp only [List.map_cons, RE.e, find2, kindsEq_i64, Bool.and_self, e2]
        rw [show List.map RE.e r = encR r from rfl, h1]
      · simp only [List.map_cons, List.modify_succ_cons, setR]
        rw [if_neg e, show List.map RE.e r = encR r from rfl, h7 u]; rfl
      · simp only [List.map_cons, List.modify_succ_cons]
        rw [show List.map RE.e r = encR r from rfl, h8]
      · simp only [List.map_cons, List.eraseIdx_cons_succ, delR]
        rw [if_neg e, show List.map RE.e r = encR r from rfl, h9]; rfl
theorem look2_no {a b : Int} {G : List RE} {z : Value} {ok : Bool} {ck : Nat} (h : getR a b G = none) : look2In z ok .i64 a b (.map ⟨encR G⟩ ck) = some (match ok with | true => .tuple #[z, .bool false] | false => z) := by
  simp only [look2In, find2_no h]; cases ok <;> rfl
theorem look2_yes {a b : Int} {G : List RE} {z v : Value} {n : Nat} {ok : Bool} {ck : Nat} (h : getR a b G = some (v, n)) : look2In z ok .i64 a b (.map ⟨encR G⟩ ck) = some (match ok with | true => .tuple #[v, .bool true] | false => v) := by
  obtain ⟨i, x, h1, _⟩ := find2_yes h
  simp only [look2In, h1]; cases ok <;> rfl
/-- the real entries -/
def SameE (f : NM) (G G' : List RE) : Prop := G'.length = G.length ∧ ∀ (i : Nat) (x x' : RE), G[i]? = some x → G'[i]? = some x' → x'.a = x.a ∧ x'.b = x.b ∧ x'.n = x.n ∧ VR f x.v x'.v
theorem ES.real {f : NM} {G : List RE} {es : Array MapEntry} (h : ES f ⟨encR G⟩ es) : ∃ G' : List RE, es = ⟨encR G'⟩ ∧ SameE f G G' := by
  obtain ⟨es⟩ := es
  induction G generalizing es with
  | nil =>
    have : es = [] := by have := h.1; exact List.eq_nil_of_length_eq_zero (by simpa using this.symm)
    subst this
    exact ⟨[], rfl, rfl, fun i x x' h => (by simp at h)⟩
  | cons x r ih =>
    cases es with
    | nil => have := h.1; simp at this
    | cons e es =>
      have h0 := h.2 0 x.e e (by simp) (by simp)
      have hE' : ES f ⟨encR r⟩ ⟨es⟩ := ⟨by have := h.1; simpa using this, fun i a b ha hb => h.2 (i + 1) a b (by simpa using ha) (by simpa using hb)⟩
      obtain ⟨G', q1, q2, q3⟩ := ih es hE'
      obtain ⟨ky, vl, bn⟩ := e
      obtain ⟨g1, g2, g3⟩ := h0
      have := k2_VR g1
      simp only at this; subst this
      refine ⟨⟨x.a, x.b, vl, bn⟩ :: G', ?_, by simp [q2], fun i y y' h1 h2 => ?_⟩
      · have : es = encR G' := by simpa using q1
        subst this; rfl
      · cases i with
        | zero => simp at h1 h2; subst h1; subst h2; exact ⟨rfl, rfl, g3.symm, g2⟩
        | succ i => exact q3 i y y' (by simpa using h1) (by simpa using h2)
section
variable {P : Program} {tt : List (Nat × TK)} (hT : TKok P tt) {o : Oper} {h : List (Nat × GO)} {ns : List Nat} {K : Value → List (Nat × GO) → List Nat → Prop}
theorem map2_inv {α : Type} {x y : α} {ρ : Operand → α} {a : Array Operand} (_ : a.map ρ = #[x, y]) : True := trivial
theorem AR.two {f : NM} {x y : Value} {z : Array Value} (h : AR f ⟨[x, y]⟩ z) : ∃ x' y', z = #[x', y'] ∧ VR f x x' ∧ VR f y y' := by
  obtain ⟨x', l, rfl, h1, h2⟩ := AR.cons (x' := undef) h
  obtain ⟨y', l2, e, h3, h4⟩ := AR.cons (x' := undef) h2
  cases e
  have : l2 = [] := by have := h4.1; exact List.eq_nil_of_length_eq_zero (by simpa using this.symm)
  subst this
  exact ⟨x', y', rfl, h1, h3⟩
theorem AR.three {f : NM} {x y u : Value} {z : Array Value} (h : AR f ⟨[x, y, u]⟩ z) : ∃ x' y' u', z = #[x', y', u'] ∧ VR f x x' ∧ VR f y y' ∧ VR f u u' := by
  obtain ⟨x', l, rfl, h1, h2⟩ := AR.cons (x' := undef) h
  obtain ⟨y', l2, e, h3, h4⟩ := AR.cons (x' := undef) h2
  cases e
  obtain ⟨u', l3, e, h5, h6⟩ := AR.cons (x' := undef) h4
  cases e
  have : l3 = [] := by have := h6.1; exact List.eq_nil_of_length_eq_zero (by simpa using this.symm)
  subst this
  exact ⟨x', y', u', rfl, h1, h3, h5⟩
theorem AR.one_inv {f : NM} {x : Value} {z : Array Value} (h : AR f ⟨[x]⟩ z) : ∃ x', z = #[x'] ∧ VR f x x' := by
  obtain ⟨x', l, rfl, h1, h2⟩ := AR.cons (x' := undef) h
  have : l = [] := by have := h2.1; exact List.eq_nil_of_length_eq_zero (by simpa using this.symm)
  subst this
  exact ⟨x', rfl, h1⟩
theorem next_nil0 {P : Program} (W : World) (ty : TypeId) {r a b : Nat} {s : Array Nat} (hr : W.heap[r]? = some (.mapIter none a s b)) :
    (Instr.next (.pointer (some ⟨r, 0, none⟩)) false ty).run P W = .ok (.tuple #[.bool false]) W := by
  simp only [Instr.next, getObj, Sem.run_bind, Sem.run, hr, Result.andThen]
  rfl
theorem exec_v0 {P : Program} {s : Sem Value} {v : Value} {w w' : World} (h : s.run P w = .ok v w') : ((do pure (Next.value (← s))) : Sem Next).run P w = .ok (.value v) w' := by
  simp only [Sem.run_bind, h, Result.andThen_ok, Sem.run_pure]
/-- where a map's name stands for -/
theorem Sat.mapAt {c : Cx} {f : NM} {t : List (Nat × Value)} {a : Act} {w : World} (H : Sat c f ⟨t, h, ns⟩ a w) {nm ck : Nat} {G : List RE} (hl : look h nm = some (.rw (.map ⟨encR G⟩ ck))) {b : Nat} (hb : f nm = some b) :
    ∃ G', w.heap[b]? = some (.map ⟨encR G'⟩ ck) ∧ ES f ⟨encR G⟩ ⟨encR G'⟩ ∧ SameE f G G' := by
  obtain ⟨o', _, h2, h3⟩ := H.sees nm _ hl b hb
  cases h3 with
  | map _ hE =>
    obtain ⟨G', rfl, q⟩ := hE.real
    exact ⟨G', h2, hE, q⟩
theorem keyStays (a b : Int) (w : World) : (Instr.keyThatStays (k2v .i64 a b) (k2v .i64 a b)).run P w = .ok (k2v .i64 a b) w := by
  have : Instr.sameBits 10000 (k2v .i64 a b) (k2v .i64 a b) = true := by
    show Instr.sameBits (9999 + 1) (k2v .i64 a b) (k2v .i64 a b) = true
    simp [Instr.sameBits]
  simp only [Instr.keyThatStays, this, if_true, Sem.run_pure]
theorem getR_real {f : NM} {a b : Int} : ∀ {G G' : List RE}, SameE f G G' →
    (getR a b G = none → getR a b G' = none) ∧ (∀ v n, getR a b G = some (v, n) → ∃ v', getR a b G' = some (v', n) ∧ VR f v v') := by
  intro G
  induction G with
  | nil => intro G' ⟨hl, _⟩; have : G' = [] := List.eq_nil_of_length_eq_zero hl; subst this; exact ⟨fun _ => rfl, fun v n h => by cases h⟩
  | cons x r ih =>
    intro G' ⟨hl, hx⟩
    cases G' with
    | nil => cases hl
    | cons x' r' =>
      obtain ⟨e1, e2, e3, e4⟩ := hx 0 x x' rfl rfl
      obtain ⟨i1, i2⟩ := ih (G' := r') ⟨by simpa using hl, fun i y y' h1 h2 => hx (i + 1) y y' (by simpa using h1) (by simpa using h2)⟩
      simp only [getR, e1, e2]
      refine ⟨fun h => ?_, fun v n h => ?_⟩
      · split at h
        · cases h
        · rename_i e; rw [if_neg e]; exact i1 h
      · split at h
        · rename_i e; rw [if_pos e]; cases h; exact ⟨_, by rw [e3], e4⟩
        · rename_i e; rw [if_neg e]; exact i2 v n h
include hT in
/-- an entry is looked for, to be stored to -/
theorem raw_entryOld {mt nm ck : Nat} {i : TK} {kt et : Nat} {x y : Operand} {a b : Int} {G : List RE} {v : Value} {n : Nat} (ho : o.op = .mapEntry mt x y) (hi : look tt mt = some i) (hd : i.desc = .map kt et) (hk : key2B tt kt .i64 = true)
    (hl : look h nm = some (.rw (.map ⟨encR G⟩ ck))) (hg : getR a b G = some (v, n)) (hK : K (.tuple #[v, .int .i64 n]) ((nm, .rw (.map ⟨encR G⟩ ck)) :: h) ns) : RawG P o [.map (some nm), k2v .i64 a b] h ns K := by
  refine .mk (fun c e => by rw [ho] at e; cases e) fun c f t act w ρ H hA => ?_
  rw [ho] at hA
  obtain ⟨m', k', e, hm, hkk⟩ := AR.two hA
  have hkk := k2_VR hkk
  simp only [Op.operands, List.map_toArray, List.map_cons, List.map_nil] at e
  have ex : ρ x = m' ∧ ρ y = k' := by simpa using e
  subst hkk
  cases hm with
  | map hn =>
    rename_i b0
    obtain ⟨G', h1, hE, h2⟩ := H.mapAt hl hn
    obtain ⟨_, hgr⟩ := getR_real (f := f) (a := a) (b := b) h2
    obtain ⟨v', hg', hv'⟩ := hgr v n hg
    obtain ⟨j, z, q1, q2, q3, q4, q5, q6, q7, q8, q9⟩ := find2_yes hg'
    obtain ⟨hck, hfk⟩ := key2_of (P := P) hT hk
    have hf := hfk a b _ _ q1 w
    have hz : z.e.key = k2v .i64 a b := by simp [RE.e, q3, q4]
    have hj : (encR G')[j]? = some z.e := by simp [q2]
    refine ⟨.value (.tuple #[v', .int .i64 n]), _, _, _, ns, f, setB w b0 (.map ⟨encR G'⟩ ck), ?_, Or.inl rfl, two_VR hv' (.int _ _), H.write hl hn (.map ck hE), hK⟩
    unfold execOp
    rw [ho]
    simp only [ex.1, ex.2]
    have hks : (Instr.keyThatStays ((((⟨encR G'⟩ : Array MapEntry)[j]?).map (·.key)).getD (k2v .i64 a b)) (k2v .i64 a b)).run P w = .ok (k2v .i64 a b) w := by
      simp only [List.getElem?_toArray, hj, Option.map_some, Option.getD_some, hz, keyStays]
    simp only [Instr.mapEntry, Sem.run_bind, tk_und hT hi, Result.andThen_ok, hd, run_getM h1, hck, hf, hks, run_setM _ h1, Sem.run_pure]
    simp only [List.modify_toArray, q8, List.getElem?_toArray, hj, Option.map_some, Option.getD_some]
    simp [RE.e, q6, goInt]

include hT in
theorem raw_entryNew {mt nm ck : Nat} {i ei : TK} {kt et : Nat} {x y : Operand} {a b : Int} {G : List RE} (ho : o.op = .mapEntry mt x y) (hi : look tt mt = some i) (hd : i.desc = .map kt et) (hk : key2B tt kt .i64 = true) (hei : look tt et = some ei) (hcl : clean ei.zero = true)
    (hl : look h nm = some (.rw (.map ⟨encR G⟩ ck))) (hg : getR a b G = none) (hK : K (.tuple #[ei.zero, .int .i64 ck]) ((nm, .rw (.map ⟨encR (G ++ [⟨a, b, ei.zero, ck⟩])⟩ (ck + 1))) :: h) ns) : RawG P o [.map (some nm), k2v .i64 a b] h ns K := by
  refine .mk (fun c e => by rw [ho] at e; cases e) fun c f t act w ρ H hA => ?_
  rw [ho] at hA
  obtain ⟨m', k', e, hm, hkk⟩ := AR.two hA
  have hkk := k2_VR hkk
  simp only [Op.operands, List.map_toArray, List.map_cons, List.map_nil] at e
  have ex : ρ x = m' ∧ ρ y = k' := by simpa using e
  subst hkk
  cases hm with
  | map hn =>
    rename_i b0
    obtain ⟨G', h1, hE, h2⟩ := H.mapAt hl hn
    obtain ⟨hgr, _⟩ := getR_real (f := f) (a := a) (b := b) h2
    have hf0 := find2_no (hgr hg)
    obtain ⟨hck, hfk⟩ := key2_of (P := P) hT hk
    have hf := hfk a b _ _ hf0 w
    have hz := clean_VR f hcl
    have hE2 : ES f ⟨encR G ++ [⟨k2v .i64 a b, ei.zero, ck⟩]⟩ ⟨encR G' ++ [⟨k2v .i64 a b, ei.zero, ck⟩]⟩ := ES.push hE (clean_VR f rfl) hz rfl
    have e1 : encR (G ++ [⟨a, b, ei.zero, ck⟩]) = encR G ++ [⟨k2v .i64 a b, ei.zero, ck⟩] := by simp [RE.e]
    rw [e1] at hK
    refine ⟨.value (.tuple #[ei.zero, .int .i64 ck]), _, _, _, ns, f, setB w b0 (.map ⟨encR G' ++ [⟨k2v .i64 a b, ei.zero, ck⟩]⟩ (ck + 1)), ?_, Or.inl rfl, two_VR hz (.int _ _), H.write hl hn (.map (ck + 1) hE2), hK⟩
    unfold execOp
    rw [ho]
    simp only [ex.1, ex.2]
    simp only [Instr.mapEntry, Sem.run_bind, tk_und hT hi, Result.andThen_ok, hd, run_getM h1, hck, hf, run_setM _ h1, tk_zero hT hei, Sem.run_pure]
    simp [goInt]
theorem setN_real {f : NM} {n : Nat} {u u' : Value} (hu : VR f u u') : ∀ {G G' : List RE} (j : Nat) (x : RE), ES f ⟨encR G⟩ ⟨encR G'⟩ → SameE f G G' → (G.map (·.n)).Nodup → G[j]? = some x → x.n = n →
    (∃ k, (encR G').findIdx? (fun e => (e.born : Int) == (n : Int)) = some k ∧ ES f ⟨encR (setN n u G)⟩ ⟨(encR G').modify k fun e => { e with val := u' }⟩) := by
  intro G
  induction G with
  | nil => intro G' j x _ _ _ h; simp at h
  | cons y r ih =>
    intro G' j x hE hs hn hj hx
    cases G' with
    | nil => have := hs.1; simp at this
    | cons y' r' =>
      obtain ⟨e1, e2, e3, e4⟩ := hs.2 0 y y' rfl rfl
      have hE' : ES f ⟨encR r⟩ ⟨encR r'⟩ := ⟨by have := hE.1; simpa using this, fun i a b ha hb => hE.2 (i + 1) a b (by simpa using ha) (by simpa using hb)⟩
      have hs' : SameE f r r' := ⟨by have := hs.1; simpa using this, fun i a b ha hb => hs.2 (i + 1) a b (by simpa using ha) (by simpa using hb)⟩
      simp only [List.map_cons, List.nodup_cons] at hn
      by_cases e : y.n = n
      · refine ⟨0, by simp [List.findIdx?_cons, RE.e, e3, e], ?_⟩
        simp only [setN, if_pos e, List.map_cons, List.modify_zero_cons]
        refine ⟨by have := hE.1; simpa using this, fun i a b ha hb => ?_⟩
        cases i with
        | zero =>
          simp at ha hb; subst ha; subst hb
          exact ⟨by simp only [RE.e, e1, e2]; exact clean_VR f rfl, hu, e3.symm⟩
        | succ i => exact hE'.2 i a b (by simpa using ha) (by simpa using hb)
      · cases j with
        | zero => simp at hj; subst hj; exact absurd hx e
        | succ j =>
          obtain ⟨k, k1, k2⟩ := ih j x hE' hs' hn.2 (by simpa using hj) hx
          refine ⟨k + 1, ?_, ?_⟩
          · have hne : ((y'.n : Int) == (n : Int)) = false := by
              rw [e3]; cases hq : ((y.n : Int) == (n : Int)) with
              | false => rfl
              | true => simp at hq; exact absurd (by omega) e
            simp only [List.map_cons, List.findIdx?_cons, RE.e, hne, Bool.false_eq_true, if_false]
            rw [show List.map RE.e r' = encR r' from rfl, k1]; rfl
          · simp only [setN, if_neg e, List.map_cons, List.modify_succ_cons]
            refine ⟨by have := k2.1; simpa using this, fun i a b ha hb => ?_⟩
            cases i with
            | zero => exact hE.2 0 a b (by simpa using ha) (by simpa using hb)
            | succ i => exact k2.2 i a b (by simpa using ha) (by simpa using hb)
include hT in
/-- what was looked for is stored to -/
theorem raw_store {mt nm ck n j : Nat} {x y z : Operand} {G : List RE} {r : RE} {u : Value} (ho : o.op = .entryStore mt x y z) (hl : look h nm = some (.rw (.map ⟨encR G⟩ ck))) (hn : (G.map (·.n)).Nodup) (hj : G[j]? = some r) (hr : r.n = n)
    (hK : K undef ((nm, .rw (.map ⟨encR (setN n u G)⟩ ck)) :: h) ns) : RawG P o [.map (some nm), .int .i64 n, u] h ns K := by
  have _ := hT
  refine .mk (fun c e => by rw [ho] at e; cases e) fun c f t act w ρ H hA => ?_
  rw [ho] at hA
  obtain ⟨m', k', u', e, hm, hkk, hu⟩ := AR.three hA
  cases hkk
  simp only [Op.operands, List.map_toArray, List.map_cons, List.map_nil] at e
  have ex : ρ x = m' ∧ ρ y = .int .i64 n ∧ ρ z = u' := by simpa using e
  cases hm with
  | map hnm =>
    rename_i b0
    obtain ⟨G', h1, hE, h2⟩ := H.mapAt hl hnm
    obtain ⟨k, k1, k2⟩ := setN_real hu j r hE h2 hn hj hr
    refine ⟨.skip, undef, _, _, ns, f, setB w b0 (.map ⟨(encR G').modify k fun e => { e with val := u' }⟩ ck), ?_, Or.inr ⟨rfl, rfl⟩, VR.undef f, H.write hl hnm (.map ck k2), hK⟩
    unfold execOp
    rw [ho]
    simp only [ex.1, ex.2.1, ex.2.2]
    simp only [Instr.entryStore, Sem.run_bind, run_getM h1, Result.andThen_ok, asInt, asIntOf, Sem.run_pure]
    simp only [List.findIdx?_toArray, k1, run_setM _ h1, Result.andThen_ok, List.modify_toArray]
theorem setR_real {f : NM} {a b : Int} {u u' : Value} (hu : VR f u u') {G G' : List RE} (h : SameE f G G') : SameE f (setR a b u G) (setR a b u' G') := by
  induction G generalizing G' with
  | nil => have : G' = [] := List.eq_nil_of_length_eq_zero h.1; subst this; exact h
  | cons x r ih =>
    cases G' with
    | nil => have := h.1; cases this
    | cons x' r' =>
      obtain ⟨e1, e2, e3, e4⟩ := h.2 0 x x' rfl rfl
      have hs' : SameE f r r' := ⟨by have := h.1; simpa using this, fun i a b ha hb => h.2 (i + 1) a b (by simpa using ha) (by simpa using hb)⟩
      simp only [setR, e1, e2]
      split
      · refine ⟨by have := hs'.1; simpa using this, fun i y y' h1 h2 => ?_⟩
        cases i with
        | zero => simp at h1 h2; subst h1; subst h2; exact ⟨rfl, rfl, e3, hu⟩
        | succ i => exact hs'.2 i y y' (by simpa using h1) (by simpa using h2)
      · have := ih hs'
        refine ⟨by have := this.1; simpa using this, fun i y y' h1 h2 => ?_⟩
        cases i with
        | zero => simp at h1 h2; subst h1; subst h2; exact ⟨e1, e2, e3, e4⟩
        | succ i => exact this.2 i y y' (by simpa using h1) (by simpa using h2)
theorem delR_real {f : NM} {a b : Int} {G G' : List RE} (h : SameE f G G') : SameE f (delR a b G) (delR a b G') := by
  induction G generalizing G' with
  | nil => have : G' = [] := List.eq_nil_of_length_eq_zero h.1; subst this; exact h
  | cons x r ih =>
    cases G' with
    | nil => have := h.1; cases this
    | cons x' r' =>
      obtain ⟨e1, e2, e3, e4⟩ := h.2 0 x x' rfl rfl
      have hs' : SameE f r r' := ⟨by have := h.1; simpa using this, fun i a b ha hb => h.2 (i + 1) a b (by simpa using ha) (by simpa using hb)⟩
      simp only [delR, e1, e2]
      split
      · exact hs'
      · have := ih hs'
        refine ⟨by have := this.1; simpa using this, fun i y y' h1 h2 => ?_⟩
        cases i with
        | zero => simp at h1 h2; subst h1; subst h2; exact ⟨e1, e2, e3, e4⟩
        | succ i => exact this.2 i y y' (by simpa using h1) (by simpa using h2)
theorem SameE.es {f : NM} {G G' : List RE} (h : SameE f G G') : ES f ⟨encR G⟩ ⟨encR G'⟩ := by
  refine ⟨by simp [h.1], fun i e e' h1 h2 => ?_⟩
  simp only [List.getElem?_toArray, List.getElem?_map, Option.map_eq_some_iff] at h1 h2
  obtain ⟨x, q1, rfl⟩ := h1
  obtain ⟨x', q2, rfl⟩ := h2
  obtain ⟨e1, e2, e3, e4⟩ := h.2 i x x' q1 q2
  exact ⟨by simp only [RE.e, e1, e2]; exact clean_VR f rfl, e4, e3.symm⟩
include hT in
theorem raw_update {mt nm ck : Nat} {i : TK} {kt et : Nat} {x y z : Operand} {a b : Int} {G : List RE} {v u : Value} {n : Nat} (ho : o.op = .mapUpdate mt x y z) (hi : look tt mt = some i) (hd : i.desc = .map kt et) (hk : key2B tt kt .i64 = true)
    (hl : look h nm = some (.rw (.map ⟨encR G⟩ ck))) (hg : getR a b G = some (v, n)) (hK : K undef ((nm, .rw (.map ⟨encR (setR a b u G)⟩ ck)) :: h) ns) : RawG P o [.map (some nm), k2v .i64 a b, u] h ns K := by
  refine .mk (fun c e => by rw [ho] at e; cases e) fun c f t act w ρ H hA => ?_
  rw [ho] at hA
  obtain ⟨m', k', u', e, hm, hkk, hu⟩ := AR.three hA
  have hkk := k2_VR hkk
  simp only [Op.operands, List.map_toArray, List.map_cons, List.map_nil] at e
  have ex : ρ x = m' ∧ ρ y = k' ∧ ρ z = u' := by simpa using e
  subst hkk
  cases hm with
  | map hn =>
    rename_i b0
    obtain ⟨G', h1, hE, h2⟩ := H.mapAt hl hn
    obtain ⟨_, hgr⟩ := getR_real (f := f) (a := a) (b := b) h2
    obtain ⟨v', hg', hv'⟩ := hgr v n hg
    obtain ⟨j, zz, q1, q2, q3, q4, q5, q6, q7, q8, q9⟩ := find2_yes hg'
    obtain ⟨hck, hfk⟩ := key2_of (P := P) hT hk
    have hf := hfk a b _ _ q1 w
    have hz : zz.e.key = k2v .i64 a b := by simp [RE.e, q3, q4]
    have hj : (encR G')[j]? = some zz.e := by simp [q2]
    refine ⟨.skip, undef, _, _, ns, f, setB w b0 (.map ⟨encR (setR a b u' G')⟩ ck), ?_, Or.inr ⟨rfl, rfl⟩, VR.undef f, H.write hl hn (.map ck (setR_real hu h2).es), hK⟩
    unfold execOp
    rw [ho]
    simp only [ex.1, ex.2.1, ex.2.2]
    have hks : (Instr.keyThatStays ((((⟨encR G'⟩ : Array MapEntry)[j]?).map (·.key)).getD (k2v .i64 a b)) (k2v .i64 a b)).run P w = .ok (k2v .i64 a b) w := by
      simp only [List.getElem?_toArray, hj, Option.map_some, Option.getD_some, hz, keyStays]
    simp only [Instr.mapUpdate, Sem.run_bind, tk_und hT hi, Result.andThen_ok, hd, run_getM h1, hck, hf, hks, run_setM _ h1, Sem.run_pure]
    simp only [List.modify_toArray, q7]
include hT in
theorem raw_delete {ts : Array TypeId} {mt nm ck : Nat} {i : TK} {kt et : Nat} {xs : Array Operand} {a b : Int} {G : List RE} (ho : o.op = .call ⟨.builtin .delete, xs, ts⟩) (ht : ts[0]? = some mt) (hi : look tt mt = some i) (hd : i.desc = .map kt et) (hk : key2B tt kt .i64 = true)
    (hl : look h nm = some (.rw (.map ⟨encR G⟩ ck))) (hK : K (.tuple #[]) ((nm, .rw (.map ⟨encR (delR a b G)⟩ ck)) :: h) ns) : RawG P o [.map (some nm), k2v .i64 a b] h ns K := by
  refine .mk (fun c e => by rw [ho] at e; cases e) fun c f t act w ρ H hA => ?_
  rw [ho] at hA
  have hA : AR f ⟨[.map (some nm), k2v .i64 a b]⟩ (xs.map ρ) := by
    simpa [Op.operands, Call.operands] using hA
  obtain ⟨m', k', e, hm, hkk⟩ := AR.two hA
  have hkk := k2_VR hkk
  subst hkk
  cases hm with
  | map hn =>
    rename_i b0
    obtain ⟨G', h1, hE, h2⟩ := H.mapAt hl hn
    obtain ⟨hgn, hgr⟩ := getR_real (f := f) (a := a) (b := b) h2
    obtain ⟨hck, hfk⟩ := key2_of (P := P) hT hk
    have hdel : ∀ G : List RE, getR a b G = none → delR a b G = G := by
      intro G
      induction G with
      | nil => intro _; rfl
      | cons x r ih =>
        intro h
        simp only [getR] at h
        split at h
        · cases h
        · rename_i e; simp only [delR]; rw [if_neg e, ih h]
    refine ⟨.value (.tuple #[]), _, _, _, ns, f, setB w b0 (.map ⟨encR (delR a b G')⟩ ck), ?_, Or.inl rfl, (AR.nil f).tuple, H.write hl hn (.map ck (delR_real h2).es), hK⟩
    unfold execOp
    rw [ho]
    simp only [resolve, pure_bind, invoke, builtin, Sem.run_bind]
    rw [show Array.map ρ xs = #[.map (some b0), k2v .i64 a b] from e]
    cases hg : getR a b G with
    | none =>
      have hg' := hgn hg
      have hf := hfk a b _ _ (find2_no hg') w
      simp [Builtin.delete_, ht, tk_und hT hi, hd, run_getM h1, hck, hf, run_setM _ h1, hdel G' hg']
    | some p =>
      obtain ⟨v, n⟩ := p
      obtain ⟨v', hg', hv'⟩ := hgr v n hg
      obtain ⟨j, zz, q1, q2, q3, q4, q5, q6, q7, q8, q9⟩ := find2_yes hg'
      have hf := hfk a b _ _ q1 w
      simp [Builtin.delete_, ht, tk_und hT hi, hd, run_getM h1, hck, hf, run_setM _ h1]
      rw [← q9]

/-! a range over such a map -/
def lfR (G : List RE) (seen : Array Nat) : List RE := G.filter fun x => !seen.contains x.n
theorem leftOf_encR (G : List RE) (seen : Array Nat) : leftOf ⟨encR G⟩ seen = ⟨encR (lfR G seen)⟩ := by
  unfold leftOf lfR
  simp only [List.filter_toArray]
  congr 1
  rw [List.filter_map]
  rfl
include hT in
theorem raw_range {mt nm ck n : Nat} {i : TK} {kt et : Nat} {x : Operand} {G : List RE} (ho : o.op = .range mt x) (hi : look tt mt = some i) (hd : i.desc = .map kt et)
    (hl : look h nm = some (.rw (.map ⟨encR G⟩ ck))) (hK : K (.pointer (some ⟨n, 0, none⟩)) ((n, .rw (.mapIter (some nm) ck #[] ck)) :: h) ns) : RawG P o [.map (some nm)] h (n :: ns) K := by
  refine .mk (fun c e => by rw [ho] at e; cases e) fun c f t act w ρ H hA => ?_
  rw [ho] at hA
  obtain ⟨m', e, hm⟩ := AR.one_inv hA
  simp only [Op.operands, List.map_toArray, List.map_cons, List.map_nil] at e
  have ex : ρ x = m' := by simpa using e
  cases hm with
  | map hn =>
    rename_i b0
    obtain ⟨G', h1, hE, h2⟩ := H.mapAt hl hn
    have hfn : f n = none := H.top n (by simp) n (Nat.le_refl _)
    refine ⟨.value (.pointer (some ⟨w.heap.size, 0, none⟩)), _, _, _, ns, _, _, ?_, Or.inl rfl, .ptr (nadd_self _ _ _), H.fresh rfl (.iter _ _ _ hn), hK⟩
    unfold execOp
    rw [ho]
    simp only [ex]
    simp only [Instr.range, Sem.run_bind, tk_und hT hi, Result.andThen_ok, hd, run_getM h1, Sem.run_pure, run_newObj]
    rfl
include hT in
theorem raw_range0 {mt n : Nat} {i : TK} {kt et : Nat} {x : Operand} (ho : o.op = .range mt x) (hi : look tt mt = some i) (hd : i.desc = .map kt et)
    (hK : K (.pointer (some ⟨n, 0, none⟩)) ((n, .rw (.mapIter none 0 #[] 0)) :: h) ns) : RawG P o [.map none] h (n :: ns) K := by
  refine .mk (fun c e => by rw [ho] at e; cases e) fun c f t act w ρ H hA => ?_
  rw [ho] at hA
  obtain ⟨m', e, hm⟩ := AR.one_inv hA
  simp only [Op.operands, List.map_toArray, List.map_cons, List.map_nil] at e
  have ex : ρ x = m' := by simpa using e
  cases hm
  refine ⟨.value (.pointer (some ⟨w.heap.size, 0, none⟩)), _, _, _, ns, _, _, ?_, Or.inl rfl, .ptr (nadd_self _ _ _), H.fresh rfl (.iterN _ _ _), hK⟩
  unfold execOp
  rw [ho]
  simp only [ex]
  simp only [Instr.range, Sem.run_bind, tk_und hT hi, Result.andThen_ok, hd, Sem.run_pure, run_newObj]
  rfl
theorem raw_next0 {it : Nat} {x : Operand} (ho : o.op = .next x false) (hl : look h it = some (.rw (.mapIter none 0 #[] 0))) (hK : K (.tuple #[.bool false]) h ns) : RawG P o [.pointer (some ⟨it, 0, none⟩)] h ns K := by
  refine .mk (fun c e => by rw [ho] at e; cases e) fun c f t act w ρ H hA => ?_
  rw [ho] at hA
  obtain ⟨m', e, hm⟩ := AR.one_inv hA
  simp only [Op.operands, List.map_toArray, List.map_cons, List.map_nil] at e
  have ex : ρ x = m' := by simpa using e
  cases hm with
  | ptr hn =>
    rename_i b0
    obtain ⟨o', _, h2, h3⟩ := H.sees it _ hl b0 hn
    cases h3
    refine ⟨.value (.tuple #[.bool false]), _, _, h, ns, f, w, ?_, Or.inl rfl, (AR.one (.bool false)).tuple, H, hK⟩
    unfold execOp
    rw [ho]
    simp only [ex]
    exact exec_v0 (next_nil0 w o.type h2)
theorem raw_next {it nm ck : Nat} {seen : Array Nat} {x : Operand} {G : List RE} (ho : o.op = .next x false) (hl : look h it = some (.rw (.mapIter (some nm) ck seen ck))) (hm : look h nm = some (.rw (.map ⟨encR G⟩ ck)))
    (hlt : ∀ y ∈ G, y.n < ck) (k1 : lfR G seen = [] → K (.tuple #[.bool false]) h ns)
    (k2 : ∀ y ∈ lfR G seen, K (.tuple #[.bool true, k2v .i64 y.a y.b, y.v]) ((it, .rw (.mapIter (some nm) ck (seen.push y.n) ck)) :: h) ns) : RawG P o [.pointer (some ⟨it, 0, none⟩)] h ns K := by
  refine .mk (fun c e => by rw [ho] at e; cases e) fun c f t act w ρ H hA => ?_
  rw [ho] at hA
  obtain ⟨m', e, hmm⟩ := AR.one_inv hA
  simp only [Op.operands, List.map_toArray, List.map_cons, List.map_nil] at e
  have ex : ρ x = m' := by simpa using e
  cases hmm with
  | ptr hn =>
    rename_i bi
    obtain ⟨o', _, h2, h3⟩ := H.sees it _ hl bi hn
    cases h3 with
    | iter _ _ _ hnm =>
      rename_i b0
      obtain ⟨G', h1, hE, hs⟩ := H.mapAt hm hnm
      have hidx : ∀ y' ∈ G', ∃ y ∈ G, y'.n = y.n ∧ y'.a = y.a ∧ y'.b = y.b ∧ VR f y.v y'.v := by
        intro y' hy
        obtain ⟨j, hj⟩ := List.getElem?_of_mem hy
        have hlt : j < G.length := by rw [← hs.1]; exact (List.getElem?_eq_some_iff.1 hj).1
        obtain ⟨e1, e2, e3, e4⟩ := hs.2 j G[j] y' (List.getElem?_eq_getElem hlt) hj
        exact ⟨G[j], List.getElem_mem hlt, e3, e1, e2, e4⟩
      have hidx2 : ∀ y ∈ G, ∃ y' ∈ G', y'.n = y.n := by
        intro y hy
        obtain ⟨j, hj⟩ := List.getElem?_of_mem hy
        have hlt : j < G'.length := by rw [hs.1]; exact (List.getElem?_eq_some_iff.1 hj).1
        obtain ⟨_, _, e3, _⟩ := hs.2 j y G'[j] hj (List.getElem?_eq_getElem hlt)
        exact ⟨G'[j], List.getElem_mem hlt, e3⟩
      rcases run_next_at (P := P) w o.type bi b0 ck ck seen ⟨encR G'⟩ ck h2 h1 (fun y hy => by
        obtain ⟨z, hz, rfl⟩ := List.mem_map.1 (show y ∈ encR G' from hy)
        obtain ⟨u, hu, e1, _⟩ := hidx z hz
        show z.n < ck
        rw [e1]; exact hlt u hu) (Nat.le_refl _) with ⟨q1, q2⟩ | ⟨ent, q1, W1, q2, q3⟩
      · have hempty : lfR G seen = [] := by
          rw [leftOf_encR] at q1
          have q1 : lfR G' seen = [] := by simpa using q1
          unfold lfR at q1 ⊢
          rw [List.filter_eq_nil_iff] at q1 ⊢
          intro y hy
          obtain ⟨y', hy', e⟩ := hidx2 y hy
          rw [← e]; exact q1 y' hy'
        refine ⟨.value (.tuple #[.bool false]), _, _, h, ns, f, w, ?_, Or.inl rfl, (AR.one (.bool false)).tuple, H, k1 hempty⟩
        unfold execOp
        rw [ho]
        simp only [ex]
        exact exec_v0 q2
      · rw [leftOf_encR] at q1
        obtain ⟨z, hz, rfl⟩ := List.mem_map.1 (show ent ∈ encR (lfR G' seen) from q1)
        have hz := List.mem_filter.1 hz
        obtain ⟨y, hy, e1, e2, e3, e4⟩ := hidx z hz.1
        have hy2 : y ∈ lfR G seen := List.mem_filter.2 ⟨hy, by rw [← e1]; exact hz.2⟩
        have hw : Sat c f ⟨t, (it, .rw (.mapIter (some nm) ck (seen.push y.n) ck)) :: h, ns⟩ act (setBlock W1 bi (.mapIter (some b0) ck (seen.push z.n) ck)) := by
          have H2 := H.write hl hn (o2 := .mapIter (some nm) ck (seen.push y.n) ck) (o2' := .mapIter (some b0) ck (seen.push z.n) ck) (by rw [e1]; exact .iter _ _ _ hnm)
          rcases q2 with rfl | rfl
          · exact H2
          · exact H2.drawn (w.drawn + 1) (Nat.le_succ _)
        refine ⟨.value (.tuple #[.bool true, k2v .i64 z.a z.b, z.v]), _, _, _, ns, f, _, ?_, Or.inl rfl, ?_, hw, k2 y hy2⟩
        · unfold execOp
          rw [ho]
          simp only [ex]
          exact exec_v0 q3
        · rw [e2, e3]
          exact (((AR.one (.bool true)).push (clean_VR f rfl)).push e4).tuple
theorem raw_entry {it nm ck : Nat} {seen : Array Nat} {x : Operand} {G : List RE} {y : RE} (ho : o.op = .entry x) (hl : look h it = some (.rw (.mapIter (some nm) ck (seen.push y.n) ck))) (hm : look h nm = some (.rw (.map ⟨encR G⟩ ck)))
    (hy : y ∈ G) (hn : (G.map (·.n)).Nodup) (hK : K (.tuple #[k2v .i64 y.a y.b, y.v]) h ns) : RawG P o [.pointer (some ⟨it, 0, none⟩)] h ns K := by
  refine .mk (fun c e => by rw [ho] at e; cases e) fun c f t act w ρ H hA => ?_
  rw [ho] at hA
  obtain ⟨m', e, hmm⟩ := AR.one_inv hA
  simp only [Op.operands, List.map_toArray, List.map_cons, List.map_nil] at e
  have ex : ρ x = m' := by simpa using e
  cases hmm with
  | ptr hn0 =>
    rename_i bi
    obtain ⟨o', _, h2, h3⟩ := H.sees it _ hl bi hn0
    cases h3 with
    | iter _ _ _ hnm =>
      rename_i b0
      obtain ⟨G', h1, hE, hs⟩ := H.mapAt hm hnm
      obtain ⟨j, hj⟩ := List.getElem?_of_mem hy
      have hlt : j < G'.length := by rw [hs.1]; exact (List.getElem?_eq_some_iff.1 hj).1
      obtain ⟨e1, e2, e3, e4⟩ := hs.2 j y G'[j] hj (List.getElem?_eq_getElem hlt)
      have hb : G'.map (·.n) = G.map (·.n) := by
        apply List.ext_getElem?
        intro k
        by_cases hk : k < G.length
        · have hk' : k < G'.length := by rw [hs.1]; exact hk
          obtain ⟨_, _, e3, _⟩ := hs.2 k G[k] G'[k] (List.getElem?_eq_getElem hk) (List.getElem?_eq_getElem hk')
          simp [hk, hk', e3]
        · rw [List.getElem?_eq_none (by simp; rw [hs.1]; omega), List.getElem?_eq_none (by simp; omega)]
      have hrun := run_entry_at (P := P) w bi b0 ck seen ⟨encR G'⟩ ck (G'[j]).e (by show w.heap[bi]? = some (.mapIter (some b0) ck (seen.push G'[j].n) ck); rw [e3]; exact h2) h1 (List.mem_map.2 ⟨_, List.getElem_mem hlt, rfl⟩) (by
        have : (encR G').map (·.born) = G'.map (·.n) := by simp [encR, RE.e, Function.comp_def]
        rw [this, hb]; exact hn)
      refine ⟨.value (.tuple #[k2v .i64 G'[j].a G'[j].b, G'[j].v]), _, _, h, ns, f, w, ?_, Or.inl rfl, ?_, H, hK⟩
      · unfold execOp
        rw [ho]
        simp only [ex]
        exact exec_v0 hrun
      · rw [e1, e2]
        exact ((AR.one (clean_VR f rfl)).push e4).tuple
end
end Go.Proofs.YtkcmhcgmiflgbaaDoor
namespace Go.Proofs.YtkcmhcgmiflgbaaDoor
open Go
/-- a variable of the program reads so, and may be looked at -/
abbrev GlobX (o : Obj) : World → (Nat → Prop) → (Nat → Prop) → Prop := fun w U _ => w.heap[0]? = some o ∧ U 0
theorem CtV.of_body {P : Program} {tt : List (Nat × TK)} (hT : TKok P tt) (hm : P.follows .mixedOrders = true) {k : Nat} {fn : Func} {code : Code} (hf : P.funcs[k]? = some fn) (hb : fn.body = some code)
    {C : List Value} {ct : TypeId} {cz : Nat × Nat} (hC : cleanL C = true) {R : Option ARes} {as : List AV} {Q : List AV → Option ARes → Prop} (hn : as.length + 1 ≤ fn.ntmps)
    (H : ∀ (w : World) (b : Nat) (F : Nat → Prop), RecvR w R b F → ∃ f hb, UnpR w R b F f hb ∧
      bindR as ((0, .ro (.cells ⟨C⟩ ct cz)) :: hb) argN fun l h ns => nonE ns (startG (recvG R 500 l) fun t => wpG P fn.ntmps 1 1000 tt code (retG tt fn.results.toList fun v h' _ => Fin R Q h' v) ⟨t, h, sup⟩)) : CtX (GlobX (.cells ⟨C⟩ ct cz)) P k R as Q := by
  intro w U F b vs' ⟨hX, hU0⟩ hrec hFU hargs
  obtain ⟨f0, hb0, hun, hbind⟩ := H w b F hrec
  have f0nm : ∀ n q, f0 n = some q → 500 ≤ n ∧ n < 600 ∧ q < w.heap.size ∧ F q := by
    cases R with
    | none => obtain ⟨rfl, _⟩ := hun; intro n q h; cases h
    | some R => exact hun.nm
  have f0ow : ∀ q n, f0.ow q = some n → 500 ≤ n ∧ n < 600 ∧ F q := by
    cases R with
    | none => obtain ⟨rfl, _⟩ := hun; intro n q h; cases h
    | some R => exact hun.ow1
  have f0ow2 : ∀ q, F q → ∃ n, f0.ow q = some n := by
    cases R with
    | none => intro q hq; exact absurd hq (hrec q)
    | some R => exact hun.ow2
  have f0sees : Sees f0 hb0 w := by
    cases R with
    | none => obtain ⟨_, rfl⟩ := hun; intro n g h; cases h
    | some R => exact hun.sees
  have hFlt : ∀ q, F q → q < w.heap.size := by
    cases R with
    | none => intro q hq; exact absurd hq (hrec q)
    | some R => exact hrec.2.2
  have hF0 : ¬ F 0 := fun h => hFU 0 h hU0
  have h0lt : 0 < w.heap.size := (Array.getElem?_eq_some_iff.1 hX).1
  have f00 : f0 0 = none := by
    cases e : f0 0 with
    | none => rfl
    | some q => have := (f0nm 0 q e).1; omega
  obtain ⟨f1, hf1⟩ : ∃ f1, f1 = nmap f0 0 0 := ⟨_, rfl⟩
  have hle01 : NM.le f0 f1 := by rw [hf1]; exact nmap_le f00
  have f1ow : f1.ow = f0.ow := by rw [hf1]; rfl
  have f1nm : ∀ n q, f1 n = some q → (n = 0 ∧ q = 0) ∨ (500 ≤ n ∧ n < 600 ∧ q < w.heap.size ∧ F q) := by
    intro n q h
    rw [hf1, nmap_m] at h
    split at h
    · rename_i e; cases h; exact Or.inl ⟨e, rfl⟩
    · exact Or.inr (f0nm n q h)
  have f10 : f1 0 = some 0 := by rw [hf1, nmap_m, if_pos rfl]
  have f1lt : ∀ n q, f1 n = some q → q < w.heap.size := fun n q h => by
    rcases f1nm n q h with ⟨_, rfl⟩ | h
    · exact h0lt
    · exact h.2.2.1
  have how0 : f0.ow 0 = none := by
    cases e : f0.ow 0 with
    | none => rfl
    | some n => exact absurd (f0ow 0 n e).2.2 hF0
  obtain ⟨hb1, hhb1⟩ : ∃ hb1, hb1 = (0, GO.ro (.cells ⟨C⟩ ct cz)) :: hb0 := ⟨_, rfl⟩
  rw [← hhb1] at hbind
  have f1sees : Sees f1 hb1 w := by
    intro n g hg
    rw [hhb1, look_cons] at hg
    split at hg
    · rename_i e; subst e; cases hg
      intro q hq
      rw [f10] at hq; cases hq
      exact ⟨_, by rw [f1ow]; exact how0, hX, .cells _ _ (cleanA f1 hC)⟩
    · rename_i e
      exact (f0sees n g hg).up hle01 (by rw [hf1, nmap_m, if_neg (fun h => e h.symm)]) (fun _ _ h => by rw [f1ow]; exact h) (fun _ _ h => by rw [f1ow]; exact h)
  rw [← f1ow] at f0ow f0ow2
  have hBd : Bd f1 argN U w F (fun _ => none) 0 f1 hb1 argN := by
    refine { le := NM.le.refl _, lt := f1lt, sees := f1sees, owx := fun q n h => ⟨Or.inl h, hFlt q (f0ow q n h).2.2⟩, kp := fun _ _ h => h, ol := ?_, new := fun n q h => Or.inl ⟨n, h⟩, free := fun _ h _ => h, pend := fun q j h => (by cases h), rest := ?_, mo := fun n q j _ h => (by cases h), top := ?_, asc := (by decide), low := fun x hx => hx }
    · intro q n h x hx
      have := (f0ow q n h).2.1
      have : ∀ x ∈ argN, 600 ≤ x := by decide
      have := this x hx
      omega
    · intro q h1 h2 _
      cases e : f1.ow q with
      | none => rfl
      | some n => exact absurd (f0ow q n e).2.2 h2
    · intro x hx m hm
      have : ∀ x ∈ argN, 600 ≤ x := by decide
      have := this x hx
      cases e : f1 m with
      | none => rfl
      | some q => rcases f1nm m q e with ⟨h1, _⟩ | h1 <;> omega
  have hres : ResR w (fun k => (False ∨ U k) ∧ ¬ F k ∧ (none : Option Nat) = none) (fun _ => none) 0 as vs' := by
    have : ∀ (i : Nat) (as : List AV) (vs' : List Value), All2 (AVR w U fun _ => False) as vs' → ResR w (fun k => (False ∨ U k) ∧ ¬ F k ∧ (none : Option Nat) = none) (fun _ => none) i as vs' := by
      intro i as vs' h
      induction h generalizing i with
      | nil => trivial
      | cons h1 _ ih =>
        refine ⟨?_, ih (i + 1)⟩
        rename_i a v _ _ _
        cases a with
        | v x => exact h1
        | rows L n =>
          obtain ⟨A, c, e, hn, hA⟩ := h1
          refine ⟨A, c, e, hn, ?_⟩
          rcases hA with hA | ⟨q, off, cs, t, fz, a1, a2, a3⟩
          · exact Or.inl hA
          · exact Or.inr ⟨q, off, cs, t, fz, a1, ⟨Or.inr a2, fun h => hFU q h a2, rfl⟩, a3⟩
        | obj R => obtain ⟨q, _, _, h2, _⟩ := h1; exact h2.elim
        | own C n c e =>
          obtain ⟨A, e1, h1⟩ := h1
          refine ⟨A, e1, ?_⟩
          rcases h1 with h1 | ⟨q, _, h2, _⟩
          · exact Or.inl h1
          · exact h2.elim
    exact this 0 as vs' hargs
  obtain ⟨l, f, h, ns, i', hB, hle, hgo, hAR⟩ := bindR_ok (V := U) (U := fun _ => False) (fun _ h => h.elim) (fun q n h hu => hFU q (f0ow q n h).2.2 hu) (fun q j h => by cases h) as vs' 0 f1 hb1 argN _ hBd hres hbind
  have hns : ∃ x r, ns = x :: r := by
    cases ns with
    | nil => exact hgo.elim
    | cons x r => exact ⟨x, r, rfl⟩
  obtain ⟨x0, r0, rfl⟩ := hns
  have hx0 : x0 ≤ 999 := by
    have h1 := hB.low x0 (by simp)
    have : ∀ x ∈ argN, x ≤ 999 := by decide
    exact this x0 h1
  have hbef : Before 1 f h sup w := by
    refine ⟨hB.lt, fun g hg => (show g = 0 by omega) ▸ hB.le _ _ f10, fun x hx m hm => hB.top x0 (by simp) m ?_, sup_asc, hB.sees, fun q n hq => (hB.owx q n hq).2, fun q n hq x hx => ?_⟩
    · have := sup_low x hx; omega
    · have := sup_low x hx
      have := hB.ol q n hq x0 (by simp)
      omega
  have hargsV : AR f ⟨recvG R 500 l⟩ ⟨recvV R b vs'⟩ := by
    cases R with
    | none => exact hAR
    | some R =>
      have := (AR.one (ARes.val_VR R (hB.le _ _ (hle01 _ _ hun.at_)))).append hAR
      simpa [recvG, recvV] using this
  have hlen : (recvG R 500 l).length ≤ fn.ntmps := by
    have h1 := args_len hAR
    have h2 : as.length = vs'.length := hargs.length
    cases R <;> simp [recvG] <;> omega
  have hspec : Spec P 1 k (recvG R 500 l) h sup fun v h' _ => Fin R Q h' v := Spec.of_body hT hm hf hb hlen hgo
  refine (hspec f w _ hbef hargsV).mono ?_
  rintro e w' ⟨v, v', h', ns', g, rfl, hfin, hA⟩
  obtain ⟨rs, R', l', N, rfl, hout, hpack, hQ⟩ := hfin
  obtain ⟨us', rfl, hus⟩ := packV_inv hA.val (fun _ _ => trivial)
  have fow : ∀ q n, f.ow q = some n → f1.ow q = some n ∨ U q := fun q n h => (hB.owx q n h).1
  have fow' : ∀ q n, f.ow q = some n → f1.ow q = some n := by
    intro q n h
    rcases fow q n h with h1 | h1
    · exact h1
    · cases e : f1.ow q with
      | some m =>
        have := hB.kp q m e
        rw [h] at this; cases this; rfl
      | none =>
        have hnF : ¬ F q := fun hF => hFU q hF h1
        rw [hB.rest q h1 hnF rfl] at h; cases h
  have hf600 : ∀ q n, f.ow q = some n → n < 600 := fun q n h => (f0ow q n (fow' q n h)).2.1
  have hown : ∀ q n, g.ow q = some n → (∃ n0, f.ow q = some n0 ∧ n ≤ n0) ∨ w.heap.size ≤ q := fun q n h => (hA.owx q n h).1
  have hnew : ∀ n q, g n = some q → g.ow q = none → U q ∨ w.heap.size ≤ q := by
    intro n q h1 h2
    rcases hA.new n q h1 with ⟨m, h3⟩ | h3
    · rcases hB.new m q h3 with ⟨m2, h4⟩ | h4
      · rcases f1nm m2 q h4 with ⟨_, rfl⟩ | h5
        · exact Or.inl hU0
        have hF := h5.2.2.2
        obtain ⟨n2, h5⟩ := f0ow2 q hF
        obtain ⟨n3, e3, _⟩ := hA.kp q n2 (hB.kp q n2 h5)
        rw [e3] at h2; cases h2
      · exact Or.inl h4
    · exact Or.inr h3
  let F' : Nat → Prop := fun q => ∃ n, memL n N = true ∧ g.ow q = some n
  have hF'own : ∀ q, F' q → F q ∨ w.heap.size ≤ q := by
    rintro q ⟨n, _, h2⟩
    rcases hown q n h2 with ⟨n0, h3, _⟩ | h3
    · exact Or.inl (f0ow q n0 (fow' q n0 h3)).2.2
    · exact Or.inr h3
  have hrec' : RecvR w' R' b F' := by
    cases R with
    | none =>
      cases R' with
      | none => intro q hq; obtain ⟨n, h1, _⟩ := hq; rw [show N = [] from hpack] at h1; cases h1
      | some R' => exact hpack.elim
    | some R =>
      cases R' with
      | none => exact hpack.elim
      | some R' =>
        have hb : g 500 = some b := hA.le _ _ (hB.le _ _ (hle01 _ _ hun.at_))
        exact ⟨hpack g w' b hA.sees hb, hA.lt _ _ hb, fun q hq => by obtain ⟨n, _, h2⟩ := hq; exact (hA.owx q n h2).2⟩
  have hsome : R'.isSome = R.isSome := by
    cases R <;> cases R' <;> first | rfl | exact hpack.elim
  have hfar : ∀ q, q < w.heap.size → ¬ F q → w'.heap[q]? = w.heap[q]? := by
    intro q hq hn
    refine hA.far q hq ?_
    cases e : f.ow q with
    | none => rfl
    | some n => exact absurd (f0ow q n (fow' q n e)).2.2 hn
  cases hout with
  | plain hall =>
    refine ⟨rs, R', fun _ => none, F', us', hQ, hsome, rfl, hrec', ?_, ⟨hF'own, fun q j h => (by cases h), hfar, hA.grow, hA.os, hA.tape, hA.out, hA.dr⟩⟩
    exact all_read (N := N) (No := []) (O := fun _ => none) hA.sees hown hf600 hnew (fun _ _ => rfl) (fun n h => by cases h) (fun q h => h) 0 hall hus
  | obj No hN hpk hall =>
    rename_i nm l R2 rs
    obtain ⟨x', l2, e, hx, hl⟩ := AR.cons (x' := undef) hus
    cases e
    cases hx with
    | ptr hnm =>
      rename_i bo
      have hmem := newN_mem hN
      open Classical in
      let O : Nat → Option Nat := fun q => if ∃ n, memL n No = true ∧ g.ow q = some n then some 0 else none
      have hOs : ∀ q j, O q = some j → (∃ n, memL n No = true ∧ g.ow q = some n) ∧ j = 0 := by
        intro q j h
        simp only [O] at h
        split at h
        · cases h; exact ⟨by assumption, rfl⟩
        · cases h
      have hOeq : (fun q => O q = some 0) = fun q => ∃ n, memL n No = true ∧ g.ow q = some n := by
        funext q
        simp only [O]
        apply propext
        constructor
        · intro h
          split at h
          · assumption
          · cases h
        · intro h; rw [if_pos h]
      have hR2 := hpk g w' bo hA.sees hnm
      refine ⟨.obj R2 :: rs, R', O, F', .pointer (some ⟨bo, 0, none⟩) :: l2, hQ, hsome, rfl, hrec', ⟨⟨bo, rfl, hA.lt _ _ hnm, ?_, ?_⟩, ?_⟩, ⟨hF'own, ?_, hfar, hA.grow, hA.os, hA.tape, hA.out, hA.dr⟩⟩
      · have := R2.own _ _ _ hR2
        show O bo = some 0
        simp only [O]; rw [if_pos this]
      · rw [hOeq]; exact hR2
      · have := all_read (N := No ++ N) (U := U) (F := F') (No := No) (O := O) hA.sees hown hf600 hnew (fun q hq => by
          simp only [O]
          rw [if_neg]
          rintro ⟨n, h1, h2⟩
          rw [hq n h2] at h1; cases h1) (fun n h => by rw [memL_append, h]; rfl) (fun q h => by
          obtain ⟨n, h1, h2⟩ := h
          exact ⟨n, by rw [memL_append, h1]; simp, h2⟩) 1 hall hl
        exact this
      · intro q j h
        obtain ⟨⟨n, h1, h2⟩, _⟩ := hOs q j h
        obtain ⟨h3, h4⟩ := hmem n h1
        refine ⟨?_, ?_, (hA.owx q n h2).2⟩
        · rcases hown q n h2 with ⟨n0, h5, _⟩ | h5
          · have := hf600 q n0 h5; omega
          · exact h5
        · rintro ⟨n', h5, h6⟩
          rw [h2] at h6; cases h6
          rw [h4] at h5; cases h5
  | own hN hlk hC hall =>
    rename_i nm l C n c ty rs
    obtain ⟨x', l2, e, hx, hl⟩ := AR.cons (x' := undef) hus
    cases e
    cases hx with
    | sliceZ =>
      refine ⟨.own C 0 0 ty :: rs, R', fun _ => none, F', _ :: l2, hQ, hsome, rfl, hrec', ⟨⟨_, rfl, Or.inl ⟨rfl, rfl⟩⟩, ?_⟩, ⟨hF'own, fun q j h => (by cases h), hfar, hA.grow, hA.os, hA.tape, hA.out, hA.dr⟩⟩
      exact all_read (N := [nm] ++ N) (No := []) (O := fun _ => none) hA.sees hown hf600 hnew (fun _ _ => rfl) (fun n h => by cases h) (fun q h => by obtain ⟨n, h1, h2⟩ := h; exact ⟨n, by rw [memL_append, h1]; simp, h2⟩) 1 hall hl
    | slice hnm =>
      rename_i bo
      have hmem := newN_mem hN
      open Classical in
      let O : Nat → Option Nat := fun q => if ∃ n, memL n [nm] = true ∧ g.ow q = some n then some 0 else none
      have hOs : ∀ q j, O q = some j → (∃ n, memL n [nm] = true ∧ g.ow q = some n) ∧ j = 0 := by
        intro q j h
        simp only [O] at h
        split at h
        · cases h; exact ⟨by assumption, rfl⟩
        · cases h
      obtain ⟨o', k1, k2, k3⟩ := hA.sees _ _ hlk _ hnm
      have hOb : O bo = some 0 := by
        simp only [O]; rw [if_pos ⟨_, by simp [memL], k1⟩]
      refine ⟨.own C n c ty :: rs, R', O, F', .slice (some ⟨bo, 0, none⟩) n c :: l2, hQ, hsome, rfl, hrec', ⟨⟨_, rfl, Or.inr ⟨bo, rfl, hOb, ?_, hC⟩⟩, ?_⟩, ⟨hF'own, ?_, hfar, hA.grow, hA.os, hA.tape, hA.out, hA.dr⟩⟩
      · cases k3 with
        | cells _ _ ha => rw [k2, cleanL_eq hC ha]
      · have := all_read (N := [nm] ++ N) (U := U) (F := F') (No := [nm]) (O := O) hA.sees hown hf600 hnew (fun q hq => by
          simp only [O]
          rw [if_neg]
          rintro ⟨n, h1, h2⟩
          rw [hq n h2] at h1; cases h1) (fun n h => by rw [memL_append, h]; rfl) (fun q h => by
          obtain ⟨n, h1, h2⟩ := h
          exact ⟨n, by rw [memL_append, h1]; simp, h2⟩) 1 hall hl
        exact this
      · intro q j h
        obtain ⟨⟨n, h1, h2⟩, _⟩ := hOs q j h
        obtain ⟨h3, h4⟩ := hmem n h1
        refine ⟨?_, ?_, (hA.owx q n h2).2⟩
        · rcases hown q n h2 with ⟨n0, h5, _⟩ | h5
          · have := hf600 q n0 h5; omega
          · exact h5
        · rintro ⟨n', h5, h6⟩
          rw [h2] at h6; cases h6
          rw [h4] at h5; cases h5
  | ownN hall =>
    rename_i l C ty rs
    obtain ⟨x', l2, e, hx, hl⟩ := AR.cons (x' := undef) hus
    cases e
    cases hx
    refine ⟨.own C 0 0 ty :: rs, R', fun _ => none, F', _ :: l2, hQ, hsome, rfl, hrec', ⟨⟨_, rfl, Or.inl ⟨rfl, rfl⟩⟩, ?_⟩, ⟨hF'own, fun q j h => (by cases h), hfar, hA.grow, hA.os, hA.tape, hA.out, hA.dr⟩⟩
    exact all_read (N := N) (No := []) (O := fun _ => none) hA.sees hown hf600 hnew (fun _ _ => rfl) (fun n h => by cases h) (fun q h => h) 1 hall hl
theorem CallG.methV {P : Program} {k : Nat} {C : List Value} {ct : TypeId} {cz : Nat × Nat} {R : ARes} {as : List AV} {Q : List AV → Option ARes → Prop} (s : CtX (GlobX (.cells ⟨C⟩ ct cz)) P k (some R) as Q) (hp : Plain P k) (hC : cleanL C = true) (W : Bool) {h : List (Nat × GO)} {ns : List Nat} {gs : List Value} {nm : Nat}
    {K : Value → List (Nat × GO) → List Nat → Prop} (h0 : look h 0 = some (.ro (.cells ⟨C⟩ ct cz))) (hr : look h nm = some (.abs R)) (hs : R.sh = none) (ha : All2 (GA W h) gs as)
    (hK : ∀ rs R', Q rs (some R') → (W = true → Go.Proofs.YtkcmhcgmiflgbaaDoor.noRows rs = true) ∧ bindR rs ((nm, .abs R') :: h) ns fun l h ns => K (packV l) h ns) : CallG P 1 k (.pointer (some ⟨nm, 0, none⟩) :: gs) h ns K := by
  have hval : R.val nm = .pointer (some ⟨nm, 0, none⟩) := by unfold ARes.val; rw [hs]
  rw [← hval]
  refine CallG.ctX (R := some R) (nm := nm) s hp W (fun f w U F hB hU hF => ?_) ⟨hr, by rw [hs]; intro e; cases e⟩ ha fun rs R' h1 h2 => ?_
  · have hf0 := hB.glob 0 (by omega)
    obtain ⟨o', k1, k2, k3⟩ := hB.sees 0 _ h0 0 hf0
    refine ⟨?_, hU 0 k1 ⟨0, hf0⟩⟩
    cases k3 with
    | cells _ _ ha2 => rw [k2, cleanL_eq hC ha2]
  · cases R' with
    | none => cases h1
    | some R' => exact hK rs R' h2
/-- nothing is handed on: a contract where the world is such -/
theorem CallG.fnV {P : Program} {k : Nat} {C : List Value} {ct : TypeId} {cz : Nat × Nat} {as : List AV} {Q : List AV → Option ARes → Prop} (s : CtX (GlobX (.cells ⟨C⟩ ct cz)) P k none as Q) (hp : Plain P k) (hC : cleanL C = true) (W : Bool) {h : List (Nat × GO)} {ns : List Nat} {gs : List Value}
    {K : Value → List (Nat × GO) → List Nat → Prop} (h0 : look h 0 = some (.ro (.cells ⟨C⟩ ct cz))) (ha : All2 (GA W h) gs as)
    (hK : ∀ rs, Q rs none → (W = true → Go.Proofs.YtkcmhcgmiflgbaaDoor.noRows rs = true) ∧ bindR rs h ns fun l h ns => K (packV l) h ns) : CallG P 1 k gs h ns K := by
  refine CallG.ctX (R := none) (nm := 0) s hp W (fun f w U F hB hU hF => ?_) trivial ha fun rs R' h1 h2 => ?_
  · have hf0 := hB.glob 0 (by omega)
    obtain ⟨o', k1, k2, k3⟩ := hB.sees 0 _ h0 0 hf0
    refine ⟨?_, hU 0 k1 ⟨0, hf0⟩⟩
    cases k3 with
    | cells _ _ ha2 => rw [k2, cleanL_eq hC ha2]
  · cases R' with
    | none => exact hK rs h2
    | some R' => cases h1
end Go.Proofs.YtkcmhcgmiflgbaaDoor

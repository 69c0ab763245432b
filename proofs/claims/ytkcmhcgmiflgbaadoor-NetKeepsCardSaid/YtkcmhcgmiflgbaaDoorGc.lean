/- Runs over a small memory with names: operations that make or write memory. -/
import Derived.Test.YtkcmhcgmiflgbaaDoorGb
import Derived.MapKept
import Derived.Laws.MakeOwn
import Derived.Laws.Build
namespace Go.Proofs.YtkcmhcgmiflgbaaDoor
open Go
section ops
variable {P : Program} {tt : List (Nat × TK)} (hT : TKok P tt) {f : NM}

def boxAcc (e : Nat) : Value → Acc
  | .agg ⟨l⟩ => .new (.cells ⟨l⟩ e) fun n => .pointer (some ⟨n, 0, none⟩)
  | .int k n => .new (.cells ⟨[.int k n]⟩ e) fun n => .pointer (some ⟨n, 0, none⟩)
  | .bool b => .new (.cells ⟨[.bool b]⟩ e) fun n => .pointer (some ⟨n, 0, none⟩)
  | .pointer a => .new (.cells ⟨[.pointer a]⟩ e) fun n => .pointer (some ⟨n, 0, none⟩)
  | .slice a l c => .new (.cells ⟨[.slice a l c]⟩ e) fun n => .pointer (some ⟨n, 0, none⟩)
  | .map r => .new (.cells ⟨[.map r]⟩ e) fun n => .pointer (some ⟨n, 0, none⟩)
  | .func (.func k) x y => .new (.cells ⟨[.func (.func k) x y]⟩ e) fun n => .pointer (some ⟨n, 0, none⟩)
  | .func (.method s) x y => .need False (.val (.func (.method s) x y))
  | .chan r => .need False (.val (.chan r))
  | v => .new (.cells ⟨[v]⟩ e) fun n => .pointer (some ⟨n, 0, none⟩)
theorem boxAcc_eq (e : Nat) (v : Value) (h : noHole v = true) : boxAcc e v = .new (.cells v.cells e) fun n => .pointer (some ⟨n, 0, none⟩) := by
  cases v with
  | agg c => rfl
  | chan r => cases h
  | func fn x y => cases fn <;> first | rfl | (cases h)
  | _ => rfl
theorem boxAcc_ok {e : Nat} {v v' : Value} (hv : VR f v v') : VOk P f (Instr.box e v') (boxAcc e v) := by
  cases hn : noHole v with
  | false =>
    cases v with
    | chan r => exact fun h => h.elim
    | func fn x y => cases fn <;> first | exact fun h => h.elim | (cases hn)
    | _ => cases hn
  | true =>
    rw [boxAcc_eq e v hn]
    refine ⟨.cells v'.cells e (0, 0), .cells _ _ (hv.cells hn), fun w => ⟨_, rfl, fun n g _ hg => .ptr hg⟩⟩
theorem clean_noHole {v : Value} (h : clean v = true) : noHole v = true := by
  cases v with
  | func fn x y => cases fn <;> first | rfl | (simp [clean, cleanE, clean1] at h)
  | chan r => simp [clean, cleanE, clean1] at h
  | _ => rfl
def allocAcc (i : TK) (e : Nat) : Option Acc := match clean i.zero with
  | true => some (boxAcc e i.zero)
  | false => none
include hT in
theorem allocAcc_ok {e : Nat} {i : TK} (hi : look tt e = some i) {acc : Acc} (h : allocAcc i e = some acc) : VOk P f (Instr.alloc e true (.tuple #[])) acc := by
  unfold allocAcc at h
  split at h
  · rename_i hc
    cases h
    rw [boxAcc_eq _ _ (clean_noHole hc)]
    refine ⟨.cells i.zero.cells e (0, 0), .cells _ _ ((clean_VR f hc).cells (clean_noHole hc)), fun w => ⟨_, ?_, fun n g _ hg => .ptr hg⟩⟩
    simp only [Instr.alloc, Sem.run_bind, tk_zero hT hi, Result.andThen_ok, newVar, newRow, run_newObj, Sem.run_pure]
    rfl
  · cases h

/-! structs and arrays built of parts -/
def placesOk (tt : List (Nat × TK)) : List Field → Bool
  | [] => true
  | ⟨_, ty, _, _, _, _, _⟩ :: r => match look tt ty with
    | some _ => placesOk tt r
    | none => false
def placeS (tt : List (Nat × TK)) (fs : List Field) (i : Nat) : Option (Nat × Nat) := match fs[i]? with
  | some ⟨_, ty, o, _, _, _, _⟩ => match look tt ty with
    | some j => some (o, j.size)
    | none => none
  | none => none
def fillL (place : Nat → Option (Nat × Nat)) (cells : List Value) : List (Nat × Value) → Option (List Value)
  | [] => some cells
  | (i, v) :: r => match place i with
    | some (off, size) => match Nat.beq (cellsL v).length size && noHole v with
      | true => match blitL off (cellsL v) cells with
        | some c => fillL place c r
        | none => none
      | false => none
    | none => none
theorem foldl_blitA (off : Nat) : ∀ (l : List Value) (k : Nat) (c : Array Value), (l.zipIdx k).foldl (fun cs (p : Value × Nat) => cs.setIfInBounds (off + p.2) p.1) c = blitA c (off + k) l := by
  intro l
  induction l with
  | nil => intro k c; rfl
  | cons x l ih => intro k c; simp only [List.zipIdx_cons, List.foldl_cons, blitA]; rw [ih]; rfl
def PR (f : NM) (x x' : List (Nat × Value)) : Prop := All2 (fun a b => a.1 = b.1 ∧ VR f a.2 b.2) x x'
theorem fill_ok {place : Nat → Option (Nat × Nat)} : ∀ {ps ps' : List (Nat × Value)} {c r : List Value} {c' : Array Value}, PR f ps ps' → AR f ⟨c⟩ c' → fillL place c ps = some r →
    ∃ r', Instr.fill place c' ps' = some r' ∧ AR f ⟨r⟩ r' := by
  intro ps
  induction ps with
  | nil => intro ps' c r c' hp hc h; cases hp; simp [fillL] at h; subst h; exact ⟨c', rfl, hc⟩
  | cons p ps ih =>
    intro ps' c r c' hp hc h
    cases hp with
    | cons h1 h2 =>
      rename_i p' ps''
      obtain ⟨i, v⟩ := p
      obtain ⟨i', v'⟩ := p'
      obtain ⟨rfl, hv0⟩ := h1
      have hv : VR f v v' := hv0
      simp only [fillL] at h
      split at h
      · rename_i off size e0
        split at h
        · rename_i e1
          split at h
          · rename_i c2 e2
            simp only [Bool.and_eq_true] at e1
            have hcs := hv.cells e1.2
            have e3 := Nat.eq_of_beq_eq_true e1.1
            obtain ⟨b1, b2⟩ := blit_AR hc (vs := cellsL v) (vs' := v'.cells.toList) (by have e6 : (cellsL v).toArray = v.cells := (cellsL_eq v).symm; rw [e6]; simpa using hcs) (o := off) (r := c2) (by simpa using e2)
            obtain ⟨r', g1, g2⟩ := ih h2 b2 h
            refine ⟨r', ?_, g2⟩
            have hsz : v'.cells.size = size := by have := hcs.1; rw [cellsL_eq] at this; simp at this; omega
            simp only [Instr.fill, e0]
            have : ¬ (v'.cells.size ≠ size || decide (off + v'.cells.size > c'.size)) = true := by
              have b1' : off + v'.cells.size ≤ c'.size := by simpa using b1
              have e5 : ((i, v).fst, v').snd.cells.size = v'.cells.size := rfl
              simp only [hsz, ne_eq, not_true_eq_false, decide_false, Bool.false_or, decide_eq_true_eq]
              omega
            rw [if_neg this]
            have e4 : Array.foldl (fun cs (x : Value × Nat) => cs.setIfInBounds (off + x.2) x.1) c' v'.cells.zipIdx = blitA c' off v'.cells.toList := by
              rw [← Array.foldl_toList, Array.toList_zipIdx]
              exact foldl_blitA off _ 0 c'
            exact (congrArg (fun z => Instr.fill place z ps'') e4).trans g1
          · cases h
        · cases h
      · cases h
def buildAcc (tt : List (Nat × TK)) (i : TK) (ps : List (Nat × Value)) : Option Acc := match clean i.zero with
  | true => match i.desc with
    | .struct fs => match placesOk tt fs.toList with
      | true => match fillL (placeS tt fs.toList) (cellsL i.zero) ps with
        | some r => some (.val (.agg ⟨r⟩))
        | none => none
      | false => none
    | .array _ e => match look tt e with
      | some j => match fillL (fun i => some (i * j.size, j.size)) (cellsL i.zero) ps with
        | some r => some (.val (.agg ⟨r⟩))
        | none => none
      | none => none
    | _ => none
  | false => none
include hT in
theorem run_places (w : World) : ∀ (fs : List Field), placesOk tt fs = true → ∃ l : List (Nat × Nat), (fs.mapM (m := Sem) fun fd => do pure (fd.offset, ← sizeOf fd.type)).run P w = .ok l w ∧ ∀ k, l[k]? = placeS tt fs k := by
  intro fs
  induction fs with
  | nil => intro _; exact ⟨[], by simp, fun k => by simp [placeS]⟩
  | cons g fs ih =>
    intro h
    obtain ⟨nm, ty, o, em, tg, pk, bo⟩ := g
    simp only [placesOk] at h
    split at h
    · rename_i j hj
      obtain ⟨l, h1, h2⟩ := ih h
      refine ⟨(o, j.size) :: l, ?_, fun k => ?_⟩
      · rw [List.mapM_cons]
        simp only [Sem.run_bind, tk_size hT hj, Result.andThen_ok, Sem.run_pure, h1]
      · cases k with
        | zero => simp [placeS, hj]
        | succ k => have := h2 k; simpa [placeS] using this
    · cases h
include hT in
theorem buildAcc_ok {t : Nat} {i : TK} (hi : look tt t = some i) {ps ps' : List (Nat × Value)} {acc : Acc} (hp : PR f ps ps') (h : buildAcc tt i ps = some acc) : VOk P f (Instr.build t ps'.toArray) acc := by
  unfold buildAcc at h
  split at h
  · rename_i hc
    have hz : AR f ⟨cellsL i.zero⟩ i.zero.cells := by rw [← cellsL_eq]; exact (clean_VR f hc).cells (clean_noHole hc)
    split at h
    · rename_i fs hd
      split at h
      · rename_i hpl
        split at h
        · rename_i r hr
          cases h
          have key : ∀ w, ∃ l : Array (Nat × Nat), (fs.mapM (m := Sem) fun fd => do pure (fd.offset, ← sizeOf fd.type)).run P w = .ok l w ∧ ∀ k, l[k]? = placeS tt fs.toList k := by
            intro w
            obtain ⟨l, h1, h2⟩ := run_places hT w fs.toList hpl
            refine ⟨l.toArray, ?_, fun k => by simpa using h2 k⟩
            rw [Array.mapM_eq_mapM_toList]
            simp only [Sem.run_map, h1, Result.andThen_ok]
          obtain ⟨r', g1, g2⟩ := fill_ok (place := placeS tt fs.toList) hp (c' := i.zero.cells) hz hr
          refine ⟨.agg r', g2.agg, fun w => ?_⟩
          obtain ⟨l, k1, k2⟩ := key w
          have e : (fun k => l[k]?) = placeS tt fs.toList := funext k2
          simp only [Instr.build, Sem.run_bind, tk_zero hT hi, tk_und hT hi, Result.andThen_ok, hd]
          simp only [k1, Result.andThen_ok, e, g1, Sem.run_pure]
        · cases h
      · cases h
    · rename_i n e hd
      split at h
      · rename_i j hj
        split at h
        · rename_i r hr
          cases h
          obtain ⟨r', g1, g2⟩ := fill_ok hp (c' := i.zero.cells) hz hr
          refine ⟨.agg r', g2.agg, fun w => ?_⟩
          simp only [Instr.build, Sem.run_bind, tk_zero hT hi, tk_und hT hi, Result.andThen_ok, hd, Sem.run_pure, tk_size hT hj, g1]
        · cases h
      · cases h
    · cases h
  · cases h

def repL (n : Nat) (z : List Value) : List Value := match n with
  | 0 => []
  | n + 1 => z ++ repL n z
end ops
end Go.Proofs.YtkcmhcgmiflgbaaDoor
namespace Go.Proofs.YtkcmhcgmiflgbaaDoor
open Go
section ops
variable {P : Program} {tt : List (Nat × TK)} (hT : TKok P tt) {f : NM}

theorem repL_len (n : Nat) (z : List Value) : (repL n z).length = n * z.length := by
  induction n with
  | zero => simp [repL]
  | succ n ih => simp [repL, ih, Nat.succ_mul]; omega
theorem repL_get (z : List Value) (_ : 0 < z.length) : ∀ (n i : Nat), i < n * z.length → (repL n z)[i]? = z[i % z.length]? := by
  intro n
  induction n with
  | zero => intro i h; simp at h
  | succ n ih =>
    intro i h
    simp only [repL]
    rw [List.getElem?_append]
    by_cases e : i < z.length
    · rw [if_pos e, Nat.mod_eq_of_lt e]
    · rw [if_neg e, ih (i - z.length) (by rw [Nat.succ_mul] at h; omega)]
      congr 1
      exact (Nat.mod_eq_sub_mod (by omega)).symm
theorem range_repL (n : Nat) (z : Array Value) : (Array.range (n * z.size)).map (fun i => z[i % z.size]!) = ⟨repL n z.toList⟩ := by
  apply Array.ext_getElem?
  intro i
  by_cases h : i < n * z.size
  · have hz : 0 < z.size := by
      rcases Nat.eq_zero_or_pos z.size with h0 | h0
      · rw [h0] at h; simp at h
      · exact h0
    have := repL_get z.toList (by simpa using hz) n i (by simpa using h)
    have hm : i % z.size < z.size := Nat.mod_lt _ hz
    simp only [Array.getElem?_map, List.getElem?_toArray] at *
    rw [Array.getElem?_range, if_pos h]
    show some _ = (repL n z.toList)[i]?
    rw [this]
    simp [hm]
  · rw [Array.getElem?_eq_none (by simpa using h), Array.getElem?_eq_none (by simp [repL_len]; simpa using h)]
theorem cleanL_append {a b : List Value} (ha : cleanL a = true) (hb : cleanL b = true) : cleanL (a ++ b) = true := by
  induction a with
  | nil => exact hb
  | cons x a ih =>
    cases e : clean1 x with
    | false => simp [cleanL, e] at ha
    | true => simp [cleanL, e] at ha; simp [cleanL, e, ih ha]
theorem cleanL_rep {z : List Value} (h : cleanL z = true) (n : Nat) : cleanL (repL n z) = true := by
  induction n with
  | zero => rfl
  | succ n ih => exact cleanL_append h ih
def zeroV : Value → Option (List Value)
  | .agg ⟨l⟩ => match cleanL l with
    | true => some l
    | false => none
  | v => match clean1 v with
    | true => some [v]
    | false => none
def zeroL (i : TK) : Option (List Value) := zeroV i.zero
theorem zeroV_eq {v : Value} {z : List Value} (h : zeroV v = some z) : v.cells = ⟨z⟩ ∧ cleanL z = true := by
  have key : ∀ v : Value, (∀ c, v ≠ .agg c) → zeroV v = (match clean1 v with | true => some [v] | false => none) ∧ v.cells = ⟨[v]⟩ := by
    intro v hv
    cases v with
    | agg c => exact absurd rfl (hv c)
    | _ => exact ⟨rfl, rfl⟩
  by_cases hv : ∃ c, v = .agg c
  · obtain ⟨⟨l⟩, rfl⟩ := hv
    simp only [zeroV] at h
    split at h
    · rename_i e; cases h; exact ⟨rfl, e⟩
    · cases h
  · obtain ⟨k1, k2⟩ := key v (fun c e => hv ⟨c, e⟩)
    rw [k1] at h
    split at h
    · rename_i e; cases h; exact ⟨k2, by simp [cleanL, e]⟩
    · cases h
theorem zeroL_eq {i : TK} {z : List Value} (h : zeroL i = some z) : i.zero.cells = ⟨z⟩ ∧ cleanL z = true := zeroV_eq h
def bsAcc (tt : List (Nat × TK)) (i : TK) (n : Nat) (ps : List (Nat × Value)) : Option Acc := match i.desc with
  | .slice e => match look tt e with
    | some j => match zeroL j with
      | some z => match Nat.ble (n * j.size) 16777216 && Nat.beq z.length j.size with
        | true => match fillL (fun i => some (i * j.size, j.size)) (repL n z) ps with
          | some r => some (.new (.cells ⟨r⟩ e) fun m => .slice (some ⟨m, 0, none⟩) n n)
          | none => none
        | false => none
      | none => none
    | none => none
  | _ => none
include hT in
theorem bsAcc_ok {t : Nat} {i : TK} (hi : look tt t = some i) {n : Nat} {ps ps' : List (Nat × Value)} {acc : Acc} (hp : PR f ps ps') (h : bsAcc tt i n ps = some acc) : VOk P f (Instr.buildSlice t n ps'.toArray) acc := by
  unfold bsAcc at h
  split at h
  · rename_i e hd
    split at h
    · rename_i j hj
      split at h
      · rename_i z hz
        split at h
        · rename_i hb
          simp only [Bool.and_eq_true] at hb
          have hb1 : n * j.size ≤ 16777216 := Nat.le_of_ble_eq_true hb.1
          have hb2 : z.length = j.size := Nat.eq_of_beq_eq_true hb.2
          split at h
          · rename_i r hr
            cases h
            obtain ⟨z1, z2⟩ := zeroL_eq hz
            have hA : AR f ⟨repL n z⟩ ⟨repL n z⟩ := cleanA f (cleanL_rep z2 n)
            obtain ⟨r', g1, g2⟩ := fill_ok hp hA hr
            refine ⟨.cells r' e (0, 0), .cells _ _ g2, fun w => ⟨_, ?_, fun m g _ hg => .slice hg⟩⟩
            have hsz : j.zero.cells.size = j.size := by rw [z1]; simpa using hb2
            have e1 : (Array.range (n * j.size)).map (fun i => j.zero.cells[i % j.zero.cells.size]!) = ⟨repL n z⟩ := by
              have := range_repL n j.zero.cells
              rw [hsz] at this
              rw [hsz, this, z1]
            have hne : ¬ (n * j.size > 2 ^ 24) := by omega
            simp only [Instr.buildSlice, Sem.run_bind, tk_und hT hi, Result.andThen_ok, hd, tk_size hT hj, hne, if_false]
            by_cases h0 : n * j.size = 0
            · have e0 : (Array.range (n * j.size)).map (fun i => (#[] : Array Value)[i % (#[] : Array Value).size]!) = ⟨repL n z⟩ := by
                have hl := repL_len n z
                rw [hb2, h0] at hl
                rw [List.eq_nil_of_length_eq_zero hl, h0]
                simp
              simp only [h0, if_true]
              rw [h0] at e0
              simp only [e0, g1, Sem.run_bind, Sem.run_pure, newRow, run_newObj, Result.andThen_ok]
              rfl
            · simp only [h0, if_false, Sem.run_bind, tk_zero hT hj, Result.andThen_ok, Sem.run_pure]
              simp only [e1, g1, Sem.run_bind, Sem.run_pure, newRow, run_newObj, Result.andThen_ok]
              rfl
          · cases h
        · cases h
      · cases h
    · cases h
  · cases h
end ops
end Go.Proofs.YtkcmhcgmiflgbaaDoor
namespace Go.Proofs.YtkcmhcgmiflgbaaDoor
open Go
section ops
variable {P : Program} {tt : List (Nat × TK)} (hT : TKok P tt) {f : NM}

/-! slices that are made -/
def msAcc (tt : List (Nat × TK)) (i : TK) (l c : Value) : Option Acc := match i.desc, l, c with
  | .slice e, .int _ l, .int _ c => match look tt e with
    | some j => match zeroL j with
      | some z => match Nat.beq z.length j.size with
        | true => some (.need (0 ≤ l ∧ l ≤ c ∧ (j.bytes : Int) * c ≤ 281474976710656 ∧ c ≤ 9223372036854775807)
            (.new (.cells ⟨repL c.toNat z⟩ e) fun n => .slice (some ⟨n, 0, none⟩) l.toNat c.toNat))
        | false => none
      | none => none
    | none => none
  | _, _, _ => none
include hT in
theorem msAcc_ok {t : Nat} {i : TK} (hi : look tt t = some i) {l c l' c' : Value} {acc : Acc} (hl : VR f l l') (hc : VR f c c') (h : msAcc tt i l c = some acc) : VOk P f (Instr.makeSlice t l' c') acc := by
  unfold msAcc at h
  split at h
  · rename_i e kl nl kc nc hd
    cases hl; cases hc
    split at h
    · rename_i j hj
      split at h
      · rename_i z hz
        split at h
        · rename_i hb
          cases h
          intro hp
          obtain ⟨z1, z2⟩ := zeroL_eq hz
          obtain ⟨ju, ⟨inf, k1, k2, k3, k4⟩, _⟩ := hT e j hj
          have hsz : j.zero.cells.size = j.size := by rw [z1]; simpa using Nat.eq_of_beq_eq_true hb
          refine ⟨.cells ⟨repL nc.toNat z⟩ e (0, 0), .cells _ _ (cleanA f (cleanL_rep z2 _)), fun w => ⟨_, ?_, fun n g _ hg => .slice hg⟩⟩
          have hund := (hT t i hi).1
          rw [hd] at hund
          have hc0 : 0 ≤ nc := by omega
          have e1 := range_repL nc.toNat j.zero.cells
          have h1 := run_make (P := P) w t e inf j.zero hund k1 k4 kl kc nl nc (by omega) (by omega) (by rw [k3]; omega) (by omega)
          rw [h1]
          have e2 : madeCells j.zero.cells (nc.toNat * inf.size) = ⟨repL nc.toNat z⟩ := by
            rw [hsz] at e1
            unfold madeCells
            rw [k2, hsz, e1, z1]
          rw [e2]
        · cases h
      · cases h
    · cases h
  · cases h

def fnAcc (fn : Fn) (x y : List Value) : Option Acc := match fn with
  | .func k => some (.val (.func (.func k) ⟨x⟩ ⟨y⟩))
  | _ => none
theorem fnAcc_ok {fn : Fn} {x y : List Value} {x' y' : Array Value} {acc : Acc} (hx : AR f ⟨x⟩ x') (hy : AR f ⟨y⟩ y') (h : fnAcc fn x y = some acc) : VOk P f (Instr.makeFunc fn x' y') acc := by
  unfold fnAcc at h
  split at h
  · cases h
    exact ⟨_, .func _ hx.1 hx.2 hy.1 hy.2, fun w => rfl⟩
  · cases h
def ifAcc (i : TK) (t : Nat) (v : Value) : Option Acc := match i.desc with
  | .interface _ => none
  | _ => some (.val (.iface t v))
include hT in
theorem ifAcc_ok {t : Nat} {i : TK} (hi : look tt t = some i) {v v' : Value} {acc : Acc} (hv : VR f v v') (h : ifAcc i t v = some acc) : VOk P f (Instr.makeInterface t v') acc := by
  unfold ifAcc at h
  split at h
  · cases h
  · rename_i hn
    cases h
    refine ⟨_, .iface t hv, fun w => ?_⟩
    simp only [Instr.makeInterface, Sem.run_bind, tk_und hT hi, Result.andThen_ok]
    cases hd : i.desc <;> first | rfl | (exact absurd hd (hn _))
def exAcc (k : Nat) : Value → Option Acc
  | .tuple ⟨l⟩ => match getL l k with
    | some v => some (.val v)
    | none => none
  | _ => none
theorem exAcc_ok {k : Nat} {v v' : Value} {acc : Acc} (hv : VR f v v') (h : exAcc k v = some acc) : VOk P f (Instr.extract v' k) acc := by
  unfold exAcc at h
  split at h
  · rename_i l
    split at h
    · rename_i x hx
      cases h
      cases hv with
      | tuple a b =>
        rw [getL_eq] at hx
        obtain ⟨x', h1, h2⟩ := AR.get ⟨a, b⟩ (i := k) (by simpa using hx)
        exact ⟨x', h2, fun w => by simp [Instr.extract, h1]⟩
    · cases h
  · cases h
def nilAcc : Value → Option Acc
  | .pointer (some a) => some (.val (.pointer (some a)))
  | .func (.func k) x y => some (.val (.func (.func k) x y))
  | _ => none

/-! maps whose keys are numbers -/
def findI (k : IntKind) (a : Int) : List MapEntry → Option (Option (Nat × Value))
  | [] => some none
  | ⟨.int k' b, v, _⟩ :: es => match kindsEq k k' with
    | true => match a == b with
      | true => some (some (0, v))
      | false => match findI k a es with
        | some (some (i, v)) => some (some (i + 1, v))
        | some none => some none
        | none => none
    | false => none
  | _ => none
theorem findI_ok {k kk : IntKind} {a : Int} : ∀ {es es' : List MapEntry} {r : Option (Nat × Value)} (n : Nat), ES f ⟨es⟩ ⟨es'⟩ → findI k a es = some r →
    (r = none ∧ Instr.findNow (.int kk) (.int k a) es' n = some none) ∨
    ∃ i v v', r = some (i, v) ∧ VR f v v' ∧ Instr.findNow (.int kk) (.int k a) es' n = some (some (n + i, v')) ∧ (∃ e', es'[i]? = some e' ∧ e'.key = .int k a) := by
  intro es
  induction es with
  | nil =>
    intro es' r n hE h
    have : es' = [] := by have := hE.1; exact List.eq_nil_of_length_eq_zero (by simpa using this.symm)
    subst this
    simp [findI] at h
    exact Or.inl ⟨h.symm, rfl⟩
  | cons e es ih =>
    intro es' r n hE h
    cases es' with
    | nil => have := hE.1; simp at this
    | cons e' es' =>
      have h0 := hE.2 0 e e' (by simp) (by simp)
      have hE' : ES f ⟨es⟩ ⟨es'⟩ := ⟨by have := hE.1; simpa using this, fun i a b ha hb => hE.2 (i + 1) a b (by simpa using ha) (by simpa using hb)⟩
      obtain ⟨ky, vl, bn⟩ := e
      obtain ⟨ky', vl', bn'⟩ := e'
      obtain ⟨g1, g2, g3⟩ := h0
      cases ky <;> simp only [findI] at h <;> try (cases h; done)
      rename_i k' b
      simp only at g1
      cases g1
      split at h
      · rename_i hk
        simp only [kindsEq, decide_eq_true_eq] at hk
        subst hk
        split at h
        · rename_i he
          cases h
          right
          refine ⟨0, vl, vl', rfl, g2, ?_, ⟨_, rfl, ?_⟩⟩
          · simp [Instr.findNow, Instr.sameNow, he]
          · have : a = b := by simpa using he
            simp [this]
        · rename_i he
          cases hf : findI k a es with
          | none => rw [hf] at h; cases h
          | some q =>
            rw [hf] at h
            rcases ih (n + 1) hE' hf with ⟨rfl, h2⟩ | ⟨i, v, v', rfl, h2, h3, h4⟩
            · cases h
              left
              exact ⟨rfl, by simp [Instr.findNow, Instr.sameNow, he, h2]⟩
            · cases h
              right
              refine ⟨i + 1, v, v', rfl, h2, ?_, ?_⟩
              · simp [Instr.findNow, Instr.sameNow, he, h3]; omega
              · simpa using h4
      · cases h

def lookIn (z : Value) (ok : Bool) (k : IntKind) (a : Int) : Obj → Option Value
  | .map es _ => match findI k a es.toList with
    | some (some (_, v)) => match ok with
      | true => some (.tuple #[v, .bool true])
      | false => some v
    | some none => match ok with
      | true => some (.tuple #[z, .bool false])
      | false => some z
    | none => none
  | _ => none
def lookAccI (tt : List (Nat × TK)) (i : TK) (ok : Bool) (m x : Value) : Option Acc := match i.desc, x with
  | .map kt et, .int k a => match look tt kt, look tt et with
    | some ki, some ei => match ki.desc, clean ei.zero with
      | .int _, true => match m with
        | .map none => match ok with
          | true => some (.val (.tuple #[ei.zero, .bool false]))
          | false => some (.val ei.zero)
        | .map (some r) => some (.rd r (lookIn ei.zero ok k a))
        | _ => none
      | _, _ => none
    | _, _ => none
  | _, _ => none
theorem two_VR {v v' u u' : Value} (h : VR f v v') (g : VR f u u') : VR f (.tuple #[v, u]) (.tuple #[v', u']) := ((AR.one h).push g).tuple
include hT in
theorem lookAccI_ok {t : Nat} {i : TK} (hi : look tt t = some i) {ok : Bool} {m m' x x' : Value} {acc : Acc} (hm : VR f m m') (hx : VR f x x') (h : lookAccI tt i ok m x = some acc) : VOk P f (Instr.lookup t m' x' ok) acc := by
  unfold lookAccI at h
  split at h
  · rename_i kt et k a hd
    cases hx
    split at h
    · rename_i ki ei hki hei
      split at h
      · rename_i kk hkd hcl
        have hz := clean_VR f hcl
        have hck : ∀ (e : Bool) (w : World), (Instr.checkKey e 10000 kt (.int k a)).run P w = .ok () w := fun e w => by
          have := tk_und hT hki w
          rw [hkd] at this
          show (Instr.checkKey e (9999 + 1) kt (.int k a)).run P w = .ok () w
          unfold Instr.checkKey
          simp only [Sem.run_bind, this, Result.andThen_ok, Sem.run_pure]
        have hfk : ∀ (l : List MapEntry) r (w : World), Instr.findNow (.int kk) (.int k a) l 0 = some r → (Instr.findKey kt (.int k a) l).run P w = .ok r w := fun l r w hr => by
          have := tk_und hT hki w
          rw [hkd] at this
          simp only [Instr.findKey, Sem.run_bind, this, Result.andThen_ok, hr, Sem.run_pure]
        split at h
        · cases hm
          split at h
          · cases h
            refine ⟨_, two_VR hz (.bool false), fun w => ?_⟩
            simp only [Instr.lookup, Sem.run_bind, tk_und hT hi, Result.andThen_ok, hd, Sem.run_pure, hck, hfk [] none w rfl, tk_zero hT hei]
            rfl
          · cases h
            refine ⟨_, hz, fun w => ?_⟩
            simp only [Instr.lookup, Sem.run_bind, tk_und hT hi, Result.andThen_ok, hd, Sem.run_pure, hck, hfk [] none w rfl, tk_zero hT hei]
            rfl
        · rename_i r
          cases h
          cases hm with
          | map hn =>
            rename_i b
            refine ⟨⟨_, hn⟩, ?_⟩
            intro b2 o o' w v hb ho hr hk
            rw [hn] at hb; cases hb
            cases hr with
            | map ck hE =>
              rename_i es es'
              obtain ⟨es⟩ := es
              obtain ⟨es'⟩ := es'
              simp only [lookIn] at hk
              cases hf : findI k a es with
              | none => rw [hf] at hk; cases hk
              | some q =>
                rw [hf] at hk
                have hgo : ∀ w : World, w.heap[b]? = some (.map ⟨es'⟩ ck) → (getObj b).run P w = .ok (.map ⟨es'⟩ ck) w := fun w h => by simp [getObj, Sem.run, h]
                rcases findI_ok (kk := kk) 0 hE hf with ⟨rfl, h2⟩ | ⟨i2, v2, v2', rfl, h2, h3, h4⟩
                · cases ok
                  · cases hk
                    refine ⟨_, hz, ?_⟩
                    simp only [Instr.lookup, Sem.run_bind, tk_und hT hi, Result.andThen_ok, hd, Sem.run_pure, hgo w ho, hck, hfk es' none w h2, tk_zero hT hei]
                    rfl
                  · cases hk
                    refine ⟨_, two_VR hz (.bool false), ?_⟩
                    simp only [Instr.lookup, Sem.run_bind, tk_und hT hi, Result.andThen_ok, hd, Sem.run_pure, hgo w ho, hck, hfk es' none w h2, tk_zero hT hei]
                    rfl
                · cases ok
                  · cases hk
                    refine ⟨_, h2, ?_⟩
                    simp only [Instr.lookup, Sem.run_bind, tk_und hT hi, Result.andThen_ok, hd, Sem.run_pure, hgo w ho, hck, hfk es' _ w h3]
                    rfl
                  · cases hk
                    refine ⟨_, two_VR h2 (.bool true), ?_⟩
                    simp only [Instr.lookup, Sem.run_bind, tk_und hT hi, Result.andThen_ok, hd, Sem.run_pure, hgo w ho, hck, hfk es' _ w h3]
                    rfl
            | _ => simp [lookIn] at hk
        · cases h
      · cases h
    · cases h
  · cases h

/-! maps whose keys are two numbers -/
abbrev k2v (k : IntKind) (a b : Int) : Value := .agg ⟨[.int k a, .int k b]⟩
def find2 (k : IntKind) (a b : Int) : List MapEntry → Option (Option (Nat × Value))
  | [] => some none
  | ⟨.agg ⟨[.int k1 c, .int k2 d]⟩, v, _⟩ :: es => match kindsEq k1 k && kindsEq k2 k with
    | true => match (a == c) && (b == d) with
      | true => some (some (0, v))
      | false => match find2 k a b es with
        | some (some (i, v)) => some (some (i + 1, v))
        | some none => some none
        | none => none
    | false => none
  | _ => none
structure Key2 (P : Program) (kt : TypeId) (k : IntKind) : Prop where
  ck : ∀ em a b w, (Instr.checkKey em 10000 kt (k2v k a b)).run P w = .ok () w
  fk : ∀ a b es r, find2 k a b es = some r → ∀ w, (Instr.findKey kt (k2v k a b) es).run P w = .ok r w
def two2 (k : IntKind) : List Leaf → Bool
  | [.i a, .i b] => kindsEq a k && kindsEq b k
  | _ => false
theorem two2_eq {k : IntKind} {l : List Leaf} (h : two2 k l = true) : l = [.i k, .i k] := by
  unfold two2 at h
  split at h
  · simp only [Bool.and_eq_true, kindsEq, decide_eq_true_eq] at h; rw [h.1, h.2]
  · cases h
def key2B (tt : List (Nat × TK)) (kt : Nat) (k : IntKind) : Bool := match look tt kt with
  | some ki => match ki.desc with
    | .array n e => match look tt e with
      | some ei => match ei.desc with
        | .int _ => Nat.beq n 2 && Nat.beq ei.size 1 && two2 k ki.ks
        | _ => false
      | none => false
    | _ => false
  | none => false
include hT in
theorem key2_of {kt : Nat} {k : IntKind} (h : key2B tt kt k = true) : Key2 P kt k := by
  unfold key2B at h
  split at h
  · rename_i ki hki
    split at h
    · rename_i n e hkd
      split at h
      · rename_i ei hei
        split at h
        · rename_i q hed
          simp only [Bool.and_eq_true] at h
          obtain ⟨⟨h1, h2⟩, hks⟩ := h
          have hks := two2_eq hks
          have h1 := Nat.eq_of_beq_eq_true h1
          have h2 := Nat.eq_of_beq_eq_true h2
          subst h1
          obtain ⟨u1, _, u3⟩ := hT kt ki hki
          rw [hkd] at u1
          obtain ⟨v1, _, _⟩ := hT e ei hei
          rw [hed] at v1
          obtain ⟨l1, l2, l3, _⟩ := u3 (by rw [hks]; simp)
          rw [hks] at l1
          have hpl : P.plainKey e = true := by simp [Program.plainKey, v1]
          have heq : ∀ a b c d w, (Op.equal kt (k2v k a b) (k2v k c d)).run P w = .ok (a == c && b == d) w := by
            intro a b c d w
            have := run_equalIn_leaves (P := P) 9994 6 kt w _ [.int k a, .int k b] [.int k c, .int k d] l1 l2 (.i (.i .nil)) (.i (.i .nil))
            simp only [ofCells, l3, if_true] at this
            simpa [Op.equal, Op.maxDepth, aggEq, leafEq] using this
          refine ⟨fun em a b w => ?_, fun a b es r hr w => ?_⟩
          · show (Instr.checkKey em (9999 + 1) kt (k2v k a b)).run P w = .ok () w
            rw [Instr.checkKey]
            simp only [Sem.run_bind, run_underlying u1, Result.andThen_ok]
            have p0 : (part e ⟨[.int k a, .int k b]⟩ 0).run P w = .ok (.int k a) w := run_part_plain (P := P) (w := w) hpl rfl
            have p1 : (part e ⟨[.int k a, .int k b]⟩ 1).run P w = .ok (.int k b) w := run_part_plain (P := P) (w := w) hpl rfl
            have c : ∀ x, (Instr.checkKey em 9999 e (.int k x)).run P w = .ok () w := fun x => by
              show (Instr.checkKey em (9998 + 1) e (.int k x)).run P w = .ok () w
              unfold Instr.checkKey
              simp only [Sem.run_bind, run_underlying v1, Result.andThen_ok, Sem.run_pure]
            have hsz := tk_size hT hei w
            rw [h2] at hsz
            simp only [Std.Legacy.Range.forIn_eq_forIn_range', Std.Legacy.Range.size, Nat.sub_zero, Nat.add_one_sub_one, Nat.div_one]
            simp only [List.range', List.forIn_cons, List.forIn_nil, Sem.run_bind, hsz, Result.andThen_ok, p0, p1, c, Sem.run_pure, Nat.zero_mul, Nat.mul_one, Nat.zero_add]
          · have key : ∀ (es : List MapEntry) (r : Option (Nat × Value)) (n : Nat), find2 k a b es = some r → (Instr.findAsking kt (k2v k a b) es n).run P w = .ok (r.map fun x => (n + x.1, x.2)) w := by
              intro es
              induction es with
              | nil => intro r n h; cases h; rfl
              | cons x es ih =>
                intro r n h
                obtain ⟨ky, vl, bn⟩ := x
                unfold find2 at h
                split at h
                · rename_i e1; cases e1
                · rename_i k1 c k2 d v bb es' e1
                  cases e1
                  split at h
                  · rename_i hk
                    simp only [Bool.and_eq_true, kindsEq, decide_eq_true_eq] at hk
                    obtain ⟨rfl, rfl⟩ := hk
                    have hq := heq a b c d w
                    split at h
                    · rename_i he
                      cases h
                      rw [he] at hq
                      simp only [Instr.findAsking, Sem.run_bind, hq, Result.andThen_ok, if_true, Sem.run_pure]; rfl
                    · rename_i he
                      rw [he] at hq
                      simp only [Instr.findAsking, Sem.run_bind, hq, Result.andThen_ok, Bool.false_eq_true, if_false]
                      split at h
                      · rename_i i v hf; cases h; rw [ih _ _ hf]; simp; omega
                      · rename_i hf; cases h; rw [ih _ _ hf]; rfl
                      · cases h
                  · cases h
                · cases h
            have h0 := key es r 0 hr
            have e0 : (r.map fun x => (0 + x.1, x.2)) = r := by cases r <;> simp
            rw [e0] at h0
            simp only [Instr.findKey, Sem.run_bind, run_underlying u1, Result.andThen_ok]
            cases es with
            | nil => cases hr; rfl
            | cons x es =>
              have : Instr.findNow (.array 2 e) (k2v k a b) (x :: es) 0 = none := by
                simp [Instr.findNow, Instr.sameNow]
              rw [this]; exact h0
        · cases h
      · cases h
    · cases h
  · cases h
theorem find2_ok {k : IntKind} {a b : Int} : ∀ {es es' : List MapEntry} {r : Option (Nat × Value)}, ES f ⟨es⟩ ⟨es'⟩ → find2 k a b es = some r →
    (r = none ∧ find2 k a b es' = some none) ∨ ∃ i v v', r = some (i, v) ∧ VR f v v' ∧ find2 k a b es' = some (some (i, v')) ∧ (∃ e e', es[i]? = some e ∧ es'[i]? = some e' ∧ e.key = k2v k a b ∧ e'.key = k2v k a b ∧ e.born = e'.born) := by
  intro es
  induction es with
  | nil =>
    intro es' r hE h
    have : es' = [] := by have := hE.1; exact List.eq_nil_of_length_eq_zero (by simpa using this.symm)
    subst this
    simp [find2] at h
    exact Or.inl ⟨h.symm, rfl⟩
  | cons e es ih =>
    intro es' r hE h
    cases es' with
    | nil => have := hE.1; simp at this
    | cons e' es' =>
      have h0 := hE.2 0 e e' (by simp) (by simp)
      have hE' : ES f ⟨es⟩ ⟨es'⟩ := ⟨by have := hE.1; simpa using this, fun i a b ha hb => hE.2 (i + 1) a b (by simpa using ha) (by simpa using hb)⟩
      obtain ⟨ky, vl, bn⟩ := e
      obtain ⟨ky', vl', bn'⟩ := e'
      obtain ⟨g1, g2, g3⟩ := h0
      simp only at g1 g2 g3
      subst g3
      unfold find2 at h
      split at h
      · rename_i e1; cases e1
      · rename_i k1 c k2 d v bb es0 e1
        cases e1
        split at h
        · rename_i hk
          have hk0 := hk
          simp only [Bool.and_eq_true, kindsEq, decide_eq_true_eq] at hk
          obtain ⟨rfl, rfl⟩ := hk
          have hky : ky' = k2v k2 c d := by
            have := flat_VR (f := f) (ks := [.i k2, .i k2]) (xs := [.int k2 c, .int k2 d]) (.i (.i .nil)) (x' := (match ky' with | .agg y => y | _ => #[])) (by
              cases g1 with | agg p q => exact ⟨p, q⟩)
            cases g1 with
            | agg p q =>
              rename_i y
              have e2 : y.toList = [.int k2 c, .int k2 d] := this
              show Value.agg y = _
              rw [show y = ⟨y.toList⟩ from rfl, e2]
          subst hky
          split at h
          · rename_i he
            cases h
            right
            refine ⟨0, vl, vl', rfl, g2, ?_, ⟨_, _, rfl, rfl, ?_, ?_, rfl⟩⟩
            · simp only [find2, hk0, he]
            · simp only [Bool.and_eq_true, beq_iff_eq] at he
              rw [he.1, he.2]
            · simp only [Bool.and_eq_true, beq_iff_eq] at he
              rw [he.1, he.2]
          · rename_i he
            cases hf : find2 k2 a b es with
            | none => rw [hf] at h; cases h
            | some q =>
              rw [hf] at h
              rcases ih hE' hf with ⟨rfl, h2⟩ | ⟨i, v, v', rfl, h2, h3, e0, e0', h4⟩
              · cases h
                left
                exact ⟨rfl, by simp only [find2, hk0, he, h2]⟩
              · cases h
                right
                refine ⟨i + 1, v, v', rfl, h2, by simp only [find2, hk0, he, h3], e0, e0', ?_⟩
                simpa using h4
        · cases h
      · cases h
def look2In (z : Value) (ok : Bool) (k : IntKind) (a b : Int) : Obj → Option Value
  | .map es _ => match find2 k a b es.toList with
    | some (some (_, v)) => match ok with
      | true => some (.tuple #[v, .bool true])
      | false => some v
    | some none => match ok with
      | true => some (.tuple #[z, .bool false])
      | false => some z
    | none => none
  | _ => none
def lookAcc2 (tt : List (Nat × TK)) (i : TK) (ok : Bool) (m : Value) (k k' : IntKind) (a b : Int) : Option Acc := match i.desc, kindsEq k' k with
  | .map kt et, true => match key2B tt kt k, look tt et with
    | true, some ei => match clean ei.zero with
      | true => match m with
        | .map none => match ok with
          | true => some (.val (.tuple #[ei.zero, .bool false]))
          | false => some (.val ei.zero)
        | .map (some r) => some (.rd r (look2In ei.zero ok k a b))
        | _ => none
      | _ => none
    | _, _ => none
  | _, _ => none
def lookAcc (tt : List (Nat × TK)) (i : TK) (ok : Bool) (m x : Value) : Option Acc := match x with
  | .agg ⟨[.int k a, .int k' b]⟩ => lookAcc2 tt i ok m k k' a b
  | x => lookAccI tt i ok m x
theorem k2_VR {k : IntKind} {a b : Int} {x' : Value} (h : VR f (k2v k a b) x') : x' = k2v k a b := by
  cases h with
  | agg p q =>
    rename_i y
    have := flat_VR (f := f) (ks := [.i k, .i k]) (xs := [.int k a, .int k b]) (.i (.i .nil)) (x' := y) ⟨p, q⟩
    show Value.agg y = _
    rw [show y = ⟨y.toList⟩ from rfl, this]
include hT in
theorem lookAcc_ok {t : Nat} {i : TK} (hi : look tt t = some i) {ok : Bool} {m m' x x' : Value} {acc : Acc} (hm : VR f m m') (hx : VR f x x') (h : lookAcc tt i ok m x = some acc) : VOk P f (Instr.lookup t m' x' ok) acc := by
  unfold lookAcc at h
  split at h
  · rename_i k a k' b
    unfold lookAcc2 at h
    split at h
    · rename_i kt et hd hkk
      simp only [kindsEq, decide_eq_true_eq] at hkk
      subst hkk
      have := k2_VR hx
      subst this
      split at h
      · rename_i ei hk2 hei
        obtain ⟨hck, hfk⟩ := key2_of (P := P) hT hk2
        split at h
        · rename_i hcl
          have hz := clean_VR f hcl
          split at h
          · cases hm
            split at h
            · cases h
              refine ⟨_, two_VR hz (.bool false), fun w => ?_⟩
              simp only [Instr.lookup, Sem.run_bind, tk_und hT hi, Result.andThen_ok, hd, Sem.run_pure, hck, hfk _ _ [] none rfl, tk_zero hT hei]
              rfl
            · cases h
              refine ⟨_, hz, fun w => ?_⟩
              simp only [Instr.lookup, Sem.run_bind, tk_und hT hi, Result.andThen_ok, hd, Sem.run_pure, hck, hfk _ _ [] none rfl, tk_zero hT hei]
              rfl
          · rename_i r
            cases h
            cases hm with
            | map hn =>
              rename_i b0
              refine ⟨⟨_, hn⟩, ?_⟩
              intro b2 o o' w v hb ho hr hk
              rw [hn] at hb; cases hb
              cases hr with
              | map ck hE =>
                rename_i es es'
                obtain ⟨es⟩ := es
                obtain ⟨es'⟩ := es'
                simp only [look2In] at hk
                cases hf : find2 k' a b es with
                | none => rw [hf] at hk; cases hk
                | some q =>
                  rw [hf] at hk
                  have hgo : ∀ w : World, w.heap[b0]? = some (.map ⟨es'⟩ ck) → (getObj b0).run P w = .ok (.map ⟨es'⟩ ck) w := fun w h => by simp [getObj, Sem.run, h]
                  rcases find2_ok hE hf with ⟨rfl, h2⟩ | ⟨i2, v2, v2', rfl, h2, h3, h4⟩
                  · cases ok
                    · cases hk
                      refine ⟨_, hz, ?_⟩
                      simp only [Instr.lookup, Sem.run_bind, tk_und hT hi, Result.andThen_ok, hd, Sem.run_pure, hgo w ho, hck, hfk _ _ es' none h2 w, tk_zero hT hei]
                      rfl
                    · cases hk
                      refine ⟨_, two_VR hz (.bool false), ?_⟩
                      simp only [Instr.lookup, Sem.run_bind, tk_und hT hi, Result.andThen_ok, hd, Sem.run_pure, hgo w ho, hck, hfk _ _ es' none h2 w, tk_zero hT hei]
                      rfl
                  · cases ok
                    · cases hk
                      refine ⟨_, h2, ?_⟩
                      simp only [Instr.lookup, Sem.run_bind, tk_und hT hi, Result.andThen_ok, hd, Sem.run_pure, hgo w ho, hck, hfk _ _ es' _ h3 w]
                      rfl
                    · cases hk
                      refine ⟨_, two_VR h2 (.bool true), ?_⟩
                      simp only [Instr.lookup, Sem.run_bind, tk_und hT hi, Result.andThen_ok, hd, Sem.run_pure, hgo w ho, hck, hfk _ _ es' _ h3 w]
                      rfl
              | _ => simp [look2In] at hk
          · cases h
        · cases h
      · cases h
    · cases h
  · exact lookAccI_ok hT hi hm hx h
end ops
end Go.Proofs.YtkcmhcgmiflgbaaDoor
namespace Go.Proofs.YtkcmhcgmiflgbaaDoor
open Go
section ops
variable {P : Program} {tt : List (Nat × TK)} (hT : TKok P tt) {f : NM}

def setE (v : Value) (key : Value) : Nat → List MapEntry → Option (List MapEntry)
  | _, [] => none
  | 0, ⟨_, _, b⟩ :: es => some (⟨key, v, b⟩ :: es)
  | n + 1, e :: es => match setE v key n es with
    | some r => some (e :: r)
    | none => none
theorem setE_eq (v key : Value) : ∀ (n : Nat) (es r : List MapEntry), setE v key n es = some r → r = es.modify n fun e => { e with key := key, val := v } := by
  intro n
  induction n with
  | zero => intro es r h; cases es with
    | nil => cases h
    | cons e es => cases h; rfl
  | succ n ih => intro es r h; cases es with
    | nil => cases h
    | cons e es =>
      simp only [setE] at h
      split at h
      · rename_i q hq; cases h; rw [ih es q hq]; rfl
      · cases h
def delE : Nat → List MapEntry → Option (List MapEntry)
  | _, [] => none
  | 0, _ :: es => some es
  | n + 1, e :: es => match delE n es with
    | some r => some (e :: r)
    | none => none
theorem delE_eq : ∀ (n : Nat) (es r : List MapEntry), delE n es = some r → r = es.eraseIdx n := by
  intro n
  induction n with
  | zero => intro es r h; cases es with
    | nil => cases h
    | cons e es => cases h; rfl
  | succ n ih => intro es r h; cases es with
    | nil => cases h
    | cons e es =>
      simp only [delE] at h
      split at h
      · rename_i q hq; cases h; rw [ih es q hq]; rfl
      · cases h
def pushE (e : MapEntry) : List MapEntry → Option (List MapEntry)
  | [] => some [e]
  | x :: es => match pushE e es with
    | some r => some (x :: r)
    | none => none
theorem pushE_eq (e : MapEntry) : ∀ (es r : List MapEntry), pushE e es = some r → r = es ++ [e] := by
  intro es
  induction es with
  | nil => intro r h; cases h; rfl
  | cons x es ih => intro r h; simp only [pushE] at h; split at h
                    · rename_i q hq; cases h; rw [ih q hq]; rfl
                    · cases h
def updIn (k : IntKind) (a : Int) (v : Value) : Obj → Option (Value × Obj)
  | .map es ck => match findI k a es.toList with
    | some (some (i, _)) => match setE v (.int k a) i es.toList with
      | some r => some (undef, .map ⟨r⟩ ck)
      | none => none
    | some none => match pushE ⟨.int k a, v, ck⟩ es.toList with
      | some r => some (undef, .map ⟨r⟩ (ck + 1))
      | none => none
    | none => none
  | _ => none
def updAcc (tt : List (Nat × TK)) (i : TK) (m x v : Value) : Option Acc := match i.desc, x, m with
  | .map kt _, .int k a, .map (some r) => match look tt kt with
    | some ki => match ki.desc with
      | .int _ => some (.wr r (updIn k a v))
      | _ => none
    | none => none
  | _, _, _ => none
theorem ES.set {es es' : List MapEntry} (h : ES f ⟨es⟩ ⟨es'⟩) {v v' : Value} (hv : VR f v v') (k : IntKind) (a : Int) (n : Nat) :
    ES f ⟨es.modify n fun e => { e with key := .int k a, val := v }⟩ ⟨es'.modify n fun e => { e with key := .int k a, val := v' }⟩ := by
  refine ⟨by simpa using h.1, fun i e e' h1 h2 => ?_⟩
  simp only [List.getElem?_toArray, List.getElem?_modify] at h1 h2
  cases q1 : es[i]? with
  | none => rw [q1] at h1; simp at h1
  | some y =>
    cases q2 : es'[i]? with
    | none => rw [q2] at h2; simp at h2
    | some y' =>
      have := h.2 i y y' (by simpa using q1) (by simpa using q2)
      rw [q1] at h1; rw [q2] at h2
      simp only [Option.map_eq_map, Option.map_some, Option.some.injEq] at h1 h2
      by_cases hn : n = i
      · rw [if_pos hn] at h1 h2
        subst h1; subst h2
        exact ⟨.int _ _, hv, this.2.2⟩
      · rw [if_neg hn] at h1 h2
        subst h1; subst h2; exact this
theorem ES.push {es es' : List MapEntry} (h : ES f ⟨es⟩ ⟨es'⟩) {e e' : MapEntry} (h1 : VR f e.key e'.key) (h2 : VR f e.val e'.val) (h3 : e.born = e'.born) :
    ES f ⟨es ++ [e]⟩ ⟨es' ++ [e']⟩ := by
  have hl : es.length = es'.length := by have := h.1; simpa using this
  refine ⟨by simp [hl], fun i x x' q1 q2 => ?_⟩
  simp only [List.getElem?_toArray, List.getElem?_append] at q1 q2
  rw [← hl] at q2
  split at q1
  · rename_i hi; rw [if_pos hi] at q2; exact h.2 i x x' (by simpa using q1) (by simpa using q2)
  · rename_i hi; rw [if_neg hi] at q2
    by_cases e0 : i - es.length = 0
    · rw [e0] at q1 q2
      simp at q1 q2; subst q1; subst q2; exact ⟨h1, h2, h3⟩
    · have : 1 ≤ i - es.length := by omega
      rw [List.getElem?_eq_none (by simpa using this)] at q1; cases q1
theorem ES.del {es es' : List MapEntry} (h : ES f ⟨es⟩ ⟨es'⟩) (n : Nat) : ES f ⟨es.eraseIdx n⟩ ⟨es'.eraseIdx n⟩ := by
  have hl : es.length = es'.length := by have := h.1; simpa using this
  refine ⟨by simp [List.length_eraseIdx, hl], fun i x x' q1 q2 => ?_⟩
  simp only [List.getElem?_toArray, List.getElem?_eraseIdx] at q1 q2
  split at q1
  · rename_i hi; rw [if_pos hi] at q2; exact h.2 i x x' (by simpa using q1) (by simpa using q2)
  · rename_i hi; rw [if_neg hi] at q2; exact h.2 (i + 1) x x' (by simpa using q1) (by simpa using q2)
section
variable {kt : Nat} {ki : TK} {kk : IntKind} (hki : look tt kt = some ki) (hkd : ki.desc = .int kk) (k : IntKind) (a : Int)
include hT hki hkd
theorem run_ck (e : Bool) (w : World) : (Instr.checkKey e 10000 kt (.int k a)).run P w = .ok () w := by
  have := tk_und hT hki w
  rw [hkd] at this
  show (Instr.checkKey e (9999 + 1) kt (.int k a)).run P w = .ok () w
  unfold Instr.checkKey
  simp only [Sem.run_bind, this, Result.andThen_ok, Sem.run_pure]
theorem run_fk (l : List MapEntry) (r : Option (Nat × Value)) (w : World) (hr : Instr.findNow (.int kk) (.int k a) l 0 = some r) : (Instr.findKey kt (.int k a) l).run P w = .ok r w := by
  have := tk_und hT hki w
  rw [hkd] at this
  simp only [Instr.findKey, Sem.run_bind, this, Result.andThen_ok, hr, Sem.run_pure]
end
theorem run_getM {w : World} {b : Nat} {es : Array MapEntry} {ck : Nat} (h : w.heap[b]? = some (.map es ck)) : (getObj b).run P w = .ok (.map es ck) w := by simp [getObj, Sem.run, h]
theorem run_setM {w : World} {b : Nat} {es : Array MapEntry} {ck : Nat} (o : Obj) (h : w.heap[b]? = some (.map es ck)) : (setObj b o).run P w = .ok () (setB w b o) := by simp [setObj, Sem.run, h, setB]
theorem same_int (n : Nat) (k : IntKind) (a : Int) : Instr.sameBits n (.int k a) (.int k a) = true := by
  cases n <;> simp [Instr.sameBits]
include hT in
theorem updAcc_ok {t : Nat} {i : TK} (hi : look tt t = some i) {m m' x x' v v' : Value} {acc : Acc} (hm : VR f m m') (hx : VR f x x') (hv : VR f v v') (h : updAcc tt i m x v = some acc) :
    NOk P f (do Instr.mapUpdate t m' x' v'; pure .skip) acc := by
  unfold updAcc at h
  split at h
  · rename_i kt et k a r hd
    cases hx
    split at h
    · rename_i ki hki
      split at h
      · rename_i kk hkd
        cases h
        cases hm with
        | map hn =>
          rename_i b
          refine ⟨⟨_, hn⟩, ?_⟩
          intro b2 o o' w u p hb ho hr hk
          rw [hn] at hb; cases hb
          cases hr with
          | map ck hE =>
            rename_i es es'
            obtain ⟨es⟩ := es
            obtain ⟨es'⟩ := es'
            simp only [updIn] at hk
            cases hf : findI k a es with
            | none => rw [hf] at hk; cases hk
            | some q =>
              rw [hf] at hk
              rcases findI_ok (kk := kk) 0 hE hf with ⟨rfl, h2⟩ | ⟨i2, v2, v2', rfl, h2, h3, h4⟩
              · simp only at hk
                split at hk
                · rename_i rr hrr
                  cases hk
                  have := pushE_eq _ _ _ hrr
                  subst this
                  refine ⟨undef, _, .skip, VR.undef f, .map (ck + 1) (ES.push hE (e' := ⟨.int k a, v', ck⟩) (.int _ _) hv rfl), Or.inr ⟨rfl, rfl⟩, ?_⟩
                  simp only [Instr.mapUpdate, Sem.run_bind, tk_und hT hi, Result.andThen_ok, hd, run_getM ho, run_ck hT hki hkd, run_fk hT hki hkd _ _ es' none w h2, run_setM _ ho, Sem.run_pure]
                  simp
                · cases hk
              · simp only at hk
                split at hk
                · rename_i rr hrr
                  cases hk
                  have := setE_eq _ _ _ _ _ hrr
                  subst this
                  obtain ⟨e', he1, he2⟩ := h4
                  refine ⟨undef, _, .skip, VR.undef f, .map ck (ES.set hE hv k a i2), Or.inr ⟨rfl, rfl⟩, ?_⟩
                  have hks : (Instr.keyThatStays ((((⟨es'⟩ : Array MapEntry)[0 + i2]?).map (·.key)).getD (.int k a)) (.int k a)).run P w = .ok (.int k a) w := by
                    rw [Nat.zero_add]
                    simp only [List.getElem?_toArray, he1, Option.map_some, Option.getD_some, he2, Instr.keyThatStays, same_int, if_true, Sem.run_pure]
                  simp only [Instr.mapUpdate, Sem.run_bind, tk_und hT hi, Result.andThen_ok, hd, run_getM ho, run_ck hT hki hkd, run_fk hT hki hkd _ _ es' _ w h3, hks, run_setM _ ho, Sem.run_pure]
                  simp
                · cases hk
          | _ => simp [updIn] at hk
      · cases h
    · cases h
  · cases h
/-! builtins -/
def delIn (k : IntKind) (a : Int) : Obj → Option (Value × Obj)
  | .map es ck => match findI k a es.toList with
    | some (some (i, _)) => match delE i es.toList with
      | some r => some (.tuple #[], .map ⟨r⟩ ck)
      | none => none
    | some none => some (.tuple #[], .map es ck)
    | none => none
  | _ => none
def lenIn : Obj → Option Value
  | .map es _ => some (.int .i64 es.toList.length)
  | _ => none
def foldMM (g : Int → Int → Int) (k : IntKind) : Int → List Value → Option Int
  | x, [] => some x
  | x, .int _ y :: r => foldMM g k (g x y) r
  | _, _ => none
def bltAcc (tt : List (Nat × TK)) (b : Builtin) (ts : List TypeId) (vs : List Value) : Option Acc :=
  match b, ts, vs with
  | .len, t :: _, x :: _ => match look tt t with
    | some i => match i.desc, x with
      | .string, .string s => some (.val (.int .i64 s.size))
      | .slice _, .slice _ n _ => some (.val (.int .i64 n))
      | .slice _, .func (.method _) ⟨[.slice _ n _]⟩ _ => some (.val (.int .i64 n))
      | .array n _, _ => some (.val (.int .i64 n))
      | .map _ _, .map none => some (.val (.int .i64 0))
      | .map _ _, .map (some r) => some (.rd r lenIn)
      | _, _ => none
    | none => none
  | .cap, t :: _, x :: _ => match look tt t with
    | some i => match i.desc, x with
      | .slice _, .slice _ _ n => some (.val (.int .i64 n))
      | _, _ => none
    | none => none
  | .max, _, .int k x :: r => match foldMM imax k x r with
    | some z => some (.val (.int k z))
    | none => none
  | .min, _, .int k x :: r => match foldMM imin k x r with
    | some z => some (.val (.int k z))
    | none => none
  | .delete, t :: _, m :: .int k a :: _ => match look tt t with
    | some i => match i.desc with
      | .map kt _ => match look tt kt with
        | some ki => match ki.desc with
          | .int _ => match m with
            | .map none => some (.val (.tuple #[]))
            | .map (some r) => some (.wr r (delIn k a))
            | _ => none
          | _ => none
        | none => none
      | _ => none
    | none => none
  | _, _, _ => none
theorem fold_max : ∀ (l l' : List Value) (k : IntKind) (x z : Int), AR f ⟨l⟩ ⟨l'⟩ → foldMM imax k x l = some z → ∀ w, (l'.foldlM Builtin.max2 (.int k x)).run P w = .ok (.int k z) w := by
  intro l
  induction l with
  | nil =>
    intro l' k x z hl h w
    have : l' = [] := by have := hl.1; exact List.eq_nil_of_length_eq_zero (by simpa using this.symm)
    subst this
    cases h; rfl
  | cons v l ih =>
    intro l' k x z hl h w
    cases l' with
    | nil => have := hl.1; simp at this
    | cons v' l' =>
      have h0 := hl.2 0 v v' (by simp) (by simp)
      have hE : AR f ⟨l⟩ ⟨l'⟩ := ⟨by have := hl.1; simpa using this, fun i a b ha hb => hl.2 (i + 1) a b (by simpa using ha) (by simpa using hb)⟩
      cases v <;> simp only [foldMM] at h <;> try (cases h; done)
      cases h0
      simp only [List.foldlM_cons, Builtin.max2, pure_bind]
      exact ih l' k _ z hE h w
theorem fold_min : ∀ (l l' : List Value) (k : IntKind) (x z : Int), AR f ⟨l⟩ ⟨l'⟩ → foldMM imin k x l = some z → ∀ w, (l'.foldlM Builtin.min2 (.int k x)).run P w = .ok (.int k z) w := by
  intro l
  induction l with
  | nil =>
    intro l' k x z hl h w
    have : l' = [] := by have := hl.1; exact List.eq_nil_of_length_eq_zero (by simpa using this.symm)
    subst this
    cases h; rfl
  | cons v l ih =>
    intro l' k x z hl h w
    cases l' with
    | nil => have := hl.1; simp at this
    | cons v' l' =>
      have h0 := hl.2 0 v v' (by simp) (by simp)
      have hE : AR f ⟨l⟩ ⟨l'⟩ := ⟨by have := hl.1; simpa using this, fun i a b ha hb => hl.2 (i + 1) a b (by simpa using ha) (by simpa using hb)⟩
      cases v <;> simp only [foldMM] at h <;> try (cases h; done)
      cases h0
      simp only [List.foldlM_cons, Builtin.min2, pure_bind]
      exact ih l' k _ z hE h w
theorem AR.cons {x x' : Value} {l : List Value} {c : Array Value} (h : AR f ⟨x :: l⟩ c) : ∃ x' l', c = ⟨x' :: l'⟩ ∧ VR f x x' ∧ AR f ⟨l⟩ ⟨l'⟩ := by
  obtain ⟨c⟩ := c
  cases c with
  | nil => have := h.1; simp at this
  | cons y c =>
    exact ⟨y, c, rfl, h.2 0 x y (by simp) (by simp), by have := h.1; simpa using this, fun i a b ha hb => h.2 (i + 1) a b (by simpa using ha) (by simpa using hb)⟩
include hT in
theorem bltAcc_ok {b : Builtin} {ts : List TypeId} {ty : TypeId} {cs : Array Bool} {vs : List Value} {vs' : Array Value} {acc : Acc} (hv : AR f ⟨vs⟩ vs') (h : bltAcc tt b ts vs = some acc) :
    NOk P f (builtin b ⟨ts⟩ ty cs vs') acc := by
  unfold bltAcc at h
  split at h
  · rename_i t tr x xr
    obtain ⟨x', l', rfl, hx, _⟩ := AR.cons (x' := undef) hv
    split at h
    · rename_i i hi
      refine VOk.next ?_
      split at h
      · rename_i s hd
        cases h; cases hx
        exact ⟨_, .int _ _, fun w => by simp [Builtin.len_, tk_und hT hi, hd, goInt]⟩
      · rename_i e a n c hd
        cases h
        cases hx <;> exact ⟨_, .int _ _, fun w => by simp [Builtin.len_, tk_und hT hi, hd, goInt]⟩
      · rename_i e m a n c y hd
        cases h
        cases hx
        exact ⟨_, .int _ _, fun w => by simp [Builtin.len_, tk_und hT hi, hd, goInt]⟩
      · rename_i n e hd
        cases h
        exact ⟨_, .int _ _, fun w => by simp [Builtin.len_, tk_und hT hi, hd, goInt]⟩
      · rename_i k e hd
        cases h; cases hx
        exact ⟨_, .int _ _, fun w => by simp [Builtin.len_, tk_und hT hi, hd, goInt]⟩
      · rename_i k e r hd
        cases h
        cases hx with
        | map hn =>
          rename_i b
          refine ⟨⟨_, hn⟩, ?_⟩
          intro b2 o o' w v hb ho hr hk
          rw [hn] at hb; cases hb
          cases hr with
          | map ck hE =>
            simp only [lenIn, Option.some.injEq] at hk
            subst hk
            refine ⟨_, .int _ _, ?_⟩
            simp [Builtin.len_, tk_und hT hi, hd, run_getM ho, goInt, hE.1]
          | _ => simp [lenIn] at hk
      · cases h
    · cases h
  · rename_i t tr x xr
    obtain ⟨x', l', rfl, hx, _⟩ := AR.cons (x' := undef) hv
    split at h
    · rename_i i hi
      refine VOk.next ?_
      split at h
      · rename_i e a n c hd
        cases h
        cases hx <;> exact ⟨_, .int _ _, fun w => by simp [Builtin.cap_, tk_und hT hi, hd, goInt]⟩
      · cases h
    · cases h
  · rename_i k x r
    obtain ⟨x', l', rfl, hx, hl⟩ := AR.cons (x' := undef) hv
    split at h
    · rename_i z hz
      cases h; cases hx
      exact VOk.next ⟨_, .int _ _, fun w => by simpa [Builtin.max_] using fold_max (P := P) r l' k x z hl hz w⟩
    · cases h
  · rename_i k x r
    obtain ⟨x', l', rfl, hx, hl⟩ := AR.cons (x' := undef) hv
    split at h
    · rename_i z hz
      cases h; cases hx
      exact VOk.next ⟨_, .int _ _, fun w => by simpa [Builtin.min_] using fold_min (P := P) r l' k x z hl hz w⟩
    · cases h
  · rename_i t tr m k a r
    obtain ⟨m', l', rfl, hm, hl⟩ := AR.cons (x' := undef) hv
    obtain ⟨a', l2, e2, ha, _⟩ := AR.cons (x' := undef) hl
    cases e2; cases ha
    split at h
    · rename_i i hi
      split at h
      · rename_i kt et hd
        split at h
        · rename_i ki hki
          split at h
          · rename_i kk hkd
            refine VOk.next ?_
            split at h
            · cases h; cases hm
              refine ⟨_, (AR.nil f).tuple, fun w => ?_⟩
              simp [Builtin.delete_, tk_und hT hi, hd, run_ck hT hki hkd]
            · rename_i r
              cases h
              cases hm with
              | map hn =>
                rename_i b
                refine ⟨⟨_, hn⟩, ?_⟩
                intro b2 o o' w u p hb ho hr hk
                rw [hn] at hb; cases hb
                cases hr with
                | map ck hE =>
                  rename_i es es'
                  obtain ⟨es⟩ := es
                  obtain ⟨es'⟩ := es'
                  simp only [delIn] at hk
                  cases hf : findI k a es with
                  | none => rw [hf] at hk; cases hk
                  | some q =>
                    rw [hf] at hk
                    rcases findI_ok (kk := kk) 0 hE hf with ⟨rfl, h2⟩ | ⟨i2, v2, v2', rfl, h2, h3, h4⟩
                    · cases hk
                      refine ⟨_, _, (AR.nil f).tuple, .map ck hE, ?_⟩
                      simp [Builtin.delete_, tk_und hT hi, hd, run_getM ho, run_ck hT hki hkd, run_fk hT hki hkd _ _ es' none w h2, run_setM _ ho]
                    · simp only at hk
                      split at hk
                      · rename_i rr hrr
                        cases hk
                        have := delE_eq _ _ _ hrr
                        subst this
                        refine ⟨_, _, (AR.nil f).tuple, .map ck (ES.del hE i2), ?_⟩
                        have e3 : (⟨es'⟩ : Array MapEntry).eraseIdxIfInBounds i2 = ⟨es'.eraseIdx i2⟩ := by
                          apply Array.toList_inj.1
                          simp [Array.eraseIdxIfInBounds]
                          split
                          · simp
                          · rename_i hge; rw [List.eraseIdx_of_length_le (by omega)]
                        simp [Builtin.delete_, tk_und hT hi, hd, run_getM ho, run_ck hT hki hkd, run_fk hT hki hkd _ _ es' _ w h3, run_setM _ ho, e3]
                      · cases hk
                | _ => simp [delIn] at hk
            · cases h
          · cases h
        · cases h
      · cases h
    · cases h
  · cases h
end ops
end Go.Proofs.YtkcmhcgmiflgbaaDoor
namespace Go.Proofs.YtkcmhcgmiflgbaaDoor
open Go
section ops
variable {P : Program} {tt : List (Nat × TK)} (hT : TKok P tt) {f : NM}
theorem Ev.evalO {ng : Nat} {S : St} {a : Act} (H : Ev ng f S a) {x : Option Operand} {v : Option Value} (h : evalO ng S x = some v) : OVR f v (x.map a.eval) := by
  cases x with
  | none => cases h; exact .none
  | some x =>
    simp only [Go.Proofs.YtkcmhcgmiflgbaaDoor.evalO] at h
    split at h
    · rename_i v hv; cases h; exact .some (H.eval hv)
    · cases h
theorem Ev.evalP {ng : Nat} {S : St} {a : Act} (H : Ev ng f S a) : ∀ {l : List (Nat × Operand)} {vs : List (Nat × Value)} (_ : evalP ng S l = some vs), PR f vs (l.map fun (i, x) => (i, a.eval x)) := by
  intro l
  induction l with
  | nil => intro vs h; cases h; exact .nil
  | cons x r ih =>
    obtain ⟨i, x⟩ := x
    intro vs h
    simp only [Go.Proofs.YtkcmhcgmiflgbaaDoor.evalP] at h
    split at h
    · rename_i v hv
      split at h
      · rename_i us hus
        cases h
        exact .cons ⟨rfl, H.eval hv⟩ (ih hus)
      · cases h
    · cases h

def accG (ng : Nat) (tt : List (Nat × TK)) (S : St) (o : Op) : Option Acc :=
  match o with
  | .move x => match evalG ng S x with
    | some v => some (.val v)
    | none => none
  | .assign x => match evalG ng S x with
    | some v => some (.val v)
    | none => none
  | .pick c x y => match evalG ng S c with
    | some (.bool t) => match t with
      | true => match evalG ng S x with
        | some v => some (.val v)
        | none => none
      | false => match evalG ng S y with
        | some v => some (.val v)
        | none => none
    | _ => none
  | .alloc e => match look tt e with
    | some i => allocAcc i e
    | none => none
  | .box e x => match evalG ng S x with
    | some v => some (boxAcc e v)
    | none => none
  | .build t ps => match look tt t, evalP ng S ps.toList with
    | some i, some l => buildAcc tt i l
    | _, _ => none
  | .buildSlice t n ps => match look tt t, evalP ng S ps.toList with
    | some i, some l => bsAcc tt i n l
    | _, _ => none
  | .load t x => match look tt t, evalG ng S x with
    | some i, some v => loadAcc i v
    | _, _ => none
  | .store t x y => match look tt t, evalG ng S x, evalG ng S y with
    | some i, some v, some u => storeAcc i u v
    | _, _, _ => none
  | .nilCheck x => match evalG ng S x with
    | some v => nilAcc v
    | none => none
  | .binOp op t x y _ => match look tt t, evalG ng S x, evalG ng S y with
    | some i, some v, some u => binAccT tt i op v u
    | _, _, _ => none
  | .unOp op _ x => match evalG ng S x with
    | some v => unAcc op v
    | none => none
  | .convert s d x => match evalG ng S x with
    | some v => convAcc tt s d v
    | none => none
  | .makeInterface t x => match look tt t, evalG ng S x with
    | some i, some v => ifAcc i t v
    | _, _ => none
  | .makeFunc fn xs ys => match evalL ng S xs.toList, evalL ng S ys.toList with
    | some l, some m => fnAcc fn l m
    | _, _ => none
  | .makeMap _ none => some (.new (.map #[] 0) fun n => .map (some n))
  | .makeSlice t l c => match look tt t, evalG ng S l, evalG ng S c with
    | some i, some v, some u => msAcc tt i v u
    | _, _, _ => none
  | .slice t x lo hi none => match look tt t, evalG ng S x, evalO ng S lo, evalO ng S hi with
    | some i, some v, some l, some h => cutAcc tt i v l h
    | _, _, _, _ => none
  | .fieldAddr s x k => match look tt s, evalG ng S x with
    | some i, some v => fieldAcc tt i k v
    | _, _ => none
  | .field s x k => match look tt s, evalG ng S x with
    | some i, some v => selAcc tt i k v
    | _, _ => none
  | .indexAddr t x ix => match look tt t, evalG ng S x, evalG ng S ix with
    | some i, some v, some u => indexAcc tt i v u
    | _, _, _ => none
  | .index t x ix => match look tt t, evalG ng S x, evalG ng S ix with
    | some i, some v, some u => elemAcc tt i v u
    | _, _, _ => none
  | .lookup t m x ok => match look tt t, evalG ng S m, evalG ng S x with
    | some i, some v, some u => lookAcc tt i ok v u
    | _, _, _ => none
  | .mapUpdate t m x y => match look tt t, evalG ng S m, evalG ng S x, evalG ng S y with
    | some i, some v, some u, some z => updAcc tt i v u z
    | _, _, _, _ => none
  | .insert t m x y => match look tt t, evalG ng S m, evalG ng S x, evalG ng S y with
    | some i, some v, some u, some z => updAcc tt i v u z
    | _, _, _, _ => none
  | .extract x k => match evalG ng S x with
    | some v => exAcc k v
    | none => none
  | .call ⟨.builtin b, xs, ts⟩ => match evalL ng S xs.toList with
    | some l => bltAcc tt b ts.toList l
    | none => none
  | _ => none

include hT in
theorem acc_ok {ng : Nat} {S : St} {a : Act} (H : Ev ng f S a) {o : Oper} {acc : Acc} (h : accG ng tt S o.op = some acc) : NOk P f (execOp a.eval o) acc := by
  unfold accG at h
  unfold execOp
  split at h <;> (try (rename_i e; rw [e]))
  case h_1 => split at h <;> cases h; rename_i v hv; exact ⟨_, _, H.eval hv, Or.inl rfl, fun w => rfl⟩
  case h_2 => split at h <;> cases h; rename_i v hv; exact ⟨_, _, H.eval hv, Or.inl rfl, fun w => rfl⟩
  case h_3 c x y =>
    split at h
    · rename_i t hc
      have h0 := H.eval hc
      have h1 : a.eval c = .bool t := by
        generalize a.eval c = z at h0
        cases h0; rfl
      split at h
      · split at h
        · rename_i v hv
          cases h
          exact ⟨_, _, H.eval hv, Or.inl rfl, fun w => by simp [asBool, h1]⟩
        · cases h
      · split at h
        · rename_i v hv
          cases h
          exact ⟨_, _, H.eval hv, Or.inl rfl, fun w => by simp [asBool, h1]⟩
        · cases h
    · cases h
  case h_4 =>
    split at h
    · rename_i i hi; exact (allocAcc_ok hT hi h).next
    · cases h
  case h_5 =>
    split at h
    · rename_i v hv; cases h; exact (boxAcc_ok (H.eval hv)).next
    · cases h
  case h_6 t ps =>
    split at h
    · rename_i i l hi hl
      have := (buildAcc_ok hT hi (H.evalP hl) h).next
      have e2 : (List.map (fun (x : Nat × Operand) => (x.1, a.eval x.2)) ps.toList).toArray = ps.map (fun x => (x.1, a.eval x.2)) := by apply Array.toList_inj.1; simp
      rw [e2] at this
      exact this
    · cases h
  case h_7 t n ps =>
    split at h
    · rename_i i l hi hl
      have := (bsAcc_ok hT hi (H.evalP hl) h).next
      have e2 : (List.map (fun (x : Nat × Operand) => (x.1, a.eval x.2)) ps.toList).toArray = ps.map (fun x => (x.1, a.eval x.2)) := by apply Array.toList_inj.1; simp
      rw [e2] at this
      exact this
    · cases h
  case h_8 =>
    split at h
    · rename_i i v hi hv; exact (loadAcc_ok hT hi h (H.eval hv)).next
    · cases h
  case h_9 =>
    split at h
    · rename_i i v u hi hv hu; exact storeAcc_ok hT hi h (H.eval hv) (H.eval hu)
    · cases h
  case h_10 x =>
    split at h
    · rename_i v hv
      have h0 := H.eval hv
      generalize hx : a.eval x = xv at h0
      unfold nilAcc at h
      split at h
      · cases h; cases h0 with
        | ptr hn => exact ⟨_, .value _, .ptr hn, Or.inl rfl, fun w => by simp only [hx]; rfl⟩
      · cases h; cases h0 with
        | func _ a1 a2 a3 a4 => exact ⟨_, .value _, .func _ a1 a2 a3 a4, Or.inl rfl, fun w => by simp only [hx]; rfl⟩
      · cases h
    · cases h
  case h_11 =>
    split at h
    · rename_i i v u hi hv hu; exact (binAccT_ok hT hi _ _ h (H.eval hv) (H.eval hu)).next
    · cases h
  case h_12 =>
    split at h
    · rename_i v hv; exact (unAcc_ok h (H.eval hv)).next
    · cases h
  case h_13 =>
    split at h
    · rename_i v hv; exact (convAcc_ok hT h (H.eval hv)).next
    · cases h
  case h_14 =>
    split at h
    · rename_i i v hi hv; exact (ifAcc_ok hT hi (H.eval hv) h).next
    · cases h
  case h_15 fn xs ys =>
    split at h
    · rename_i l m hl hm
      have h1 := H.evalL hl
      have h2 := H.evalL hm
      have e1 : (⟨List.map a.eval xs.toList⟩ : Array Value) = xs.map a.eval := by apply Array.toList_inj.1; simp
      have e2 : (⟨List.map a.eval ys.toList⟩ : Array Value) = ys.map a.eval := by apply Array.toList_inj.1; simp
      rw [e1] at h1; rw [e2] at h2
      exact (fnAcc_ok h1 h2 h).next
    · cases h
  case h_16 =>
    cases h
    exact VOk.next ⟨.map #[] 0, .map 0 ⟨rfl, fun i e e' h => by simp at h⟩, fun w => ⟨_, rfl, fun n g _ hg => .map hg⟩⟩
  case h_17 =>
    split at h
    · rename_i i v u hi hv hu; exact (msAcc_ok hT hi (H.eval hv) (H.eval hu) h).next
    · cases h
  case h_18 =>
    split at h
    · rename_i i v l hh hi hv hl hhh; exact (cutAcc_ok hT hi h (H.eval hv) (H.evalO hl) (H.evalO hhh)).next
    · cases h
  case h_19 =>
    split at h
    · rename_i i v hi hv; exact (fieldAcc_ok hT hi h (H.eval hv)).next
    · cases h
  case h_20 =>
    split at h
    · rename_i i v hi hv; exact (selAcc_ok hT hi h (H.eval hv)).next
    · cases h
  case h_21 =>
    split at h
    · rename_i i v u hi hv hu; exact (indexAcc_ok hT hi h (H.eval hv) (H.eval hu)).next
    · cases h
  case h_22 =>
    split at h
    · rename_i i v u hi hv hu; exact (elemAcc_ok hT hi h (H.eval hv) (H.eval hu)).next
    · cases h
  case h_23 =>
    split at h
    · rename_i i v u hi hv hu; exact (lookAcc_ok hT hi (H.eval hv) (H.eval hu) h).next
    · cases h
  case h_24 =>
    split at h
    · rename_i i v u z hi hv hu hz; exact updAcc_ok hT hi (H.eval hv) (H.eval hu) (H.eval hz) h
    · cases h
  case h_25 =>
    split at h
    · rename_i i v u z hi hv hu hz; exact updAcc_ok hT hi (H.eval hv) (H.eval hu) (H.eval hz) h
    · cases h
  case h_26 =>
    split at h
    · rename_i v hv; exact (exAcc_ok (H.eval hv) h).next
    · cases h
  case h_27 b xs ts =>
    split at h
    · rename_i l hl
      have h1 := H.evalL hl
      have e1 : (⟨List.map a.eval xs.toList⟩ : Array Value) = xs.map a.eval := by apply Array.toList_inj.1; simp
      rw [e1] at h1
      simp only [resolve, pure_bind, invoke]
      exact bltAcc_ok hT h1 h
    · cases h
  case h_28 => cases h
end ops
end Go.Proofs.YtkcmhcgmiflgbaaDoor
namespace Go.Proofs.YtkcmhcgmiflgbaaDoor
open Go

/-- either way -/
def bif2 (y : Bool) (A B : Prop) : Prop := match y with
  | true => A
  | false => B
theorem bif2_split {y : Bool} {A B : Prop} (h1 : y = true → A) (h2 : y = false → B) : bif2 y A B := by
  cases y
  · exact h2 rfl
  · exact h1 rfl
theorem bif2_true {y : Bool} {A B : Prop} (h : y = true) (h1 : A) : bif2 y A B := by rw [h]; exact h1
theorem bif2_false {y : Bool} {A B : Prop} (h : y = false) (h1 : B) : bif2 y A B := by rw [h]; exact h1
def catO : List Value → List Value → Option (List Value)
  | [], l => some l
  | x :: r, l => match catO r l with
    | some q => some (x :: q)
    | none => none
theorem catO_eq (a b : List Value) : catO a b = some (a ++ b) := by
  induction a with
  | nil => rfl
  | cons x a ih => simp [catO, ih]
/-- what a reckoning yields, handed on -/
def rdK {α : Type} (r : Option α) (K : α → Prop) : Prop := match r with
  | some v => K v
  | none => False
theorem rdK_intro {α : Type} {r : Option α} {v : α} {K : α → Prop} (h : r = some v) (k : K v) : rdK r K := by subst h; exact k
theorem rdK_out {α : Type} {r : Option α} {K : α → Prop} (h : rdK r K) : ∃ v, r = some v ∧ K v := by
  cases r with
  | none => exact h.elim
  | some v => exact ⟨v, rfl, h⟩
theorem rdK_mono {α : Type} {r : Option α} {K K' : α → Prop} (hK : ∀ v, K v → K' v) (h : rdK r K) : rdK r K' := by
  cases r with
  | none => exact h
  | some v => exact hK v h
/-- one list behind the other, laid out -/
def catK (a q : List Value) (K : List Value → Prop) : Prop := match a with
  | [] => K q
  | x :: r => catK r q fun l => K (x :: l)
theorem catK_eq (q : List Value) : ∀ (a : List Value) (K : List Value → Prop), catK a q K = K (a ++ q) := by
  intro a
  induction a with
  | nil => intro K; rfl
  | cons x r ih => intro K; simp only [catK]; rw [ih]; rfl
/-- the cells of a slice's first elements -/
def rowOf (h : List (Nat × GO)) (a : Option Addr) (k : Nat) : Option (List Value) := match a with
  | none => match k with
    | 0 => some []
    | _ + 1 => none
  | some ⟨n, off, none⟩ => match look h n with
    | some g => match g.obj with
      | some (.cells c _ _) => sliceL off k c.toList
      | _ => none
    | none => none
  | _ => none
structure AppR where
  a : Option Addr
  n : Nat
  c : Nat
  b : Option Addr
  m : Nat
  size : Nat
  bytes : Nat
  elem : Nat
  z : List Value
def appIn (ys : List Value) (off : Nat) : Obj → Option Obj
  | .cells c t fz => match Nat.beq fz.1 0 && Nat.beq fz.2 0 && oneL ys with
    | true => match blitL off ys c.toList with
      | some r => some (.cells ⟨r⟩ t (0, 0))
      | none => none
    | false => none
  | _ => none
def appPut (h : List (Nat × GO)) (ys : List Value) (a : Option Addr) (k n c : Nat) (ns : List Nat) (K : Value → List (Nat × GO) → List Nat → Prop) : Prop := match a with
  | none => K (.slice none n c) h ns
  | some ⟨nm, off, none⟩ => match look h nm with
    | some (.rw o) => rdK (appIn ys (off + k) o) fun o' => K (.slice (some ⟨nm, off, none⟩) n c) ((nm, .rw o') :: h) ns
    | _ => False
  | _ => False
def appR (tt : List (Nat × TK)) (ts : List TypeId) (vs : List Value) : Option AppR :=
  match ts, vs with
  | t :: t2 :: _, [.slice a n c, .slice b m _] => match look tt t, look tt t2 with
    | some i, some i2 => match i.desc, i2.desc with
      | .slice e, .slice _ => match look tt e with
        | some j => match zeroL j, Nat.beq j.size 0 with
          | some z, false => match Nat.beq z.length j.size with
            | true => some ⟨a, n, c, b, m, j.size, j.bytes, e, z⟩
            | false => none
          | _, _ => none
        | none => none
      | _, _ => none
    | _, _ => none
  | _, _ => none
def runApp (r : AppR) (h : List (Nat × GO)) (ns : List Nat) (K : Value → List (Nat × GO) → List Nat → Prop) : Prop := match r with
  | ⟨a, n, c, b, m, size, bytes, e, z⟩ => rdK (rowOf h b (m * size)) fun ys => bif2 (Nat.ble (n + m) c) (appPut h ys a (n * size) (n + m) c ns K)
    (match ns with
      | nm :: ns' => (Builtin.nextslicecap (n + m) c * bytes ≤ 281474976710656 ∧ n + m ≤ 9223372036854775807) ∧ rdK (rowOf h a (n * size)) fun xs => ∀ nc : Nat, n + m ≤ nc →
          catK ys (repL (nc - (n + m)) z) fun q => catK xs q fun l => K (.slice (some ⟨nm, 0, none⟩) (n + m) nc) ((nm, .rw (.cells ⟨l⟩ e)) :: h) ns'
      | [] => False)
inductive AppG (r : AppR) (h : List (Nat × GO)) (ns : List Nat) (K : Value → List (Nat × GO) → List Nat → Prop) : Prop
  | mk : runApp r h ns K → AppG r h ns K
theorem AppG.out {r : AppR} {h : List (Nat × GO)} {ns : List Nat} {K : Value → List (Nat × GO) → List Nat → Prop} (H : AppG r h ns K) : runApp r h ns K := by cases H; assumption
theorem appPut_mono {h : List (Nat × GO)} {ys : List Value} {a : Option Addr} {k n c : Nat} {ns : List Nat} {K K' : Value → List (Nat × GO) → List Nat → Prop} (hK : ∀ v h n, K v h n → K' v h n)
    (H : appPut h ys a k n c ns K) : appPut h ys a k n c ns K' := by
  unfold appPut at H ⊢
  split at H
  · exact hK _ _ _ H
  · split at H
    · exact rdK_mono (fun v h => hK _ _ _ h) H
    · exact H.elim
  · exact H.elim
theorem runApp_mono {r : AppR} {h : List (Nat × GO)} {ns : List Nat} {K K' : Value → List (Nat × GO) → List Nat → Prop} (hK : ∀ v h n, K v h n → K' v h n)
    (H : runApp r h ns K) : runApp r h ns K' := by
  obtain ⟨a, n, c, b, m, size, bytes, e, z⟩ := r
  simp only [runApp] at H ⊢
  refine rdK_mono (fun ys H => ?_) H
  cases hb : Nat.ble (n + m) c with
  | true =>
    rw [hb] at H
    simp only [bif2] at H ⊢
    exact appPut_mono hK H
  | false =>
    rw [hb] at H
    simp only [bif2] at H ⊢
    cases ns with
    | nil => exact H.elim
    | cons nm ns' =>
      refine ⟨H.1, rdK_mono (fun xs H nc hc => ?_) H.2⟩
      have := H nc hc
      simp only [catK_eq] at this ⊢
      exact hK _ _ _ this

/-- what an append does that finds room -/
def putO (a : Option Addr) (k : Nat) (ys : List Value) : Sem Unit := match a with
  | some a => storeCells (a.add k) ys
  | none => pure ()
section
variable {P : Program} {tt : List (Nat × TK)} (hT : TKok P tt) {f : NM}
theorem sliceL_AR {f : NM} {c : Array Value} {c' : Array Value} (hc : AR f c c') {o n : Nat} {r : List Value} (h : sliceL o n c.toList = some r) : o + n ≤ c'.size ∧ AR f ⟨r⟩ ⟨(c'.toList.drop o).take n⟩ := by
  obtain ⟨h1, h2⟩ := sliceL_eq _ _ _ _ h
  refine ⟨by have := hc.1; simp at h1; omega, ?_⟩
  have := hc.extract o (o + n)
  rw [extract_list, extract_list] at this
  rw [h2]; exact this
theorem rowOf_ok {h : List (Nat × GO)} {w : World} (hs : ∀ n g, look h n = some g → Holds f w n g) {a a' : Option Addr} {n c : Nat} {size : Nat} (ha : VR f (.slice a n c) (.slice a' n c)) {xs : List Value}
    (hr : rowOf h a (n * size) = some xs) : ∃ xs' : List Value, AR f ⟨xs⟩ ⟨xs'⟩ ∧ ∀ w2 : World, w2.heap = w.heap → (Builtin.firstCells size n (.slice a' n c)).run P w2 = .ok ⟨xs'⟩ w2 := by
  unfold rowOf at hr
  cases ha with
  | sliceN =>
    simp only at hr
    split at hr
    · cases hr; exact ⟨[], AR.nil f, fun _ _ => rfl⟩
    · cases hr
  | sliceZ m off A =>
    simp only at hr
    split at hr
    · rename_i g hg
      split at hr
      · obtain ⟨h1, h2⟩ := sliceL_eq _ _ _ _ hr
        simp at h2; subst h2
        refine ⟨[], AR.nil f, fun w2 _ => ?_⟩
        cases a' with
        | none => rfl
        | some a =>
          simp only [Builtin.firstCells]
          have := run_loadCells_list (P := P) w2 a [] (fun j u hu => by simp at hu)
          simpa using this
      · cases hr
    · cases hr
  | slice hn =>
    rename_i m b off
    simp only at hr
    split at hr
    · rename_i g hl
      split at hr
      · rename_i cs t fz hgo
        obtain ⟨o', g2, g3⟩ := (hs m _ hl).obj hgo hn
        cases g3 with
        | cells _ _ hc =>
          rename_i cs'
          obtain ⟨h1, h2⟩ := sliceL_AR hc hr
          refine ⟨_, h2, fun w hw2 => ?_⟩
          rw [← hw2] at g2
          simp only [Builtin.firstCells]
          have hl2 : ((cs'.toList.drop off).take (n * size)).length = n * size := by simp; omega
          have := run_loadCells_list (P := P) w ⟨b, off, none⟩ ((cs'.toList.drop off).take (n * size)) (fun j u hu => by
            rw [show Addr.add ⟨b, off, none⟩ j = ⟨b, off + j, none⟩ from Addr.add_lit b off j, cell_row g2]
            rw [List.getElem?_take] at hu
            split at hu
            · simpa [List.getElem?_drop] using hu
            · cases hu)
          rw [hl2] at this
          exact this
      · cases hr
    · cases hr
end
end Go.Proofs.YtkcmhcgmiflgbaaDoor
namespace Go.Proofs.YtkcmhcgmiflgbaaDoor
open Go
section
variable {P : Program} {tt : List (Nat × TK)} (hT : TKok P tt) {f : NM} {c : Cx}
include hT in
theorem app_sound {t : List (Nat × Value)} {h : List (Nat × GO)} {ns : List Nat} {a : Act} {w : World} (H : Sat c f ⟨t, h, ns⟩ a w) {ts : List TypeId} {ty : TypeId} {vs : List Value} {vs' : Array Value} (hv : AR f ⟨vs⟩ vs') {r : AppR}
    (hr : appR tt ts vs = some r) {K : Value → List (Nat × GO) → List Nat → Prop} (hK : runApp r h ns K) :
    ∃ v v' h' n' f' w', (Builtin.append_ ⟨ts⟩ ty vs').run P w = .ok v' w' ∧ VR f' v v' ∧ Sat c f' ⟨t, h', n'⟩ a w' ∧ K v h' n' := by
  unfold appR at hr
  split at hr
  · rename_i t1 t2 tr ad n cp bd m cp2
    obtain ⟨s', l1, rfl, hs, hl1⟩ := AR.cons (x' := undef) hv
    obtain ⟨x', l2, e2, hx, hl2⟩ := AR.cons (x' := undef) hl1
    cases e2
    split at hr
    · rename_i i i2 hi hi2
      split at hr
      · rename_i e e' hd hd2
        split at hr
        · rename_i j hj
          split at hr
          · rename_i z hz hjz
            split at hr
            · rename_i hzl
              cases hr
              obtain ⟨z1, z2⟩ := zeroL_eq hz
              have hsz : j.zero.cells.size = j.size := by rw [z1]; simpa using Nat.eq_of_beq_eq_true hzl
              have hj0 : j.size ≠ 0 := fun h0 => by rw [h0] at hjz; simp at hjz
              obtain ⟨_, ⟨inf, k1, k2, k3, k4⟩, _⟩ := hT e j hj
              -- the two slices
              obtain ⟨ad', rfl⟩ : ∃ ad', s' = .slice ad' n cp := by cases hs <;> exact ⟨_, rfl⟩
              obtain ⟨bd', rfl⟩ : ∃ bd', x' = .slice bd' m cp2 := by cases hx <;> exact ⟨_, rfl⟩
              simp only [runApp] at hK
              obtain ⟨ys, hys, hK⟩ := rdK_out hK
              obtain ⟨ys', hy1, hy2⟩ := rowOf_ok (P := P) (size := j.size) H.sees hx hys
              have e0 : l2 = [] := by have := hl2.1; exact List.eq_nil_of_length_eq_zero (by simpa using this.symm)
              subst e0
              have hund2 : ∀ w, (underlying t2).run P w = .ok i2.desc w := tk_und hT hi2
              by_cases hfit : n + m ≤ cp
              · rw [show Nat.ble (n + m) cp = true from Nat.ble_eq_true_of_le hfit] at hK
                simp only [bif2] at hK
                have hrun : (Builtin.append_ ⟨t1 :: t2 :: tr⟩ ty ⟨[.slice ad' n cp, .slice bd' m cp2]⟩).run P w = (putO ad' (n * j.size) ys' >>= fun _ => (pure (Value.slice ad' (n + m) cp) : Sem Value)).run P w := by
                  simp only [Builtin.append_, List.getElem?_toArray, List.getElem?_cons_zero, List.getElem?_cons_succ, Sem.run_bind, tk_und hT hi, hund2, Result.andThen_ok, hd, hd2, tk_size hT hj, Sem.run_pure, Bool.false_eq_true, if_false, Builtin.lenOf, Bool.not_false, if_true, hfit, hy2 w rfl]
                  cases ad' with
                  | none => rfl
                  | some ad' => simp only [putO, Sem.run_bind, Sem.run_pure]
                rw [hrun]
                cases hs with
                | sliceN =>
                  simp only [appPut] at hK
                  exact ⟨_, _, h, ns, f, w, rfl, .sliceN _ _, H, hK⟩
                | sliceZ nm off A =>
                  simp only [appPut] at hK
                  have hm0 : m = 0 := by omega
                  subst hm0
                  split at hK
                  · rename_i o hlk
                    obtain ⟨o2, hin, hK2⟩ := rdK_out hK
                    clear hK
                    have hys0 : ys = [] := by
                      have hl : ys.length = 0 * j.size := by
                        unfold rowOf at hys
                        split at hys
                        · split at hys
                          · cases hys; simp
                          · cases hys
                        · split at hys
                          · split at hys
                            · obtain ⟨q1, q2⟩ := sliceL_eq _ _ _ _ hys
                              rw [q2]; simp
                            · cases hys
                          · cases hys
                        · cases hys
                      exact List.eq_nil_of_length_eq_zero (by simpa using hl)
                    subst hys0
                    have : o2 = o := by
                      cases o with
                      | cells cs cty fz =>
                        simp only [appIn] at hin
                        split at hin
                        · rename_i e0
                          simp only [Bool.and_eq_true] at e0
                          obtain ⟨fa, fb⟩ := fz
                          have z1 : fa = 0 := Nat.eq_of_beq_eq_true e0.1.1
                          have z2 : fb = 0 := Nat.eq_of_beq_eq_true e0.1.2
                          subst z1; subst z2
                          split at hin
                          · rename_i r e3
                            cases hin
                            obtain ⟨h1, h2, h3⟩ := blitL_eq _ _ _ _ e3
                            have : r = cs.toList := by
                              apply List.ext_getElem?
                              intro i
                              rw [h3 i]
                              rw [if_neg (by simp)]
                            rw [this]
                          · cases hin
                        · cases hin
                      | _ => simp [appIn] at hin
                    subst this
                    refine ⟨_, _, (nm, .rw o2) :: h, ns, f, w, ?_, .sliceZ _ _ ad', { H with sees := fun k g hk => ?_ }, hK2⟩
                    · have hy0 : ys' = [] := by
                        have := hy1.1
                        exact List.eq_nil_of_length_eq_zero (by simpa using this.symm)
                      subst hy0
                      cases ad' <;> rfl
                    rw [look_cons] at hk
                    by_cases e : nm = k
                    · subst e; rw [if_pos rfl] at hk; cases hk; exact H.sees _ _ hlk
                    · rw [if_neg e] at hk; exact H.sees k g hk
                  · exact hK.elim
                | slice hn =>
                  rename_i nm b off _
                  simp only [appPut] at hK
                  split at hK
                  · rename_i o hlk
                    obtain ⟨o2, hin, hK⟩ := rdK_out hK
                    obtain ⟨o', g0, g2, g3⟩ := H.sees nm _ hlk _ hn
                    cases g3 with
                    | cells cty fz hc =>
                      rename_i cs cs'
                      simp only [appIn] at hin
                      split at hin
                      · rename_i e0
                        simp only [Bool.and_eq_true] at e0
                        obtain ⟨⟨q1, q2⟩, e2⟩ := e0
                        obtain ⟨fa, fb⟩ := fz
                        have z1 : fa = 0 := Nat.eq_of_beq_eq_true q1
                        have z2 : fb = 0 := Nat.eq_of_beq_eq_true q2
                        subst z1; subst z2
                        split at hin
                        · rename_i r e3
                          cases hin
                          obtain ⟨h1, h2⟩ := blit_AR hc (vs := ys) (vs' := ys') hy1 e3
                          refine ⟨_, _, (nm, .rw (.cells ⟨r⟩ cty)) :: h, ns, f, _, ?_, .slice hn, H.write hlk hn (.cells cty (0, 0) h2), hK⟩
                          have := run_storeCells (P := P) b cty (off + n * j.size) ys' w cs' 0 g2 (oneL_VR hy1 e2) (by simpa using h1)
                          simp only [putO, Sem.run_bind, Addr.add_lit, this, Result.andThen_ok, Sem.run_pure, Nat.add_zero]
                        · cases hin
                      · cases hin
                    | _ => simp [appIn] at hin
                  · exact hK.elim
              · rw [show Nat.ble (n + m) cp = false from by rw [← Bool.not_eq_true]; exact fun hh => hfit (Nat.le_of_ble_eq_true hh)] at hK
                simp only [bif2, catK_eq] at hK
                cases ns with
                | nil => exact hK.elim
                | cons nm ns =>
                  simp only at hK
                  obtain ⟨⟨c1, c2⟩, hK⟩ := hK
                  obtain ⟨xs, hxs, hK⟩ := rdK_out hK
                  obtain ⟨xs', hx1, hx2⟩ := rowOf_ok (P := P) (size := j.size) H.sees hs hxs
                  have c1' : ¬ (Builtin.nextslicecap (n + m) cp * inf.bytes > 2 ^ 48) := by rw [k3]; omega
                  have c2' : ¬ (((n + m : Nat) : Int) > IntKind.i64.max) := by rw [IntKind.max_i64]; omega
                  let q : Question := .appendCap (n + m) cp e
                  have hq : n + m ≤ q.cut (w.tape w.drawn q) := by simp only [q, Question.cut]; omega
                  generalize hnc : q.cut (w.tape w.drawn q) = nc at hq
                  have hrun : (Builtin.append_ ⟨t1 :: t2 :: tr⟩ ty ⟨[.slice ad' n cp, .slice bd' m cp2]⟩).run P w = .ok (.slice (some ⟨w.heap.size, 0, none⟩) (n + m) nc) (({ w with drawn := w.drawn + 1 } : World).alloc (.cells (⟨xs'⟩ ++ ⟨ys'⟩ ++ ⟨repL (nc - (n + m)) z⟩) e)) := by
                    have hty : ∀ (w : World), (typeInfo e).run P w = .ok inf w := fun w => by simp [typeInfo, k1]
                    have hch : ∀ w2 : World, (choose (.appendCap (n + m) cp e)).run P w2 = .ok (q.cut (w2.tape w2.drawn q)) { w2 with drawn := w2.drawn + 1 } := fun w2 => by
                      rw [run_choose]; rfl
                    have hzc : Builtin.zeroCells j.zero.cells (nc - (n + m)) = ⟨repL (nc - (n + m)) z⟩ := by
                      have := range_repL (nc - (n + m)) j.zero.cells
                      unfold Builtin.zeroCells
                      rw [this, z1]
                    simp only [Builtin.append_, List.getElem?_toArray, List.getElem?_cons_zero, List.getElem?_cons_succ, Sem.run_bind, tk_und hT hi, hund2, Result.andThen_ok, hd, hd2, tk_size hT hj, Sem.run_pure, Bool.false_eq_true, if_false, Builtin.lenOf, Bool.not_false, if_true, hfit, hty, Sem.run_ite, c1', c2', false_and, hch, hnc, run_askRoom, hx2 { w with drawn := w.drawn + 1 } rfl, hy2 { w with drawn := w.drawn + 1 } rfl, tk_zero hT hj, hzc, newRow, run_newObj]
                    rfl
                  refine ⟨_, _, (nm, _) :: h, ns, _, _, hrun, ?_, (H.drawn (w.drawn + 1) (Nat.le_succ _)).fresh rfl (o := .cells ⟨xs ++ (ys ++ repL (nc - (n + m)) z)⟩ e) ?_, hK nc hq⟩
                  · exact .slice (nadd_self _ _ _)
                  · refine .cells e (0, 0) ?_
                    have hA : AR f ⟨repL (nc - (n + m)) z⟩ ⟨repL (nc - (n + m)) z⟩ := cleanA f (cleanL_rep z2 _)
                    have := (hx1.append hy1).append hA
                    simpa using this
            · cases hr
          · cases hr
        · cases hr
      · cases hr
    · cases hr
  · cases hr
end
end Go.Proofs.YtkcmhcgmiflgbaaDoor

/- Runs over a small memory with names: values that are the same up to the names of blocks; operations that look. -/
import Derived.Calls
import Derived.Laws.Entries
import Derived.Orders
import Derived.Below
import Derived.Laws.Sem
import Derived.IntWalk
import Derived.Test.YtkcmhcgmiflgbaaDoorGa
import Derived.Laws.StructEq
import Derived.WalkSpells
import Derived.Laws.Small
namespace Go.Proofs.YtkcmhcgmiflgbaaDoor
open Go

/-- names of blocks, and whose each block is -/
structure NM where
  m : Nat → Option Nat
  ow : Nat → Option Nat
instance : CoeFun NM (fun _ => Nat → Option Nat) := ⟨NM.m⟩
/-- a cell of which nothing is known -/
abbrev hole : Value := .chan none
/-- a cell that holds just this, whatever it is -/
abbrev lit (v : Value) : Value := .func (.method "") #[v] #[]

inductive VR (f : NM) : Value → Value → Prop where
  | bool (b) : VR f (.bool b) (.bool b)
  | int (k n) : VR f (.int k n) (.int k n)
  | float (k n) : VR f (.float k n) (.float k n)
  | string (s) : VR f (.string s) (.string s)
  | ptrN : VR f (.pointer none) (.pointer none)
  | ptr {n b off} : f n = some b → VR f (.pointer (some ⟨n, off, none⟩)) (.pointer (some ⟨b, off, none⟩))
  | sliceN (l c) : VR f (.slice none l c) (.slice none l c)
  | slice {n b off l c} : f n = some b → VR f (.slice (some ⟨n, off, none⟩) l c) (.slice (some ⟨b, off, none⟩) l c)
  | mapN : VR f (.map none) (.map none)
  | map {n b} : f n = some b → VR f (.map (some n)) (.map (some b))
  | nilFunc : VR f .nilFunc .nilFunc
  | nilIface : VR f .nilIface .nilIface
  | func (k) {x x' y y'} : x.size = x'.size → (∀ (i : Nat) (v v' : Value), x[i]? = some v → x'[i]? = some v' → VR f v v') →
      y.size = y'.size → (∀ (i : Nat) (v v' : Value), y[i]? = some v → y'[i]? = some v' → VR f v v') → VR f (.func (.func k) x y) (.func (.func k) x' y')
  | iface (t) {v v'} : VR f v v' → VR f (.iface t v) (.iface t v')
  | agg {x x'} : x.size = x'.size → (∀ (i : Nat) (v v' : Value), x[i]? = some v → x'[i]? = some v' → VR f v v') → VR f (.agg x) (.agg x')
  | tuple {x x'} : x.size = x'.size → (∀ (i : Nat) (v v' : Value), x[i]? = some v → x'[i]? = some v' → VR f v v') → VR f (.tuple x) (.tuple x')
  | any (v') : VR f hole v'
  | lit {b} (v) : f 500 = some b → f 599 = some b → VR f (lit v) v
  | sliceZ (n off A) : VR f (.slice (some ⟨n, off, none⟩) 0 0) (.slice A 0 0)

/-- rows of values -/
def AR (f : NM) (x x' : Array Value) : Prop := x.size = x'.size ∧ ∀ (i : Nat) (v v' : Value), x[i]? = some v → x'[i]? = some v' → VR f v v'

def NM.le (f g : NM) : Prop := ∀ n b, f n = some b → g n = some b
theorem NM.le.refl (f : NM) : NM.le f f := fun _ _ h => h
theorem NM.le.trans {f g h : NM} (a : NM.le f g) (b : NM.le g h) : NM.le f h := fun n c k => b n c (a n c k)

theorem VR.mono {f g : NM} (h : NM.le f g) {v v' : Value} (r : VR f v v') : VR g v v' := by
  induction r with
  | bool b => exact .bool b
  | int k n => exact .int k n
  | float k n => exact .float k n
  | string s => exact .string s
  | ptrN => exact .ptrN
  | ptr e => exact .ptr (h _ _ e)
  | sliceN l c => exact .sliceN l c
  | slice e => exact .slice (h _ _ e)
  | mapN => exact .mapN
  | map e => exact .map (h _ _ e)
  | nilFunc => exact .nilFunc
  | nilIface => exact .nilIface
  | func k a _ b _ i1 i2 => exact .func k a i1 b i2
  | iface t _ i => exact .iface t i
  | agg a _ i => exact .agg a i
  | tuple a _ i => exact .tuple a i
  | any v => exact .any v
  | lit v h1 h2 => exact .lit v (h _ _ h1) (h _ _ h2)
  | sliceZ n o A => exact .sliceZ n o A
theorem AR.mono {f g : NM} (h : NM.le f g) {x x' : Array Value} (r : AR f x x') : AR g x x' := ⟨r.1, fun i v v' a b => (r.2 i v v' a b).mono h⟩
theorem AR.nil (f : NM) : AR f #[] #[] := ⟨rfl, fun i v v' h => by simp at h⟩
theorem AR.get {f : NM} {x x' : Array Value} (r : AR f x x') {i : Nat} {v : Value} (h : x[i]? = some v) : ∃ v', x'[i]? = some v' ∧ VR f v v' := by
  have hi : i < x.size := (Array.getElem?_eq_some_iff.1 h).1
  have : i < x'.size := r.1 ▸ hi
  exact ⟨x'[i], by simp [this], r.2 i v _ h (by simp [this])⟩
theorem AR.get' {f : NM} {x x' : Array Value} (r : AR f x x') {i : Nat} {v' : Value} (h : x'[i]? = some v') : ∃ v, x[i]? = some v ∧ VR f v v' := by
  have hi : i < x'.size := (Array.getElem?_eq_some_iff.1 h).1
  have : i < x.size := r.1 ▸ hi
  exact ⟨x[i], by simp [this], r.2 i _ v' (by simp [this]) h⟩
theorem AR.push {f : NM} {x x' : Array Value} (r : AR f x x') {v v' : Value} (h : VR f v v') : AR f (x.push v) (x'.push v') := by
  refine ⟨by simp [r.1], fun i a b ha hb => ?_⟩
  rw [Array.getElem?_push] at ha hb
  rw [r.1] at ha
  split at ha
  · rename_i e; rw [if_pos e] at hb; cases ha; cases hb; exact h
  · rename_i e; rw [if_neg e] at hb; exact r.2 i a b ha hb
theorem AR.one {f : NM} {v v' : Value} (h : VR f v v') : AR f #[v] #[v'] := (AR.nil f).push h
theorem AR.append {f : NM} {x x' y y' : Array Value} (r : AR f x x') (s : AR f y y') : AR f (x ++ y) (x' ++ y') := by
  refine ⟨by simp [r.1, s.1], fun i a b ha hb => ?_⟩
  rw [Array.getElem?_append] at ha hb
  rw [r.1] at ha
  split at ha
  · rename_i e; rw [if_pos e] at hb; exact r.2 i a b ha hb
  · rename_i e; rw [if_neg e] at hb; exact s.2 _ a b ha hb
theorem AR.extract {f : NM} {x x' : Array Value} (r : AR f x x') (i j : Nat) : AR f (x.extract i j) (x'.extract i j) := by
  refine ⟨by simp [r.1], fun k a b ha hb => ?_⟩
  rw [Array.getElem?_extract] at ha hb
  rw [r.1] at ha
  split at ha
  · rename_i e; rw [if_pos e] at hb; exact r.2 _ a b ha hb
  · cases ha
theorem AR.set {f : NM} {x x' : Array Value} (r : AR f x x') (i : Nat) {v v' : Value} (h : VR f v v') : AR f (x.setIfInBounds i v) (x'.setIfInBounds i v') := by
  refine ⟨by simp [r.1], fun k a b ha hb => ?_⟩
  rw [Array.getElem?_setIfInBounds] at ha hb
  rw [r.1] at ha
  split at ha
  · rename_i e; rw [if_pos e] at hb
    split at ha
    · rename_i e2; rw [if_pos e2] at hb; cases ha; cases hb; exact h
    · cases ha
  · rename_i e; rw [if_neg e] at hb; exact r.2 _ a b ha hb
theorem VR.aggR {f : NM} {x x' : Array Value} (h : VR f (.agg x) (.agg x')) : AR f x x' := by
  cases h with | agg a b => exact ⟨a, b⟩
theorem AR.agg {f : NM} {x x' : Array Value} (h : AR f x x') : VR f (.agg x) (.agg x') := .agg h.1 h.2
theorem AR.tuple {f : NM} {x x' : Array Value} (h : AR f x x') : VR f (.tuple x) (.tuple x') := .tuple h.1 h.2
def noHole : Value → Bool
  | .chan _ => false
  | .func (.method _) _ _ => false
  | _ => true
theorem VR.cells {f : NM} {v v' : Value} (h : VR f v v') (hn : noHole v = true) : AR f v.cells v'.cells := by
  cases h with
  | agg a b => exact ⟨a, b⟩
  | bool b => exact AR.one (.bool b)
  | int k n => exact AR.one (.int k n)
  | float k n => exact AR.one (.float k n)
  | string s => exact AR.one (.string s)
  | ptrN => exact AR.one .ptrN
  | ptr e => exact AR.one (.ptr e)
  | sliceN l c => exact AR.one (.sliceN l c)
  | slice e => exact AR.one (.slice e)
  | mapN => exact AR.one .mapN
  | map e => exact AR.one (.map e)
  | nilFunc => exact AR.one .nilFunc
  | nilIface => exact AR.one .nilIface
  | func k a i b j => exact AR.one (.func k a i b j)
  | iface t i => exact AR.one (.iface t i)
  | tuple a i => exact AR.one (.tuple a i)
  | sliceZ n o A => exact AR.one (.sliceZ n o A)
  | any v => cases hn
  | lit v _ _ => cases hn
theorem VR.undef (f : NM) : VR f undef undef := (AR.nil f).tuple

/-- entries of maps -/
def ES (f : NM) (x x' : Array MapEntry) : Prop := x.size = x'.size ∧ ∀ (i : Nat) (e e' : MapEntry), x[i]? = some e → x'[i]? = some e' → VR f e.key e'.key ∧ VR f e.val e'.val ∧ e.born = e'.born
theorem ES.mono {f g : NM} (h : NM.le f g) {x x' : Array MapEntry} (r : ES f x x') : ES g x x' :=
  ⟨r.1, fun i v v' a b => ⟨(r.2 i v v' a b).1.mono h, (r.2 i v v' a b).2.1.mono h, (r.2 i v v' a b).2.2⟩⟩

inductive OR (f : NM) : Obj → Obj → Prop where
  | cells (t fz) {x x'} : AR f x x' → OR f (.cells x t fz) (.cells x' t fz)
  | map (ck) {x x'} : ES f x x' → OR f (.map x ck) (.map x' ck)
  | iter (s e t) {n b} : f n = some b → OR f (.mapIter (some n) s e t) (.mapIter (some b) s e t)
  | iterN (s e t) : OR f (.mapIter none s e t) (.mapIter none s e t)
theorem OR.mono {f g : NM} (h : NM.le f g) {x x' : Obj} (r : OR f x x') : OR g x x' := by
  cases r with
  | cells t fz a => exact .cells t fz (a.mono h)
  | map ck a => exact .map ck (a.mono h)
  | iter s e t a => exact .iter s e t (h _ _ a)
  | iterN s e t => exact .iterN s e t

def look {α : Type} : List (Nat × α) → Nat → Option α
  | [], _ => none
  | (m, a) :: r, n => bif Nat.beq m n then some a else look r n
theorem look_cons {α : Type} (m : Nat) (a : α) (r : List (Nat × α)) (n : Nat) : look ((m, a) :: r) n = if m = n then some a else look r n := by
  simp only [look]
  by_cases h : m = n
  · subst h; simp
  · have : Nat.beq m n = false := by cases e : Nat.beq m n with | false => rfl | true => exact absurd (Nat.eq_of_beq_eq_true e) h
    simp [this, h]

/-- something of one's own in memory, behind a block, of which only this is known -/
structure ARes where
  P : World → Nat → (Nat → Prop) → Prop
  keeps : ∀ w w' b F, P w b F → (∀ k, F k → w'.heap[k]? = w.heap[k]?) → w.heap.size ≤ w'.heap.size → P w' b F
  up : ∀ w b F F', P w b F → (∀ k, F k → F' k) → P w b F'
  own : ∀ w b F, P w b F → F b
  sh : Option (Nat × Nat) := none
/-- how it is handed on: by a pointer, or as a slice -/
def ARes.val (R : ARes) (b : Nat) : Value := match R.sh with
  | none => .pointer (some ⟨b, 0, none⟩)
  | some (n, c) => .slice (some ⟨b, 0, none⟩) n c
/-- what a name stands for: one's own block; a block that stays as it is; something of one's own -/
inductive GO where
  | rw (o : Obj)
  | ro (o : Obj)
  | abs (R : ARes)
def GO.obj : GO → Option Obj
  | .rw o => some o
  | .ro o => some o
  | .abs _ => none
def Holds (f : NM) (w : World) (n : Nat) : GO → Prop
  | .rw o => ∀ b, f n = some b → ∃ o', f.ow b = some n ∧ w.heap[b]? = some o' ∧ OR f o o'
  | .ro o => ∀ b, f n = some b → ∃ o', f.ow b = none ∧ w.heap[b]? = some o' ∧ OR f o o'
  | .abs R => ∃ b F, f n = some b ∧ (∀ k, F k → f.ow k = some n) ∧ R.P w b F
theorem Holds.obj {f : NM} {w : World} {n : Nat} {g : GO} {o : Obj} (h : Holds f w n g) (ho : g.obj = some o) {b : Nat} (hb : f n = some b) : ∃ o', w.heap[b]? = some o' ∧ OR f o o' := by
  cases g with
  | rw p => cases ho; obtain ⟨o', _, h2, h3⟩ := h b hb; exact ⟨o', h2, h3⟩
  | ro p => cases ho; obtain ⟨o', _, h2, h3⟩ := h b hb; exact ⟨o', h2, h3⟩
  | abs R => cases ho

/-- the state of a run: slots, memory by names, names that are free -/
structure St where
  t : List (Nat × Value)
  h : List (Nat × GO)
  n : List Nat

/-- where a call began -/
structure Cx where
  f0 : NM
  w0 : World
  N : Nat
  ng : Nat
  lo : Nat
  ds : List Deferred

structure Sat (c : Cx) (f : NM) (S : St) (a : Act) (w : World) : Prop where
  lt : ∀ n b, f n = some b → b < w.heap.size
  glob : ∀ g, g < c.ng → f g = some g
  top : ∀ x, x ∈ S.n → ∀ m, x ≤ m → f m = none
  asc : S.n.Pairwise (· < ·)
  low : ∀ x, x ∈ S.n → c.lo ≤ x
  f0lo : ∀ m, c.lo ≤ m → c.f0 m = none
  sees : ∀ n g, look S.h n = some g → Holds f w n g
  owx : ∀ b n, f.ow b = some n → ((∃ n0, c.f0.ow b = some n0 ∧ n ≤ n0) ∨ c.w0.heap.size ≤ b) ∧ b < w.heap.size
  kp : ∀ b n, c.f0.ow b = some n → ∃ n', f.ow b = some n' ∧ n' ≤ n
  ol : ∀ b n, f.ow b = some n → ∀ x, x ∈ S.n → n < x
  olo : ∀ b n, c.f0.ow b = some n → n < c.lo
  tms : ∀ k v, look S.t k = some v → ∃ v', a.tmps[k]? = some v' ∧ VR f v v'
  size : a.tmps.size = c.N
  defers : a.defers = c.ds
  ext : NM.le c.f0 f
  new : ∀ n b, f n = some b → (∃ m, c.f0 m = some b) ∨ c.w0.heap.size ≤ b
  far : ∀ b, b < c.w0.heap.size → c.f0.ow b = none → w.heap[b]? = c.w0.heap[b]?
  grow : c.w0.heap.size ≤ w.heap.size
  os : w.os = c.w0.os
  tape : w.tape = c.w0.tape
  out : w.output = c.w0.output
  dr : c.w0.drawn ≤ w.drawn

def St.put (S : St) (d : Option Nat) (v : Value) : St :=
  match d, S with
  | some d, ⟨t, h, n⟩ => ⟨(d, v) :: t, h, n⟩
  | none, S => S
theorem St.put_h (S : St) (d v) : (S.put d v).h = S.h := by cases d <;> rfl
theorem St.put_n (S : St) (d v) : (S.put d v).n = S.n := by cases d <;> rfl
def dstOk (N : Nat) : Option Nat → Bool
  | some d => Nat.blt d N
  | none => true

theorem Sat.put {c : Cx} {f : NM} {S : St} {a : Act} {w : World} (H : Sat c f S a w) {d : Option Nat} (hd : dstOk c.N d = true) {v v' : Value} (hv : VR f v v') :
    Sat c f (S.put d v) (a.put d v') w := by
  refine { H with top := ?_, asc := ?_, low := ?_, ol := (by rw [St.put_n]; exact H.ol), sees := ?_, tms := ?_, size := ?_, defers := ?_ }
  · rw [St.put_n]; exact H.top
  · rw [St.put_n]; exact H.asc
  · rw [St.put_n]; exact H.low
  · rw [St.put_h]; exact H.sees
  · intro k u hk
    cases d with
    | none => exact H.tms k u hk
    | some d =>
      have hlt : d < a.tmps.size := by rw [H.size]; simpa [dstOk, Nat.blt_eq] using hd
      simp only [St.put, look_cons] at hk
      simp only [Act.put, Array.getElem?_setIfInBounds]
      by_cases e : d = k
      · subst e
        rw [if_pos rfl] at hk
        cases hk
        exact ⟨v', by simp [hlt], hv⟩
      · rw [if_neg e] at hk
        rw [if_neg e]
        exact H.tms k u hk
  · cases d <;> simp [Act.put, H.size]
  · cases d <;> simp [Act.put, H.defers]

/-- what a world's count of draws is plays no part -/
theorem Sat.drawn {c : Cx} {f : NM} {S : St} {a : Act} {w : World} (H : Sat c f S a w) (n : Nat) (hn : w.drawn ≤ n) : Sat c f S a { w with drawn := n } :=
  { H with lt := H.lt, sees := fun n g h => (by
      have := H.sees n g h
      cases g with
      | rw o => exact this
      | ro o => exact this
      | abs R =>
        obtain ⟨b, F, h1, h2, h3⟩ := this
        exact ⟨b, F, h1, h2, R.keeps w _ b F h3 (fun _ _ => rfl) (Nat.le_refl _)⟩), owx := H.owx, far := H.far, grow := H.grow, os := H.os, tape := H.tape, out := H.out, dr := Nat.le_trans H.dr hn }
end Go.Proofs.YtkcmhcgmiflgbaaDoor
namespace Go.Proofs.YtkcmhcgmiflgbaaDoor
open Go

/-- a block overwritten -/
def setB (w : World) (b : Nat) (o : Obj) : World := { w with heap := w.heap.setIfInBounds b o }

theorem Holds.far {f : NM} {w : World} {m : Nat} {g : GO} (h : Holds f w m g) {n b : Nat} (hb : f.ow b = some n) (hne : n ≠ m) (o : Obj) : Holds f (setB w b o) m g := by
  have key : ∀ k q, f.ow k ≠ some n → w.heap[k]? = q → (setB w b o).heap[k]? = q := by
    intro k q hk hq
    have : b ≠ k := fun e => hk (e ▸ hb)
    simp [setB, this, hq]
  cases g with
  | rw p =>
    intro k hk
    obtain ⟨q, h2, h3, h4⟩ := h k hk
    exact ⟨q, h2, key k _ (by rw [h2]; simpa using fun e => hne e.symm) h3, h4⟩
  | ro p =>
    intro k hk
    obtain ⟨q, h2, h3, h4⟩ := h k hk
    exact ⟨q, h2, key k _ (by rw [h2]; simp) h3, h4⟩
  | abs R =>
    obtain ⟨k, F, h1, h2, h3⟩ := h
    exact ⟨k, F, h1, h2, R.keeps w _ k F h3 (fun q hq => key q _ (by rw [h2 q hq]; simpa using fun e => hne e.symm) rfl) (by simp [setB])⟩
theorem Sat.write {c : Cx} {f : NM} {S : St} {a : Act} {w : World} (H : Sat c f S a w) {n b : Nat} {o o2 o2' : Obj}
    (hl : look S.h n = some (.rw o)) (hf : f n = some b) (hr : OR f o2 o2') : Sat c f ⟨S.t, (n, .rw o2) :: S.h, S.n⟩ a (setB w b o2') := by
  have hb := H.lt n b hf
  obtain ⟨o1, g2, g3, g4⟩ := H.sees n _ hl b hf
  refine { H with lt := ?_, sees := ?_, owx := ?_, far := ?_, grow := ?_, tms := H.tms, ol := H.ol }
  · intro m k h; simpa [setB] using H.lt m k h
  · intro m p hp
    simp only [look_cons] at hp
    by_cases e : n = m
    · subst e
      rw [if_pos rfl] at hp; cases hp
      intro b' hb'
      rw [hf] at hb'; cases hb'
      exact ⟨o2', g2, by simp [setB, hb], hr⟩
    · rw [if_neg e] at hp
      exact (H.sees m p hp).far g2 e _
  · intro k m hk; simpa [setB] using H.owx k m hk
  · intro k hk hx
    have : b ≠ k := by
      intro he; subst he
      rcases (H.owx b n g2).1 with ⟨_, h, _⟩ | h
      · rw [hx] at h; cases h
      · omega
    simp [setB, this, H.far k hk hx]
  · simpa [setB] using H.grow

def nadd (f : NM) (n b : Nat) : NM := ⟨fun m => if m = n then some b else f m, fun k => if k = b then some n else f.ow k⟩
theorem nadd_m (f : NM) (n b m : Nat) : nadd f n b m = if m = n then some b else f m := rfl
theorem nadd_ow (f : NM) (n b k : Nat) : (nadd f n b).ow k = if k = b then some n else f.ow k := rfl
theorem nadd_le {f : NM} {n b : Nat} (h : f n = none) : NM.le f (nadd f n b) := by
  intro m k hk
  rw [nadd_m]
  by_cases e : m = n
  · subst e; rw [h] at hk; cases hk
  · rw [if_neg e]; exact hk
theorem nadd_self (f : NM) (n b : Nat) : nadd f n b n = some b := by simp [nadd_m]
theorem Holds.add {f : NM} {w : World} {m : Nat} {g : GO} (h : Holds f w m g) {n : Nat} (hmn : m ≠ n) (hn : f n = none) (hlt : ∀ n b, f n = some b → b < w.heap.size) (how : ∀ b n, f.ow b = some n → b < w.heap.size) (o : Obj) : Holds (nadd f n w.heap.size) (w.alloc o) m g := by
  have hle := nadd_le (b := w.heap.size) hn
  have key : ∀ k, k < w.heap.size → (w.alloc o).heap[k]? = w.heap[k]? := by
    intro k hk
    show (w.heap.push o)[k]? = _
    rw [Array.getElem?_push, if_neg (by omega)]
  have ko : ∀ k, k < w.heap.size → (nadd f n w.heap.size).ow k = f.ow k := by
    intro k hk; rw [nadd_ow, if_neg (by omega)]
  cases g with
  | rw p =>
    intro k hk
    rw [nadd_m, if_neg hmn] at hk
    obtain ⟨q, h2, h3, h4⟩ := h k hk
    have := hlt _ _ hk
    exact ⟨q, by rw [ko k this]; exact h2, by rw [key k this]; exact h3, h4.mono hle⟩
  | ro p =>
    intro k hk
    rw [nadd_m, if_neg hmn] at hk
    obtain ⟨q, h2, h3, h4⟩ := h k hk
    have := hlt _ _ hk
    exact ⟨q, by rw [ko k this]; exact h2, by rw [key k this]; exact h3, h4.mono hle⟩
  | abs R =>
    obtain ⟨k, F, h1, h2, h3⟩ := h
    exact ⟨k, F, hle _ _ h1, fun q hq => by rw [ko q (how q m (h2 q hq))]; exact h2 q hq, R.keeps w _ k F h3 (fun q hq => key q (how q m (h2 q hq))) (by simp)⟩

theorem Sat.fresh {c : Cx} {f : NM} {S : St} {a : Act} {w : World} (H : Sat c f S a w) {n : Nat} {r : List Nat} (hn : S.n = n :: r) {o o' : Obj} (hr : OR f o o') :
    Sat c (nadd f n w.heap.size) ⟨S.t, (n, .rw o) :: S.h, r⟩ a (w.alloc o') := by
  have hfn : f n = none := H.top n (by simp [hn]) n (Nat.le_refl _)
  have hle := nadd_le (b := w.heap.size) hfn
  have hnd : (∀ x ∈ r, n < x) ∧ r.Pairwise (· < ·) := by have := H.asc; rw [hn] at this; exact List.pairwise_cons.1 this
  refine { H with lt := ?_, glob := ?_, top := ?_, asc := ?_, low := ?_, sees := ?_, owx := ?_, kp := ?_, ol := ?_, tms := ?_, far := ?_, grow := ?_, ext := ?_, new := ?_ }
  · intro m b h1
    rw [nadd_m] at h1
    split at h1
    · cases h1; simp
    · have := H.lt m b h1; simp; omega
  · intro g hg; exact hle _ _ (H.glob g hg)
  · intro x hx m hm
    have h0 := H.top x (by rw [hn]; exact List.mem_cons_of_mem _ hx) m hm
    have h1 := hnd.1 x hx
    rw [nadd_m, if_neg (by omega)]; exact h0
  · exact hnd.2
  · intro x hx; exact H.low x (by rw [hn]; exact List.mem_cons_of_mem _ hx)
  · intro m p hp
    simp only [look_cons] at hp
    by_cases e : n = m
    · subst e
      rw [if_pos rfl] at hp; cases hp
      intro b hb
      rw [nadd_self] at hb; cases hb
      exact ⟨o', by simp [nadd_ow], (by show (w.heap.push o')[w.heap.size]? = _; simp), hr.mono hle⟩
    · rw [if_neg e] at hp
      exact (H.sees m p hp).add (fun h => e h.symm) hfn H.lt (fun b n h => (H.owx b n h).2) _
  · intro k m hk
    rw [nadd_ow] at hk
    split at hk
    · rename_i e; subst e; exact ⟨Or.inr H.grow, by simp⟩
    · have := H.owx k m hk
      exact ⟨this.1, by have := this.2; simp; omega⟩
  · intro k m hk
    obtain ⟨m1, h1, h2⟩ := H.kp k m hk
    have := (H.owx k m1 h1).2
    exact ⟨m1, by rw [nadd_ow, if_neg (by omega)]; exact h1, h2⟩
  · intro k m hk x hx
    rw [nadd_ow] at hk
    split at hk
    · cases hk; exact hnd.1 x hx
    · exact H.ol k m hk x (by rw [hn]; exact List.mem_cons_of_mem _ hx)
  · intro k v hk
    obtain ⟨v', h1, h2⟩ := H.tms k v hk
    exact ⟨v', h1, h2.mono hle⟩
  · exact H.ext.trans hle
  · intro m b h1
    rw [nadd_m] at h1
    split at h1
    · cases h1; exact Or.inr H.grow
    · exact H.new m b h1
  · intro k hk hx
    have := H.grow
    show (w.heap.push o')[k]? = _
    rw [Array.getElem?_push, if_neg (by omega)]; exact H.far k hk hx
  · have := H.grow; simp; omega

/-! ### operations -/
structure TI where
  desc : TypeDesc
  size : Nat
  bytes : Nat
  zero : Value
def TTok (P : Program) (tt : List (Nat × TI)) : Prop :=
  ∀ t i, look tt t = some i → P.underlying t = some i.desc ∧ ∃ j, P.info? t = some j ∧ j.size = i.size ∧ j.bytes = i.bytes ∧ j.zero = some i.zero

inductive Acc where
  | val (v : Value)
  | rd (n : Nat) (k : Obj → Option Value)
  | wr (n : Nat) (k : Obj → Option (Value × Obj))
  | new (o : Obj) (k : Nat → Value)
  | need (p : Prop) (a : Acc)
  | amb (p : Prop) (v u : Value)

def VOk (P : Program) (f : NM) (s : Sem Value) : Acc → Prop
  | .val v => ∃ v', VR f v v' ∧ ∀ w, s.run P w = .ok v' w
  | .amb p v u => ∃ v', (VR f v v' ∨ (p ∧ VR f u v')) ∧ ∀ w, s.run P w = .ok v' w
  | .need p a => p → VOk P f s a
  | .rd n k => (∃ b, f n = some b) ∧ ∀ b o o' (w : World) v, f n = some b → w.heap[b]? = some o' → OR f o o' → k o = some v → ∃ v', VR f v v' ∧ s.run P w = .ok v' w
  | .wr n k => (∃ b, f n = some b) ∧ ∀ b o o' (w : World) v u, f n = some b → w.heap[b]? = some o' → OR f o o' → k o = some (v, u) → ∃ v' u', VR f v v' ∧ OR f u u' ∧ s.run P w = .ok v' (setB w b u')
  | .new o k => ∃ o', OR f o o' ∧ ∀ w, ∃ v', s.run P w = .ok v' (w.alloc o') ∧ ∀ n g, NM.le f g → g n = some w.heap.size → VR g (k n) v'

def Nx (x : Next) (v : Value) : Prop := x = .value v ∨ (x = .skip ∧ v = undef)
def NOk (P : Program) (f : NM) (s : Sem Next) : Acc → Prop
  | .val v => ∃ v' x, VR f v v' ∧ Nx x v' ∧ ∀ w, s.run P w = .ok x w
  | .amb p v u => ∃ v' x, (VR f v v' ∨ (p ∧ VR f u v')) ∧ Nx x v' ∧ ∀ w, s.run P w = .ok x w
  | .need p a => p → NOk P f s a
  | .rd n k => (∃ b, f n = some b) ∧ ∀ b o o' (w : World) v, f n = some b → w.heap[b]? = some o' → OR f o o' → k o = some v → ∃ v' x, VR f v v' ∧ Nx x v' ∧ s.run P w = .ok x w
  | .wr n k => (∃ b, f n = some b) ∧ ∀ b o o' (w : World) v u, f n = some b → w.heap[b]? = some o' → OR f o o' → k o = some (v, u) → ∃ v' u' x, VR f v v' ∧ OR f u u' ∧ Nx x v' ∧ s.run P w = .ok x (setB w b u')
  | .new o k => ∃ o', OR f o o' ∧ ∀ w, ∃ v' x, Nx x v' ∧ s.run P w = .ok x (w.alloc o') ∧ ∀ n g, NM.le f g → g n = some w.heap.size → VR g (k n) v'

theorem VOk.next {P : Program} {f : NM} {s : Sem Value} {acc : Acc} (h : VOk P f s acc) : NOk P f (do pure (Next.value (← s))) acc := by
  induction acc with
  | val v => obtain ⟨v', h1, h2⟩ := h; exact ⟨v', .value v', h1, Or.inl rfl, fun w => by simp [h2 w]⟩
  | amb p v u => obtain ⟨v', h1, h2⟩ := h; exact ⟨v', .value v', h1, Or.inl rfl, fun w => by simp [h2 w]⟩
  | rd n k =>
    refine ⟨h.1, ?_⟩
    intro b o o' w v h1 h2 h3 h4
    obtain ⟨v', h5, h6⟩ := h.2 b o o' w v h1 h2 h3 h4
    exact ⟨v', _, h5, Or.inl rfl, by simp [h6]⟩
  | wr n k =>
    refine ⟨h.1, ?_⟩
    intro b o o' w v u h1 h2 h3 h4
    obtain ⟨v', u', h5, h6, h7⟩ := h.2 b o o' w v u h1 h2 h3 h4
    exact ⟨v', u', _, h5, h6, Or.inl rfl, by simp [h7]⟩
  | new o k =>
    obtain ⟨o', h1, h2⟩ := h
    refine ⟨o', h1, fun w => ?_⟩
    obtain ⟨v', h3, h4⟩ := h2 w
    exact ⟨v', _, Or.inl rfl, by simp [h3], h4⟩
  | need p a ih => exact fun hp => ih (h hp)

section types
variable {P : Program} {tt : List (Nat × TI)} (hT : TTok P tt) {t : Nat} {i : TI} (hi : look tt t = some i) (w : World)
include hT hi
theorem tt_und : (underlying t).run P w = .ok i.desc w := by simp [underlying, (hT t i hi).1]
theorem tt_size : (sizeOf t).run P w = .ok i.size w := by
  obtain ⟨_, j, h1, h2, _⟩ := hT t i hi
  simp [sizeOf, typeInfo, h1, h2]
theorem tt_bytes {α : Type} (k : Nat → Sem α) : ((typeInfo t) >>= fun x => k x.bytes).run P w = (k i.bytes).run P w := by
  obtain ⟨_, j, h1, _, h2, _⟩ := hT t i hi
  simp [typeInfo, h1, h2]
theorem tt_zero : (zeroValue t).run P w = .ok i.zero w := by
  obtain ⟨_, j, h1, _, _, h2⟩ := hT t i hi
  simp [zeroValue, typeInfo, h1, h2]
def aggD : TypeDesc → Bool
  | .struct _ | .array _ _ => true
  | _ => false
theorem tt_agg : (isAgg t).run P w = .ok (aggD i.desc) w := by
  simp only [isAgg, Sem.run_bind, tt_und hT hi, Result.andThen_ok]
  cases i.desc <;> rfl
end types

/-! lists, strictly -/
def getL : List Value → Nat → Option Value
  | [], _ => none
  | x :: l, n => match n with
    | 0 => some x
    | n + 1 => getL l n
theorem getL_eq (l : List Value) : ∀ n, getL l n = l[n]? := by
  induction l with
  | nil => intro n; simp [getL]
  | cons x l ih => intro n; cases n with
    | zero => simp [getL]
    | succ n => simp [getL, ih]
def takeL : Nat → List Value → Option (List Value)
  | 0, _ => some []
  | _ + 1, [] => none
  | n + 1, x :: l => match takeL n l with
    | some r => some (x :: r)
    | none => none
theorem takeL_eq : ∀ (n : Nat) (l r : List Value), takeL n l = some r → n ≤ l.length ∧ r = l.take n := by
  intro n
  induction n with
  | zero => intro l r h; simp [takeL] at h; simp [h]
  | succ n ih =>
    intro l r h
    cases l with
    | nil => simp [takeL] at h
    | cons x l =>
      simp only [takeL] at h
      cases e : takeL n l with
      | none => rw [e] at h; cases h
      | some q =>
        rw [e] at h; cases h
        obtain ⟨h1, h2⟩ := ih l q e
        exact ⟨by simp; omega, by simp [h2]⟩
def sliceL : Nat → Nat → List Value → Option (List Value)
  | 0, n, l => takeL n l
  | _ + 1, _, [] => none
  | o + 1, n, _ :: l => sliceL o n l
theorem sliceL_eq : ∀ (o n : Nat) (l r : List Value), sliceL o n l = some r → o + n ≤ l.length ∧ r = (l.drop o).take n := by
  intro o
  induction o with
  | zero => intro n l r h; simpa using takeL_eq n l r h
  | succ o ih =>
    intro n l r h
    cases l with
    | nil => simp [sliceL] at h
    | cons x l =>
      obtain ⟨h1, h2⟩ := ih n l r h
      exact ⟨by simp; omega, by simpa using h2⟩
theorem takeL_of (n : Nat) : ∀ (l : List Value), n ≤ l.length → takeL n l = some (l.take n) := by
  induction n with
  | zero => intro l _; simp [takeL]
  | succ n ih => intro l h; cases l with
    | nil => simp at h
    | cons x l => simp only [takeL, ih l (by simpa using h)]; simp
theorem sliceL_of (o : Nat) : ∀ (n : Nat) (l : List Value), o + n ≤ l.length → sliceL o n l = some ((l.drop o).take n) := by
  induction o with
  | zero => intro n l h; simpa [sliceL] using takeL_of n l (by omega)
  | succ o ih => intro n l h; cases l with
    | nil => simp at h
    | cons x l => simpa [sliceL] using ih n l (by simp at h; omega)
def putL : List Value → List Value → Option (List Value)
  | [], l => some l
  | v :: vs, l => match l with
    | [] => none
    | _ :: l' => match putL vs l' with
      | some r => some (v :: r)
      | none => none
def blitL : Nat → List Value → List Value → Option (List Value)
  | 0, vs, l => putL vs l
  | o + 1, vs, l => match l with
    | [] => none
    | x :: l' => match blitL o vs l' with
      | some r => some (x :: r)
      | none => none
/-- the same, step by step -/
def blitA (c : Array Value) : Nat → List Value → Array Value
  | _, [] => c
  | o, v :: r => blitA (c.setIfInBounds o v) (o + 1) r
theorem blitA_size (vs : List Value) : ∀ (c : Array Value) (o : Nat), (blitA c o vs).size = c.size := by
  induction vs with
  | nil => intro c o; rfl
  | cons v r ih => intro c o; simp [blitA, ih]
theorem blitA_get (vs : List Value) : ∀ (c : Array Value) (o i : Nat), o + vs.length ≤ c.size → (blitA c o vs)[i]? = if o ≤ i ∧ i < o + vs.length then vs[i - o]? else c[i]? := by
  induction vs with
  | nil => intro c o i _; simp [blitA]; omega
  | cons v r ih =>
    intro c o i h
    simp only [List.length_cons] at h
    simp only [blitA]
    rw [ih _ _ _ (by simp; omega)]
    simp only [List.length_cons]
    by_cases h1 : o = i
    · subst h1
      rw [if_neg (by omega), if_pos (by omega)]
      have : o < c.size := by omega
      simp [this]
    · by_cases h2 : o + 1 ≤ i ∧ i < o + 1 + r.length
      · rw [if_pos h2, if_pos (by omega)]
        rw [show i - o = (i - (o + 1)) + 1 by omega]
        simp
      · rw [if_neg h2, if_neg (by omega)]
        simp [h1]
theorem blitL_eq : ∀ (o : Nat) (vs l r : List Value), blitL o vs l = some r → o + vs.length ≤ l.length ∧ r.length = l.length ∧ ∀ i, r[i]? = if o ≤ i ∧ i < o + vs.length then vs[i - o]? else l[i]? := by
  intro o
  induction o with
  | zero =>
    intro vs
    induction vs with
    | nil => intro l r h; simp [blitL, putL] at h; subst h; simp
    | cons v vs ih =>
      intro l r h
      cases l with
      | nil => simp [blitL, putL] at h
      | cons x l =>
        simp only [blitL, putL] at h
        cases e : putL vs l with
        | none => rw [e] at h; cases h
        | some q =>
          rw [e] at h; cases h
          obtain ⟨h1, h2, h3⟩ := ih l q (by simpa only [blitL] using e)
          refine ⟨by simp at h1 ⊢; omega, by simp [h2], fun i => ?_⟩
          cases i with
          | zero => simp
          | succ i =>
            have := h3 i
            simp only [Nat.zero_add, Nat.zero_le, true_and, Nat.sub_zero] at this
            simp [this]
  | succ o ih =>
    intro vs l r h
    cases l with
    | nil => cases vs <;> simp [blitL] at h
    | cons x l =>
      have h' : (match blitL o vs l with | some r => some (x :: r) | none => none) = some r := by cases vs <;> exact h
      cases e : blitL o vs l with
      | none => rw [e] at h'; cases h'
      | some q =>
        rw [e] at h'; cases h'
        obtain ⟨h1, h2, h3⟩ := ih vs l q e
        refine ⟨by simp; omega, by simp [h2], fun i => ?_⟩
        cases i with
        | zero => simp
        | succ i =>
          have := h3 i
          simp only [List.getElem?_cons_succ, this]
          by_cases hc : o ≤ i ∧ i < o + vs.length
          · rw [if_pos hc, if_pos (by omega), show i + 1 - (o + 1) = i - o by omega]
          · rw [if_neg hc, if_neg (by omega)]
theorem blit_AR {f : NM} {c c' : Array Value} (hc : AR f c c') {vs vs' : List Value} (hv : AR f vs.toArray vs'.toArray) {o : Nat} {r : List Value} (h : blitL o vs c.toList = some r) :
    o + vs'.length ≤ c'.size ∧ AR f ⟨r⟩ (blitA c' o vs') := by
  obtain ⟨h1, h2, h3⟩ := blitL_eq o vs c.toList r h
  have hl : vs.length = vs'.length := by simpa using hv.1
  have hs : c.size = c'.size := hc.1
  refine ⟨by simp at h1; omega, by simp [blitA_size]; simp at h2; omega, fun i v v' ha hb => ?_⟩
  rw [blitA_get _ _ _ _ (by simp at h1; omega)] at hb
  have ha' : r[i]? = some v := by simpa using ha
  rw [h3 i] at ha'
  rw [hl] at ha'
  split at ha'
  · rename_i e; rw [if_pos e] at hb
    exact hv.2 (i - o) v v' (by simpa using ha') (by simpa using hb)
  · rename_i e; rw [if_neg e] at hb
    exact hc.2 i v v' (by simpa using ha') hb
end Go.Proofs.YtkcmhcgmiflgbaaDoor
namespace Go.Proofs.YtkcmhcgmiflgbaaDoor
open Go

/-- what is known of a type, and that it is so -/
structure TK extends TI where
  ks : List Leaf
def TKok (P : Program) (tt : List (Nat × TK)) : Prop :=
  ∀ t i, look tt t = some i → P.underlying t = some i.desc ∧ (∃ j, P.info? t = some j ∧ j.size = i.size ∧ j.bytes = i.bytes ∧ j.zero = some i.zero) ∧
    (i.ks ≠ [] → leaves P 6 t = some i.ks ∧ named P 6 t = true ∧ aggT P t = true ∧ P.eqGuardType P.depth t = false)

section types
variable {P : Program} {tt : List (Nat × TK)} (hT : TKok P tt) {t : Nat} {i : TK} (hi : look tt t = some i) (w : World)
include hT hi
theorem tk_und : (underlying t).run P w = .ok i.desc w := by simp [underlying, (hT t i hi).1]
theorem tk_size : (sizeOf t).run P w = .ok i.size w := by
  obtain ⟨_, ⟨j, h1, h2, _⟩, _⟩ := hT t i hi
  simp [sizeOf, typeInfo, h1, h2]
theorem tk_info : ∃ j, (typeInfo t).run P w = .ok j w ∧ j.bytes = i.bytes ∧ j.size = i.size := by
  obtain ⟨_, ⟨j, h1, h3, h2, _⟩, _⟩ := hT t i hi
  exact ⟨j, by simp [typeInfo, h1], h2, h3⟩
theorem tk_zero : (zeroValue t).run P w = .ok i.zero w := by
  obtain ⟨_, ⟨j, h1, _, _, h2⟩, _⟩ := hT t i hi
  simp [zeroValue, typeInfo, h1, h2]
theorem tk_agg : (isAgg t).run P w = .ok (aggD i.desc) w := by
  simp only [isAgg, Sem.run_bind, tk_und hT hi, Result.andThen_ok]
  cases i.desc <;> rfl
end types

/-- values without names -/
def clean1 : Value → Bool
  | .bool _ | .int _ _ | .float _ _ | .string _ | .pointer none | .slice none _ _ | .map none | .nilFunc | .nilIface => true
  | .func (.func _) ⟨[]⟩ ⟨[]⟩ => true
  | _ => false
def cleanL : List Value → Bool
  | [] => true
  | v :: r => match clean1 v with
    | true => cleanL r
    | false => false
def cleanE : Value → Bool
  | .agg c => cleanL c.toList
  | v => clean1 v
def cleanT : List Value → Bool
  | [] => true
  | v :: r => match cleanE v with
    | true => cleanT r
    | false => false
def clean : Value → Bool
  | .tuple c => cleanT c.toList
  | v => cleanE v
theorem clean1_VR {v : Value} (f : NM) (h : clean1 v = true) : VR f v v := by
  cases v with
  | pointer a => cases a with | none => exact .ptrN | some a => simp [clean1] at h
  | slice a l c => cases a with | none => exact .sliceN l c | some a => simp [clean1] at h
  | map a => cases a with | none => exact .mapN | some a => simp [clean1] at h
  | bool b => exact .bool b
  | int k n => exact .int k n
  | float k n => exact .float k n
  | string s => exact .string s
  | nilFunc => exact .nilFunc
  | nilIface => exact .nilIface
  | func fn x y =>
    obtain ⟨x⟩ := x
    obtain ⟨y⟩ := y
    cases fn <;> cases x <;> cases y <;> simp [clean1] at h
    exact .func _ rfl (fun i v v' h => by simp at h) rfl (fun i v v' h => by simp at h)
  | _ => simp [clean1] at h
theorem cleanL_all {l : List Value} (h : cleanL l = true) : ∀ v ∈ l, clean1 v = true := by
  induction l with
  | nil => intro v hv; cases hv
  | cons x l ih =>
    intro v hv
    cases e : clean1 x with
    | false => simp [cleanL, e] at h
    | true =>
      simp [cleanL, e] at h
      rcases List.mem_cons.1 hv with rfl | h'
      · exact e
      · exact ih h v h'
theorem cleanA {c : Array Value} (f : NM) (h : cleanL c.toList = true) : AR f c c := by
  refine ⟨rfl, fun i v v' a b => ?_⟩
  rw [a] at b; cases b
  exact clean1_VR f (cleanL_all h v (by have := Array.mem_of_getElem? a; simpa using this))
theorem cleanE_VR {v : Value} (f : NM) (h : cleanE v = true) : VR f v v := by
  cases v with
  | agg c => exact (cleanA f h).agg
  | _ => exact clean1_VR f (by simpa [cleanE] using h)
theorem cleanT_all {l : List Value} (h : cleanT l = true) : ∀ v ∈ l, cleanE v = true := by
  induction l with
  | nil => intro v hv; cases hv
  | cons x l ih =>
    intro v hv
    cases e : cleanE x with
    | false => simp [cleanT, e] at h
    | true =>
      simp [cleanT, e] at h
      rcases List.mem_cons.1 hv with rfl | h'
      · exact e
      · exact ih h v h'
theorem clean_VR {v : Value} (f : NM) (h : clean v = true) : VR f v v := by
  cases v with
  | tuple c =>
    refine AR.tuple ⟨rfl, fun i v v' a b => ?_⟩
    rw [a] at b; cases b
    exact cleanE_VR f (cleanT_all (l := c.toList) h v (by have := Array.mem_of_getElem? a; simpa using this))
  | _ => exact cleanE_VR f (by simpa [clean] using h)

def evalG (ng : Nat) (S : St) : Operand → Option Value
  | .tmp k => look S.t k
  | .const v => match clean v with
    | true => some v
    | false => none
  | .global g => match Nat.blt g ng with
    | true => some (.pointer (some ⟨g, 0, none⟩))
    | false => none
  | .func k => some (.func (.func k) #[] #[])
def evalL (ng : Nat) (S : St) : List Operand → Option (List Value)
  | [] => some []
  | x :: r => match evalG ng S x with
    | some v => match evalL ng S r with
      | some vs => some (v :: vs)
      | none => none
    | none => none
def evalO (ng : Nat) (S : St) : Option Operand → Option (Option Value)
  | none => some none
  | some x => match evalG ng S x with
    | some v => some (some v)
    | none => none
def evalP (ng : Nat) (S : St) : List (Nat × Operand) → Option (List (Nat × Value))
  | [] => some []
  | (i, x) :: r => match evalG ng S x with
    | some v => match evalP ng S r with
      | some vs => some ((i, v) :: vs)
      | none => none
    | none => none
/-- the slots of a run are as told -/
structure Ev (ng : Nat) (f : NM) (S : St) (a : Act) : Prop where
  tms : ∀ k v, look S.t k = some v → ∃ v', a.tmps[k]? = some v' ∧ VR f v v'
  glob : ∀ g, g < ng → f g = some g
theorem Ev.eval {ng : Nat} {f : NM} {S : St} {a : Act} (H : Ev ng f S a) {x : Operand} {v : Value} (h : evalG ng S x = some v) : VR f v (a.eval x) := by
  cases x with
  | tmp k =>
    obtain ⟨v', h1, h2⟩ := H.tms k v h
    simp [Act.eval, Array.getD_eq_getD_getElem?, h1, h2]
  | const u =>
    simp only [evalG] at h
    cases e : clean u with
    | false => rw [e] at h; cases h
    | true => rw [e] at h; cases h; exact clean_VR f e
  | global g =>
    simp only [evalG] at h
    split at h
    · rename_i hg
      cases h
      exact .ptr (H.glob g (by simpa [Nat.blt_eq] using hg))
    · cases h
  | func k =>
    simp only [evalG, Option.some.injEq] at h
    subst h
    exact .func k rfl (fun i v v' h => by simp at h) rfl (fun i v v' h => by simp at h)
theorem Ev.evalL {ng : Nat} {f : NM} {S : St} {a : Act} (H : Ev ng f S a) : ∀ {l : List Operand} {vs : List Value} (_ : evalL ng S l = some vs), AR f ⟨vs⟩ ⟨l.map a.eval⟩ := by
  intro l
  induction l with
  | nil => intro vs h; simp [Go.Proofs.YtkcmhcgmiflgbaaDoor.evalL] at h; subst h; exact AR.nil f
  | cons x r ih =>
    intro vs h
    simp only [Go.Proofs.YtkcmhcgmiflgbaaDoor.evalL] at h
    cases e : evalG ng S x with
    | none => rw [e] at h; cases h
    | some v =>
      rw [e] at h
      cases e2 : Go.Proofs.YtkcmhcgmiflgbaaDoor.evalL ng S r with
      | none => rw [e2] at h; cases h
      | some us =>
        rw [e2] at h; cases h
        have h1 := H.eval e
        have h2 := ih e2
        have := (AR.one h1).append h2
        simpa using this

/-! parts of structs and arrays -/
def partG (i : TK) (c : Array Value) (off : Nat) : Option Value :=
  match i.desc with
  | .struct _ | .array _ _ => match sliceL off i.size c.toList with
    | some r => some (.agg ⟨r⟩)
    | none => none
  | _ => getL c.toList off
theorem extract_list (xs : Array Value) (off n : Nat) : xs.extract off (off + n) = ⟨(xs.toList.drop off).take n⟩ := by
  apply Array.toList_inj.1
  rw [Array.toList_extract]
  simp [List.extract]
theorem partG_eq {i : TK} {c : Array Value} {off : Nat} {v : Value} (h : partG i c off = some v) :
    (aggD i.desc = true ∧ off + i.size ≤ c.size ∧ v = .agg (c.extract off (off + i.size))) ∨ (aggD i.desc = false ∧ c[off]? = some v) := by
  unfold partG at h
  cases hd : i.desc <;> simp only [hd, aggD] at h ⊢
  case struct fs =>
    left
    cases e : sliceL off i.size c.toList with
    | none => rw [e] at h; cases h
    | some r =>
      rw [e] at h; cases h
      obtain ⟨h1, h2⟩ := sliceL_eq _ _ _ _ e
      exact ⟨trivial, by simpa using h1, by rw [extract_list, h2]⟩
  case array n e' =>
    left
    cases e : sliceL off i.size c.toList with
    | none => rw [e] at h; cases h
    | some r =>
      rw [e] at h; cases h
      obtain ⟨h1, h2⟩ := sliceL_eq _ _ _ _ e
      exact ⟨trivial, by simpa using h1, by rw [extract_list, h2]⟩
  all_goals (right; rw [getL_eq] at h; exact ⟨trivial, by simpa using h⟩)

def loadAcc (i : TK) : Value → Option Acc
  | .pointer (some ⟨n, off, none⟩) => some (.rd n fun o => match o with
    | .cells c _ _ => partG i c off
    | _ => none)
  | _ => none
theorem cell_row {w : World} {b : Nat} {c : Array Value} {t : TypeId} {fz : Nat × Nat} (h : w.heap[b]? = some (.cells c t fz)) (i : Nat) : w.cell? ⟨b, i, none⟩ = c[i]? := by
  simp [World.cell?, h]

section ops
variable {P : Program} {tt : List (Nat × TK)} (hT : TKok P tt) {f : NM}
include hT
theorem loadAcc_ok {t : Nat} {i : TK} (hi : look tt t = some i) {v v' : Value} {acc : Acc} (h : loadAcc i v = some acc) (hv : VR f v v') : VOk P f (Instr.loadAt t v') acc := by
  unfold loadAcc at h
  split at h
  · rename_i n off
    cases h
    cases hv with
    | ptr hn =>
      rename_i b
      refine ⟨⟨_, hn⟩, ?_⟩
      intro b2 o o' w u hb ho hr hk
      rw [hn] at hb; cases hb
      cases hr with
      | cells ty fz hc =>
        rename_i c c'
        simp only at hk
        simp only [Instr.loadAt, Instr.sureAddr, pure_bind, loadVar, Sem.run_bind, tk_agg hT hi, Result.andThen_ok]
        rcases partG_eq hk with ⟨ha, hs, rfl⟩ | ⟨ha, hg⟩
        · rw [ha]
          simp only [if_true, Sem.run_bind, tk_size hT hi, Result.andThen_ok]
          have hl : (((c'.toList.drop off).take i.size).length) = i.size := by
            have := hc.1
            simp; omega
          have := run_loadCells_list (P := P) w ⟨b, off, none⟩ ((c'.toList.drop off).take i.size) (fun j u hu => by
            rw [show Addr.add ⟨b, off, none⟩ j = ⟨b, off + j, none⟩ from Addr.add_lit b off j, cell_row ho]
            rw [List.getElem?_take] at hu
            split at hu
            · simpa [List.getElem?_drop] using hu
            · cases hu)
          rw [hl] at this
          refine ⟨.agg (c'.extract off (off + i.size)), (hc.extract _ _).agg, ?_⟩
          simp only [this, Result.andThen_ok, Sem.run_pure, extract_list]
        · rw [ha]
          obtain ⟨u', h1, h2⟩ := hc.get hg
          refine ⟨u', h2, ?_⟩
          simp only [Bool.false_eq_true, if_false]
          rw [run_load]
          rw [show w.cell? ⟨b, off, none⟩ = some u' from (cell_row ho off).trans h1]
      | _ => cases hk
  · cases h

end ops
def one1 : Value → Bool
  | .agg _ | .tuple _ | .chan _ => false
  | .func (.method _) _ _ => false
  | _ => true
theorem one1_one {v : Value} (h : one1 v = true) : v.oneCell' = true ∧ noHole v = true := by
  cases v with
  | func fn a b => cases fn <;> first | exact ⟨rfl, rfl⟩ | (simp [one1] at h)
  | _ => simp_all [one1, Value.oneCell', noHole]
def oneL : List Value → Bool
  | [] => true
  | v :: r => match one1 v with
    | true => oneL r
    | false => false
theorem oneL_all {l : List Value} (h : oneL l = true) : ∀ v ∈ l, one1 v = true := by
  induction l with
  | nil => intro v hv; cases hv
  | cons x l ih =>
    intro v hv
    cases e : one1 x with
    | false => simp [oneL, e] at h
    | true =>
      simp [oneL, e] at h
      rcases List.mem_cons.1 hv with rfl | h'
      · exact e
      · exact ih h v h'
theorem setB_setB (w : World) (b : Nat) (o p : Obj) : setB (setB w b o) b p = setB w b p := by
  simp [setB]
theorem setB_self {w : World} {b : Nat} {o : Obj} (h : w.heap[b]? = some o) : setB w b o = w := by
  have : w.heap.setIfInBounds b o = w.heap := by
    apply Array.ext_getElem?
    intro i
    rw [Array.getElem?_setIfInBounds]
    by_cases e : b = i
    · subst e
      have := (Array.getElem?_eq_some_iff.1 h).1
      rw [if_pos rfl, if_pos this, h]
    · rw [if_neg e]
  simp [setB, this]
theorem setCell_setB {w : World} {b : Nat} {c : Array Value} {t : TypeId} {fz : Nat × Nat} (h : w.heap[b]? = some (.cells c t fz)) (i : Nat) (v : Value) :
    w.setCell ⟨b, i, none⟩ v = setB w b (.cells (c.setIfInBounds i v) t fz) := by
  have : ∀ (F : Obj → Obj), w.heap.modify b F = w.heap.setIfInBounds b (F (.cells c t fz)) := by
    intro F
    apply Array.ext_getElem?
    intro j
    have hb := (Array.getElem?_eq_some_iff.1 h).1
    rw [Array.getElem?_modify, Array.getElem?_setIfInBounds]
    by_cases e : b = j
    · subst e
      rw [if_pos rfl, if_pos rfl, if_pos hb, h]; rfl
    · rw [if_neg e, if_neg e]
  simp only [World.setCell, setB, this]
  simp
theorem run_storeCells {P : Program} (b : Nat) (t : TypeId) (off : Nat) : ∀ (vs : List Value) (w : World) (c : Array Value) (i : Nat), w.heap[b]? = some (.cells c t (0, 0)) →
    (∀ v ∈ vs, v.oneCell' = true) → off + i + vs.length ≤ c.size →
    (storeCells ⟨b, off, none⟩ vs i).run P w = .ok () (setB w b (.cells (blitA c (off + i) vs) t (0, 0))) := by
  intro vs
  induction vs with
  | nil => intro w c i h _ _; simp [storeCells, blitA, setB_self h]
  | cons v r ih =>
    intro w c i h h1 h2
    simp only [List.length_cons] at h2
    have hb := (Array.getElem?_eq_some_iff.1 h).1
    have hcell : w.cell? ⟨b, off + i, none⟩ = some c[off + i] := by
      rw [cell_row h]; simp
    have hfz : w.frozen? ⟨b, off + i, none⟩ = false := by simp [World.frozen?, h]
    have hst : (store ⟨b, off + i, none⟩ v).run P w = .ok () (w.setCell ⟨b, off + i, none⟩ v) := by
      rw [run_store P w _ v .plain (h1 v (by simp)), hcell]
      simp [hfz]
    simp only [storeCells, Sem.run_bind]
    rw [show Addr.add ⟨b, off, none⟩ i = ⟨b, off + i, none⟩ from Addr.add_lit b off i, hst, Result.andThen_ok, setCell_setB h]
    have := ih (setB w b (.cells (c.setIfInBounds (off + i) v) t (0, 0))) (c.setIfInBounds (off + i) v) (i + 1) (by simp [setB, hb]) (fun u hu => h1 u (by simp [hu])) (by simp; omega)
    rw [this, setB_setB]
    rfl
def cellsL : Value → List Value
  | .agg ⟨l⟩ => l
  | v => [v]
theorem cellsL_eq (v : Value) : v.cells = ⟨cellsL v⟩ := by
  cases v with
  | agg c => rfl
  | _ => rfl
def storeIn (i : TK) (u : Value) (off : Nat) : Obj → Option (Value × Obj)
  | .cells c t fz => match Nat.beq fz.1 0 && Nat.beq fz.2 0 && Nat.beq (cellsL u).length i.size && oneL (cellsL u) with
    | true => match blitL off (cellsL u) c.toList with
      | some r => some (undef, .cells ⟨r⟩ t (0, 0))
      | none => none
    | false => none
  | _ => none
def storeAcc (i : TK) (u : Value) : Value → Option Acc
  | .pointer (some ⟨n, off, none⟩) => some (.wr n (storeIn i u off))
  | _ => none
theorem oneL_VR {f : NM} {x x' : Array Value} (h : AR f x x') (h1 : oneL x.toList = true) : ∀ v ∈ x'.toList, v.oneCell' = true := by
  intro v hv
  obtain ⟨i, hi, rfl⟩ := List.getElem_of_mem hv
  have hi' : i < x'.size := by simpa using hi
  have hi2 : i < x.size := h.1 ▸ hi'
  have := h.2 i x[i] x'[i] (by simp [hi2]) (by simp [hi'])
  have e : x'.toList[i] = x'[i] := by simp
  rw [e]
  have h2 := oneL_all h1 x[i] (by simp)
  generalize x[i] = y at this h2
  generalize x'[i] = y' at this
  cases this <;> first | rfl | (simp [one1] at h2)
theorem noHole_one {u : Value} (h : oneL (cellsL u) = true) : noHole u = true := by
  cases u with
  | func fn a b => cases fn <;> first | rfl | (simp [cellsL, oneL, one1] at h)
  | chan r => simp [cellsL, oneL, one1] at h
  | _ => rfl
theorem storeAcc_ok {P : Program} {tt : List (Nat × TK)} (hT : TKok P tt) {f : NM} {t : Nat} {i : TK} (hi : look tt t = some i) {u u' v v' : Value} {acc : Acc} (h : storeAcc i u v = some acc) (hv : VR f v v') (hu : VR f u u') :
    NOk P f (do Instr.storeAt t v' u'; pure .skip) acc := by
  unfold storeAcc at h
  split at h
  · rename_i n off
    cases h
    cases hv with
    | ptr hn =>
      rename_i b
      refine ⟨⟨_, hn⟩, ?_⟩
      intro b2 o o' w x p hb ho hr hk
      rw [hn] at hb; cases hb
      cases hr with
      | cells ty fz hc =>
        rename_i c c'
        simp only [storeIn] at hk
        split at hk
        · rename_i e0
          simp only [Bool.and_eq_true] at e0
          obtain ⟨⟨⟨q1, q2⟩, e1⟩, e2⟩ := e0
          have huc := hu.cells (noHole_one e2)
          obtain ⟨fa, fb⟩ := fz
          have z1 : fa = 0 := Nat.eq_of_beq_eq_true q1
          have z2 : fb = 0 := Nat.eq_of_beq_eq_true q2
          subst z1; subst z2
          split at hk
          · rename_i r e3
            cases hk
            have hlen : u'.cells.size = i.size := by
              have := Nat.eq_of_beq_eq_true e1
              have h2 := huc.1
              rw [cellsL_eq] at h2
              simp at h2; omega
            have e6 : (cellsL u).toArray = u.cells := (cellsL_eq u).symm
            obtain ⟨h1, h2⟩ := blit_AR hc (vs := cellsL u) (vs' := u'.cells.toList) (by rw [e6]; simpa using huc) e3
            refine ⟨undef, _, .skip, VR.undef f, .cells ty (0, 0) h2, Or.inr ⟨rfl, rfl⟩, ?_⟩
            simp only [Instr.storeAt, Instr.sureAddr, pure_bind, storeVar, Sem.run_bind, tk_size hT hi, Result.andThen_ok, hlen, ne_eq, not_true_eq_false, if_false]
            have := run_storeCells (P := P) b ty off u'.cells.toList w c' 0 ho (oneL_VR huc (by rw [cellsL_eq]; exact e2)) (by simpa using h1)
            simp only [this, Result.andThen_ok, Sem.run_pure, Nat.add_zero]
          · cases hk
        · cases hk
      | _ => simp [storeIn] at hk
  · cases h
end Go.Proofs.YtkcmhcgmiflgbaaDoor
namespace Go.Proofs.YtkcmhcgmiflgbaaDoor
open Go
section ops
variable {P : Program} {tt : List (Nat × TK)} (hT : TKok P tt) {f : NM}

def fieldAcc (tt : List (Nat × TK)) (i : TK) (k : Nat) : Value → Option Acc
  | .pointer (some ⟨n, off, none⟩) => match i.desc with
    | .struct fs => match fs[k]? with
      | some ⟨_, ty, o, _, _, _, _⟩ => match look tt ty with
        | some j => match Nat.beq j.size 0 with
          | false => some (.val (.pointer (some ⟨n, off + o, none⟩)))
          | true => none
        | none => none
      | none => none
    | _ => none
  | _ => none
include hT in
theorem fieldAcc_ok {t : Nat} {i : TK} (hi : look tt t = some i) {k : Nat} {v v' : Value} {acc : Acc} (h : fieldAcc tt i k v = some acc) (hv : VR f v v') : VOk P f (Instr.fieldAt t v' k) acc := by
  unfold fieldAcc at h
  split at h
  · rename_i n off
    split at h
    · rename_i fs hd
      split at h
      · rename_i nm ty o em tg pk bo hf
        split at h
        · rename_i j hj
          split at h
          · rename_i hz
            cases h
            cases hv with
            | ptr hn =>
              rename_i b
              refine ⟨_, .ptr hn, fun w => ?_⟩
              have hz' : ¬ j.size = 0 := by
                intro e; rw [e] at hz; simp at hz
              simp only [Instr.fieldAt, Sem.run_bind, tk_und hT hi, Result.andThen_ok, hd, hf, Instr.sureAddr, pure_bind, fieldPlace, tk_size hT hj, hz', if_false, Sem.run_pure]
              rw [Addr.add_lit]
          · cases h
        · cases h
      · cases h
    · cases h
  · cases h

def indexAcc (tt : List (Nat × TK)) (i : TK) : Value → Value → Option Acc
  | .pointer (some ⟨n, off, none⟩), .int _ k => match i.desc with
    | .array len e => match look tt e with
      | some j => some (.need (0 ≤ k ∧ k < len) (.val (.pointer (some ⟨n, off + k.toNat * j.size, none⟩))))
      | none => none
    | _ => none
  | .slice (some ⟨n, off, none⟩) len _, .int _ k => match i.desc with
    | .slice e => match look tt e with
      | some j => some (.need (0 ≤ k ∧ k < len) (.val (.pointer (some ⟨n, off + k.toNat * j.size, none⟩))))
      | none => none
    | _ => none
  | _, _ => none
include hT in
theorem indexAcc_ok {t : Nat} {i : TK} (hi : look tt t = some i) {v v' u u' : Value} {acc : Acc} (h : indexAcc tt i v u = some acc) (hv : VR f v v') (hu : VR f u u') : VOk P f (Instr.indexAt t v' u') acc := by
  unfold indexAcc at h
  split at h
  · rename_i n off kk k
    split at h
    · rename_i len e hd
      split at h
      · rename_i j hj
        cases h
        cases hu
        cases hv with
        | ptr hn =>
          intro hp
          refine ⟨_, .ptr hn, fun w => ?_⟩
          simp only [Instr.indexAt, asIntOf, pure_bind, Sem.run_bind, tk_und hT hi, Result.andThen_ok, hd, Instr.sureAddr, Sem.run_pure, hp, and_self, if_true, tk_size hT hj]
          rw [Addr.add_lit]
      · cases h
    · cases h
  · rename_i n off len cap kk k
    split at h
    · rename_i e hd
      split at h
      · rename_i j hj
        cases h
        cases hu
        cases hv with
        | sliceZ n' off' A' => intro hp; exact absurd hp.2 (by have := hp.1; simp at this ⊢; omega)
        | slice hn =>
          intro hp
          refine ⟨_, .ptr hn, fun w => ?_⟩
          simp only [Instr.indexAt, asIntOf, pure_bind, Sem.run_bind, tk_und hT hi, Result.andThen_ok, hd, Sem.run_pure, hp, and_self, if_true, tk_size hT hj]
          rw [Addr.add_lit]
      · cases h
    · cases h
  · cases h

theorem part_ok {t : Nat} {i : TK} (hT : TKok P tt) (hi : look tt t = some i) {c c' : Array Value} (hc : AR f c c') {off : Nat} {v : Value} (h : partG i c off = some v) :
    ∃ v', VR f v v' ∧ ∀ w, (part t c' off).run P w = .ok v' w := by
  rcases partG_eq h with ⟨ha, hs, rfl⟩ | ⟨ha, hg⟩
  · refine ⟨_, (hc.extract off (off + i.size)).agg, fun w => ?_⟩
    simp only [part, Sem.run_bind, tk_agg hT hi, Result.andThen_ok, ha, if_true, tk_size hT hi, Sem.run_pure]
  · obtain ⟨v', h1, h2⟩ := hc.get hg
    refine ⟨v', h2, fun w => ?_⟩
    simp only [part, Sem.run_bind, tk_agg hT hi, Result.andThen_ok, ha, Bool.false_eq_true, if_false, h1, Sem.run_pure]

def elemAcc (tt : List (Nat × TK)) (i : TK) : Value → Value → Option Acc
  | .agg c, .int _ k => match i.desc with
    | .array len e => match look tt e with
      | some j => match partG j c (k.toNat * j.size) with
        | some v => some (.need (0 ≤ k ∧ k < len) (.val v))
        | none => none
      | none => none
    | _ => none
  | .string s, .int _ k => match i.desc with
    | .string => match s[k.toNat]? with
      | some b => some (.need (0 ≤ k) (.val (.int .u8 b.toNat)))
      | none => none
    | _ => none
  | _, _ => none
include hT in
theorem elemAcc_ok {t : Nat} {i : TK} (hi : look tt t = some i) {v v' u u' : Value} {acc : Acc} (h : elemAcc tt i v u = some acc) (hv : VR f v v') (hu : VR f u u') : VOk P f (Instr.index t v' u') acc := by
  unfold elemAcc at h
  split at h
  · rename_i c kk k
    split at h
    · rename_i len e hd
      split at h
      · rename_i j hj
        split at h
        · rename_i x hx
          cases h
          cases hu
          cases hv with
          | agg a b =>
            intro hp
            obtain ⟨x', h1, h2⟩ := part_ok hT hj ⟨a, b⟩ hx
            refine ⟨x', h1, fun w => ?_⟩
            simp only [Instr.index, asIntOf, pure_bind, Sem.run_bind, tk_und hT hi, Result.andThen_ok, hd, hp, and_self, if_true, tk_size hT hj, h2]
        · cases h
      · cases h
    · cases h
  · rename_i s kk k
    split at h
    · rename_i hd
      split at h
      · rename_i b hb
        cases h
        cases hu
        cases hv with
        | string =>
          intro hp
          refine ⟨_, .int _ _, fun w => ?_⟩
          simp only [Instr.index, asIntOf, pure_bind, Sem.run_bind, tk_und hT hi, Result.andThen_ok, hd, hp, if_true, hb, Sem.run_pure]
      · cases h
    · cases h
  · cases h

def selAcc (tt : List (Nat × TK)) (i : TK) (k : Nat) : Value → Option Acc
  | .agg c => match i.desc with
    | .struct fs => match fs[k]? with
      | some ⟨_, ty, o, _, _, _, _⟩ => match look tt ty with
        | some j => match partG j c o with
          | some v => some (.val v)
          | none => none
        | none => none
      | none => none
    | _ => none
  | _ => none
include hT in
theorem selAcc_ok {t : Nat} {i : TK} (hi : look tt t = some i) {k : Nat} {v v' : Value} {acc : Acc} (h : selAcc tt i k v = some acc) (hv : VR f v v') : VOk P f (Instr.field t v' k) acc := by
  unfold selAcc at h
  split at h
  · rename_i c
    split at h
    · rename_i fs hd
      split at h
      · rename_i nm ty o em tg pk bo hf
        split at h
        · rename_i j hj
          split at h
          · rename_i x hx
            cases h
            cases hv with
            | agg a b =>
              obtain ⟨x', h1, h2⟩ := part_ok hT hj ⟨a, b⟩ hx
              refine ⟨x', h1, fun w => ?_⟩
              simp only [Instr.field, Sem.run_bind, tk_und hT hi, Result.andThen_ok, hd, hf, asAgg, pure_bind, h2]
          · cases h
        · cases h
      · cases h
    · cases h
  · cases h

/-! slices of slices, arrays, strings -/
def loB (lo : Option Value) : Option Int := match lo with | some (.int _ k) => some k | none => some 0 | _ => none
def hiB (hi : Option Value) (len : Nat) : Option Int := match hi with | some (.int _ k) => some k | none => some len | _ => none
/-- where a slice of a slice begins -/
def cutOff (cap l size off : Nat) : Nat := match l with
  | 0 => off
  | l + 1 => match Nat.beq cap (l + 1) with
    | true => off
    | false => off + (l + 1) * size
theorem cutOff_pos {cap l size off : Nat} (h : cap = l) : cutOff cap l size off = off := by
  subst h; cases cap <;> simp [cutOff]
theorem cutOff_neg {cap l size off : Nat} (h : ¬ cap = l) : cutOff cap l size off = off + l * size := by
  cases l with
  | zero => simp [cutOff]
  | succ l =>
    have : Nat.beq cap (l + 1) = false := by
      cases e : Nat.beq cap (l + 1) with
      | false => rfl
      | true => exact absurd (Nat.eq_of_beq_eq_true e) h
    simp [cutOff, this]
def cutAcc (tt : List (Nat × TK)) (i : TK) (x : Value) (lo hi : Option Value) : Option Acc :=
  match x with
  | .slice a len cap => match i.desc with
    | .slice e => match look tt e, loB lo, hiB hi len with
      | some j, some l, some h => match a with
        | none => some (.need (0 ≤ l ∧ l ≤ h ∧ h ≤ cap) (.val (.slice none (h.toNat - l.toNat) (cap - l.toNat))))
        | some ⟨n, off, none⟩ => some (.need (0 ≤ l ∧ l ≤ h ∧ h ≤ cap) (.val (.slice (some ⟨n, cutOff cap l.toNat j.size off, none⟩) (h.toNat - l.toNat) (cap - l.toNat))))
        | _ => none
      | _, _, _ => none
    | _ => none
  | .pointer (some ⟨n, off, none⟩) => match i.desc with
    | .array len e => match look tt e, loB lo, hiB hi len with
      | some j, some l, some h => some (.need (0 ≤ l ∧ l ≤ h ∧ h ≤ len) (.val (.slice (some ⟨n, cutOff len l.toNat j.size off, none⟩) (h.toNat - l.toNat) (len - l.toNat))))
      | _, _, _ => none
    | _ => none
  | .string s => match i.desc with
    | .string => match loB lo, hiB hi s.size with
      | some l, some h => some (.need (0 ≤ l ∧ l ≤ h ∧ h ≤ s.size) (.val (.string (s.extract l.toNat h.toNat))))
      | _, _ => none
    | _ => none
  | _ => none
inductive OVR (f : NM) : Option Value → Option Value → Prop
  | none : OVR f none none
  | some {v v'} : VR f v v' → OVR f (some v) (some v')
theorem bounds_ok {lo hi lo' hi' : Option Value} {len cap : Nat} {l h : Int} (hl : loB lo = some l) (hh : hiB hi len = some h) (h1 : OVR f lo lo') (h2 : OVR f hi hi') (hp : 0 ≤ l ∧ l ≤ h ∧ h ≤ cap) (b : Bool) (w : World) :
    (Instr.sliceBounds b len cap lo' hi' none).run P w = .ok (l.toNat, h.toNat, cap) w := by
  obtain ⟨p1, p2, p3⟩ := hp
  have c1 : 0 ≤ h := by omega
  have c2 : l ≤ (h.toNat : Int) := by omega
  cases h1 with
  | none =>
    simp only [loB, Option.some.injEq] at hl; subst hl
    cases h2 with
    | none => simp only [hiB, Option.some.injEq] at hh; subst hh; simp [Instr.sliceBounds]
    | some hv =>
      cases hv <;> simp only [hiB] at hh <;> cases hh
      simp only [Instr.sliceBounds, pure_bind, Instr.sliceBound, asIntOf, c1, p3, and_self, if_true, Sem.run_pure]
      rfl
  | some hv =>
    cases hv <;> simp only [loB] at hl <;> cases hl
    cases h2 with
    | none =>
      simp only [hiB, Option.some.injEq] at hh; subst hh
      simp only [Instr.sliceBounds, pure_bind, Instr.sliceBound, asIntOf, p1, p2, and_self, if_true, Sem.run_pure]
      rfl
    | some hv =>
      cases hv <;> simp only [hiB] at hh <;> cases hh
      simp only [Instr.sliceBounds, pure_bind, Instr.sliceBound, asIntOf, c1, p1, p3, c2, and_self, if_true, Sem.run_pure]
include hT in
theorem cutAcc_ok {t : Nat} {i : TK} (hi : look tt t = some i) {v v' : Value} {lo hi' lo' hi2 : Option Value} {acc : Acc} (h : cutAcc tt i v lo hi' = some acc) (hv : VR f v v') (h1 : OVR f lo lo') (h2 : OVR f hi' hi2) :
    VOk P f (Instr.sliceAt t v' lo' hi2 none) acc := by
  unfold cutAcc at h
  split at h
  · rename_i a len cap
    split at h
    · rename_i e hd
      split at h
      · rename_i j l hh hj hl hhh
        split at h
        · cases h
          cases hv with
          | sliceN =>
            intro hp
            refine ⟨_, .sliceN _ _, fun w => ?_⟩
            simp only [Instr.sliceAt, Sem.run_bind, tk_und hT hi, Result.andThen_ok, hd, Instr.slice, bounds_ok hl hhh h1 h2 hp, tk_size hT hj, Sem.run_pure]
            split <;> rfl
        · rename_i n off
          cases h
          cases hv with
          | sliceZ n' off' A' =>
            intro hp
            have h0 : l.toNat = 0 ∧ hh.toNat = 0 := by have := hp.1; have := hp.2.1; have := hp.2.2; constructor <;> (simp at *; omega)
            rw [h0.1, h0.2]
            refine ⟨_, .sliceZ _ _ A', fun w => ?_⟩
            simp only [Instr.sliceAt, Sem.run_bind, tk_und hT hi, Result.andThen_ok, hd, Instr.slice, bounds_ok hl hhh h1 h2 hp, tk_size hT hj, Sem.run_pure]
            rw [h0.1, h0.2]
            rfl
          | slice hn =>
            intro hp
            refine ⟨_, .slice hn, fun w => ?_⟩
            simp only [Instr.sliceAt, Sem.run_bind, tk_und hT hi, Result.andThen_ok, hd, Instr.slice, bounds_ok hl hhh h1 h2 hp, tk_size hT hj, Sem.run_pure]
            by_cases hc : cap = l.toNat
            · rw [if_pos hc, cutOff_pos hc]
            · rw [if_neg hc, cutOff_neg hc]
              simp only [Option.map_some, Addr.add_lit]
        · cases h
      · cases h
    · cases h
  · rename_i n off
    split at h
    · rename_i len e hd
      split at h
      · rename_i j l hh hj hl hhh
        cases h
        cases hv with
        | ptr hn =>
          intro hp
          refine ⟨_, .slice hn, fun w => ?_⟩
          simp only [Instr.sliceAt, Sem.run_bind, tk_und hT hi, Result.andThen_ok, hd, Instr.sureAddr, Sem.run_pure, bounds_ok hl hhh h1 h2 hp, tk_size hT hj]
          by_cases hc : len = l.toNat
          · rw [if_pos hc, cutOff_pos hc]
          · rw [if_neg hc, cutOff_neg hc, Addr.add_lit]
      · cases h
    · cases h
  · rename_i s
    split at h
    · rename_i hd
      split at h
      · rename_i l hh hl hhh
        cases h
        cases hv with
        | string =>
          intro hp
          refine ⟨_, .string _, fun w => ?_⟩
          simp only [Instr.sliceAt, Sem.run_bind, tk_und hT hi, Result.andThen_ok, hd, Instr.slice]
          rw [if_neg (by simp)]
          simp only [Sem.run_bind, bounds_ok hl hhh h1 h2 hp, Result.andThen_ok, Sem.run_pure]
      · cases h
    · cases h
  · cases h
end ops
end Go.Proofs.YtkcmhcgmiflgbaaDoor
namespace Go.Proofs.YtkcmhcgmiflgbaaDoor
open Go
section ops
variable {P : Program} {tt : List (Nat × TK)} (hT : TKok P tt) {f : NM}

/-! numbers -/
def imax (a b : Int) : Int := if b > a then b else a
def imin (a b : Int) : Int := if b < a then b else a
def binInt (op : BinOp) (k : IntKind) (a b : Int) : Option Acc :=
  match op with
  | .add => some (.val (.int k (k.wrap (a + b))))
  | .sub => some (.val (.int k (k.wrap (a - b))))
  | .mul => some (.val (.int k (k.wrap (a * b))))
  | .quo => some (.need (b ≠ 0) (.val (.int k (k.wrap (a.tdiv b)))))
  | .rem => some (.need (b ≠ 0) (.val (.int k (a.tmod b))))
  | .lss => some (.val (.bool (decide (a < b))))
  | .leq => some (.val (.bool (decide (a ≤ b))))
  | .gtr => some (.val (.bool (decide (b < a))))
  | .geq => some (.val (.bool (decide (b ≤ a))))
  | .eql => some (.val (.bool (a == b)))
  | .neq => some (.val (.bool (a != b)))
  | .and => some (.val (.int k (bits .and k a b)))
  | .or => some (.val (.int k (bits .or k a b)))
  | .xor => some (.val (.int k (bits .xor k a b)))
  | .andNot => some (.val (.int k (bits .andNot k a b)))
  | _ => none
def kindsEq (a b : IntKind) : Bool := decide (a = b)
/-- leaf by leaf -/
def eqG : List Leaf → List Value → List Value → Option Bool
  | [], [], [] => some true
  | .b :: ks, .bool a :: xs, .bool b :: ys => match eqG ks xs ys with
    | some r => some ((a == b) && r)
    | none => none
  | .i k :: ks, .int k1 a :: xs, .int k2 b :: ys => match kindsEq k1 k && kindsEq k2 k with
    | true => match eqG ks xs ys with
      | some r => some ((a == b) && r)
      | none => none
    | false => none
  | _, _, _ => none
theorem eqG_ok : ∀ {ks : List Leaf} {xs ys : List Value} {r : Bool}, eqG ks xs ys = some r → All2 leafKd ks xs ∧ All2 leafKd ks ys ∧ aggEq xs ys = r := by
  intro ks
  induction ks with
  | nil =>
    intro xs ys r h
    cases xs <;> cases ys <;> simp [eqG] at h
    subst h
    exact ⟨.nil, .nil, rfl⟩
  | cons k ks ih =>
    intro xs ys r h
    unfold eqG at h
    split at h
    · simp_all
    · rename_i e1; cases e1
      split at h
      · rename_i q e
        cases h
        obtain ⟨h1, h2, h3⟩ := ih e
        exact ⟨.b h1, .b h2, by simp [aggEq, leafEq, h3]⟩
      · cases h
    · rename_i e1; cases e1
      split at h
      · rename_i e0
        simp only [Bool.and_eq_true, kindsEq, decide_eq_true_eq] at e0
        obtain ⟨rfl, rfl⟩ := e0
        split at h
        · rename_i q e
          cases h
          obtain ⟨h1, h2, h3⟩ := ih e
          exact ⟨.i h1, .i h2, by simp [aggEq, leafEq, h3]⟩
        · cases h
      · cases h
    · cases h
theorem flat_VR {ks : List Leaf} : ∀ {xs : List Value} {x' : Array Value}, All2 leafKd ks xs → AR f xs.toArray x' → x'.toList = xs := by
  induction ks with
  | nil =>
    intro xs x' h hr
    cases h
    have := hr.1
    apply List.eq_nil_of_length_eq_zero
    simpa using this.symm
  | cons k ks ih =>
    intro xs x' h hr
    cases h with
    | cons hk hl =>
      rename_i v vs
      obtain ⟨l'⟩ := x'
      cases l' with
      | nil => have := hr.1; simp at this
      | cons v' vs' =>
        have hv := hr.2 0 v v' (by simp) (by simp)
        have htl : AR f vs.toArray ⟨vs'⟩ := by
          refine ⟨by have := hr.1; simpa using this, fun i a b ha hb => hr.2 (i + 1) a b (by simpa using ha) (by simpa using hb)⟩
        have := ih hl htl
        simp only at this
        subst this
        have : v' = v := by
          cases k with
          | b => obtain ⟨x, rfl⟩ := hk; cases hv; rfl
          | i k => obtain ⟨x, rfl⟩ := hk; cases hv; rfl
        rw [this]
def binAcc (i : TK) (op : BinOp) (x y : Value) : Option Acc :=
  match x, y with
  | .int k a, .int k2 b => match op with
    | .shl => some (.need (0 ≤ b) (.val (.int k (k.wrap (a * 2 ^ (min b.toNat k.bits))))))
    | .shr => some (.need (0 ≤ b) (.val (.int k (a.fdiv (2 ^ (min b.toNat k.bits))))))
    | op => match kindsEq k k2 with
      | true => binInt op k a b
      | false => none
  | .bool a, .bool b => match i.desc, op with
    | .bool, .eql => some (.val (.bool (a == b)))
    | .bool, .neq => some (.val (.bool (!(a == b))))
    | _, _ => none
  | .string a, .string b => match op with
    | .eql => some (.val (.bool (a.toList == b.toList)))
    | .neq => some (.val (.bool (!(a.toList == b.toList))))
    | .add => some (.need (((a.size + b.size : Nat) : Int) ≤ IntKind.i64.max) (.val (.string (a ++ b))))
    | _ => none
  | .pointer none, .pointer b => match i.desc, op with
    | .pointer _, .eql => some (.val (.bool b.isNone))
    | .pointer _, .neq => some (.val (.bool (!b.isNone)))
    | _, _ => none
  | .pointer (some _), .pointer none => match i.desc, op with
    | .pointer _, .eql => some (.val (.bool false))
    | .pointer _, .neq => some (.val (.bool true))
    | _, _ => none
  | .map a, .map none => match i.desc, op with
    | .map _ _, .eql => some (.val (.bool a.isNone))
    | .map _ _, .neq => some (.val (.bool (!a.isNone)))
    | _, _ => none
  | .slice a _ c, .slice none _ _ => match i.desc, op with
    | .slice _, .eql => match a with
      | none => some (.val (.bool true))
      | some _ => some (.amb (c = 0) (.bool false) (.bool true))
    | .slice _, .neq => match a with
      | none => some (.val (.bool false))
      | some _ => some (.amb (c = 0) (.bool true) (.bool false))
    | _, _ => none
  | .agg a, .agg b => match op, i.ks with
    | .eql, k :: ks => match eqG (k :: ks) a.toList b.toList with
      | some r => some (.val (.bool r))
      | none => none
    | .neq, k :: ks => match eqG (k :: ks) a.toList b.toList with
      | some r => some (.val (.bool (!r)))
      | none => none
    | _, _ => none
  | _, _ => none

theorem eq_ptr1 {t e : TypeId} (hu : P.underlying t = some (.pointer e)) (d : Nat) (b : Option Addr) (w : World) : (Op.equalIn (d + 1) t (.pointer none) (.pointer b)).run P w = .ok b.isNone w := by
  simp [Op.equalIn, run_underlying hu]
theorem eq_ptr2 {t e : TypeId} (hu : P.underlying t = some (.pointer e)) (d : Nat) (b : Addr) (w : World) : (Op.equalIn (d + 1) t (.pointer (some b)) (.pointer none)).run P w = .ok false w := by
  simp [Op.equalIn, run_underlying hu]
theorem eq_sl1 {t e : TypeId} (hu : P.underlying t = some (.slice e)) (d : Nat) (a : Option Addr) (l c l2 c2 : Nat) (w : World) : (Op.equalIn (d + 1) t (.slice a l c) (.slice none l2 c2)).run P w = .ok a.isNone w := by
  cases a <;> simp [Op.equalIn, run_underlying hu]
theorem binInt_ok {op : BinOp} {k : IntKind} {a b : Int} {acc : Acc} (t : TypeId) (x y : Operand) (h : binInt op k a b = some acc) :
    VOk P f (do eqGuard op t x y (.int k a) (.int k b); binOp op t (.int k a) (.int k b)) acc := by
  cases op <;> simp only [binInt] at h <;> cases h
  case quo => intro hp; exact ⟨_, .int _ _, fun w => by simp only [eqGuard_at_int, pure_bind, binOp_quo]; simp [Op.intDiv, hp]⟩
  case rem => intro hp; exact ⟨_, .int _ _, fun w => by simp only [eqGuard_at_int, pure_bind, binOp_rem]; simp [Op.intDiv, hp]⟩
  case add => exact ⟨_, .int _ _, fun w => by simp only [eqGuard_at_int, pure_bind, binOp_add]; rfl⟩
  case sub => exact ⟨_, .int _ _, fun w => by simp only [eqGuard_at_int, pure_bind, binOp_sub]; rfl⟩
  case mul => exact ⟨_, .int _ _, fun w => by simp only [eqGuard_at_int, pure_bind, binOp_mul]; rfl⟩
  case and => exact ⟨_, .int _ _, fun w => by simp only [eqGuard_at_int, pure_bind, binOp_and]; rfl⟩
  case or => exact ⟨_, .int _ _, fun w => by simp only [eqGuard_at_int, pure_bind, binOp_or]; rfl⟩
  case xor => exact ⟨_, .int _ _, fun w => by simp only [eqGuard_at_int, pure_bind, binOp_xor]; rfl⟩
  case andNot => exact ⟨_, .int _ _, fun w => by simp only [eqGuard_at_int, pure_bind, binOp_andNot]; rfl⟩
  case eql => exact ⟨_, .bool _, fun w => by simp only [eqGuard_at_int, pure_bind, binOp_eql]; rfl⟩
  case neq => exact ⟨_, .bool _, fun w => by simp only [eqGuard_at_int, pure_bind, binOp_neq]; rfl⟩
  case lss => exact ⟨_, .bool _, fun w => by simp only [eqGuard_at_int, pure_bind, binOp_lss]; rfl⟩
  case leq => exact ⟨_, .bool _, fun w => by simp only [eqGuard_at_int, pure_bind, binOp_leq]; rfl⟩
  case gtr => exact ⟨_, .bool _, fun w => by simp only [eqGuard_at_int, pure_bind, binOp_gtr]; rfl⟩
  case geq => exact ⟨_, .bool _, fun w => by simp only [eqGuard_at_int, pure_bind, binOp_geq]; rfl⟩

include hT in
theorem binAcc_ok {t : Nat} {i : TK} (hi : look tt t = some i) {op : BinOp} {u v u' v' : Value} {acc : Acc} (x y : Operand) (h : binAcc i op u v = some acc) (hu : VR f u u') (hv : VR f v v') :
    VOk P f (do eqGuard op t x y u' v'; binOp op t u' v') acc := by
  have hund := (hT t i hi).1
  have hd : ∀ w, (underlying t).run P w = .ok i.desc w := tk_und hT hi
  unfold binAcc at h
  split at h
  · rename_i k a k2 b
    cases hu; cases hv
    split at h
    · cases h
      intro hp
      refine ⟨_, .int _ _, fun w => ?_⟩
      simp only [eqGuard_at_int, pure_bind, binOp_shl]
      simp only [Op.shift]
      rw [if_neg (by omega)]; rfl
    · cases h
      intro hp
      refine ⟨_, .int _ _, fun w => ?_⟩
      simp only [eqGuard_at_int, pure_bind, binOp_shr]
      simp only [Op.shift]
      rw [if_neg (by omega)]; rfl
    · split at h
      · rename_i hk
        simp only [kindsEq, decide_eq_true_eq] at hk
        subst hk
        exact binInt_ok t x y h
      · cases h
  · rename_i a b
    cases hu; cases hv
    split at h
    · rename_i hdd
      cases h
      exact ⟨_, .bool _, fun w => by simp only [eqGuard_at_bool, pure_bind]; exact run_eql_bool w t a b (hdd ▸ hund)⟩
    · rename_i hdd
      cases h
      exact ⟨_, .bool _, fun w => by simp only [eqGuard_at_bool, pure_bind]; exact run_neq_bool w t a b (hdd ▸ hund)⟩
    · cases h
  · rename_i a b
    cases hu; cases hv
    split at h
    · cases h; exact ⟨_, .bool _, fun w => by simp only [eqGuard_at_string, pure_bind]; rfl⟩
    · cases h; exact ⟨_, .bool _, fun w => by simp only [eqGuard_at_string, pure_bind]; rfl⟩
    · cases h
      intro hp
      refine ⟨_, .string _, fun w => ?_⟩
      simp only [eqGuard_at_string, pure_bind]
      simp only [binOp, Op.stringOp]
      rw [if_neg (by omega)]; rfl
    · cases h
  · rename_i b
    cases hu
    split at h
    · rename_i e hdd
      cases h
      refine ⟨_, .bool _, fun w => ?_⟩
      simp only [eqGuard_at_pointer, pure_bind]
      have q := fun b => eq_ptr1 (hdd ▸ hund) 9999 b w
      cases hv <;> simp only [binOp] <;> simp [Op.equal, Op.maxDepth, q]
    · rename_i e hdd
      cases h
      refine ⟨_, .bool _, fun w => ?_⟩
      simp only [eqGuard_at_pointer, pure_bind]
      have q := fun b => eq_ptr1 (hdd ▸ hund) 9999 b w
      cases hv <;> simp only [binOp] <;> simp [Op.equal, Op.maxDepth, q]
    · cases h
  · rename_i b
    cases hu; cases hv
    split at h
    · rename_i e hdd
      cases h
      refine ⟨_, .bool _, fun w => ?_⟩
      simp only [eqGuard_at_pointer, pure_bind]
      have q := fun b => eq_ptr2 (hdd ▸ hund) 9999 b w
      simp only [binOp]
      simp [Op.equal, Op.maxDepth, q]
    · rename_i e hdd
      cases h
      refine ⟨_, .bool _, fun w => ?_⟩
      simp only [eqGuard_at_pointer, pure_bind]
      have q := fun b => eq_ptr2 (hdd ▸ hund) 9999 b w
      simp only [binOp]
      simp [Op.equal, Op.maxDepth, q]
    · cases h
  · rename_i a
    cases hv
    split at h
    · rename_i e1 e2 hdd
      cases h
      refine ⟨_, .bool _, fun w => ?_⟩
      cases hu <;> simp only [eqGuard_at_map, pure_bind] <;> exact run_eql_map_nil w t _ _ _ (hdd ▸ hund)
    · rename_i e1 e2 hdd
      cases h
      refine ⟨_, .bool _, fun w => ?_⟩
      cases hu <;> simp only [eqGuard_at_map, pure_bind] <;> exact run_neq_map_nil w t _ _ _ (hdd ▸ hund)
    · cases h
  · rename_i a l1 c1 l2 c2
    cases hv
    split at h
    · rename_i e1 hdd
      have q := fun a l c l2 c2 w => eq_sl1 (hdd ▸ hund) 9999 a l c l2 c2 w
      split at h
      · cases h
        refine ⟨_, .bool _, fun w => ?_⟩
        simp only [binOp]
        cases hu
        simp [eqGuard_at_slice, Op.equal, Op.maxDepth, q]
      · cases h
        cases hu with
        | slice hn =>
          refine ⟨.bool false, Or.inl (.bool _), fun w => ?_⟩
          simp only [binOp]
          simp [eqGuard_at_slice, Op.equal, Op.maxDepth, q]
        | sliceZ n off A =>
          cases A with
          | none =>
            refine ⟨.bool true, Or.inr ⟨rfl, .bool _⟩, fun w => ?_⟩
            simp only [binOp]
            simp [eqGuard_at_slice, Op.equal, Op.maxDepth, q]
          | some A =>
            refine ⟨.bool false, Or.inl (.bool _), fun w => ?_⟩
            simp only [binOp]
            simp [eqGuard_at_slice, Op.equal, Op.maxDepth, q]
    · rename_i e1 hdd
      have q := fun a l c l2 c2 w => eq_sl1 (hdd ▸ hund) 9999 a l c l2 c2 w
      split at h
      · cases h
        refine ⟨_, .bool _, fun w => ?_⟩
        simp only [binOp]
        cases hu
        simp [eqGuard_at_slice, Op.equal, Op.maxDepth, q]
      · cases h
        cases hu with
        | slice hn =>
          refine ⟨.bool true, Or.inl (.bool _), fun w => ?_⟩
          simp only [binOp]
          simp [eqGuard_at_slice, Op.equal, Op.maxDepth, q]
        | sliceZ n off A =>
          cases A with
          | none =>
            refine ⟨.bool false, Or.inr ⟨rfl, .bool _⟩, fun w => ?_⟩
            simp only [binOp]
            simp [eqGuard_at_slice, Op.equal, Op.maxDepth, q]
          | some A =>
            refine ⟨.bool true, Or.inl (.bool _), fun w => ?_⟩
            simp only [binOp]
            simp [eqGuard_at_slice, Op.equal, Op.maxDepth, q]
    · cases h
  · rename_i a b
    cases hu with
    | agg q1 q2 =>
      cases hv with
      | agg q3 q4 =>
        rename_i a' b'
        have hK := (hT t i hi).2.2
        split at h
        · rename_i k ks hks
          obtain ⟨l1, l2, l3, l4⟩ := hK (by simp [hks])
          rw [hks] at l1
          split at h
          · rename_i r hr
            cases h
            obtain ⟨g1, g2, g3⟩ := eqG_ok hr
            have ea := flat_VR (f := f) g1 (x' := a') (show AR f a a' from ⟨q1, q2⟩)
            have eb := flat_VR (f := f) g2 (x' := b') (show AR f b b' from ⟨q3, q4⟩)
            refine ⟨_, .bool _, fun w => ?_⟩
            simp only [Sem.run_bind, run_eqGuard_agg w _ _ _ _ _ _ l4, Result.andThen_ok]
            have := run_eql_leaves (by decide : 6 ≤ 10000) l1 l2 l3 g1 g2 w
            rw [g3] at this
            have e1 : a' = a.toList.toArray := by rw [← ea]
            have e2 : b' = b.toList.toArray := by rw [← eb]
            rw [e1, e2]; exact this
          · cases h
        · rename_i k ks hks
          obtain ⟨l1, l2, l3, l4⟩ := hK (by simp [hks])
          rw [hks] at l1
          split at h
          · rename_i r hr
            cases h
            obtain ⟨g1, g2, g3⟩ := eqG_ok hr
            have ea := flat_VR (f := f) g1 (x' := a') (show AR f a a' from ⟨q1, q2⟩)
            have eb := flat_VR (f := f) g2 (x' := b') (show AR f b b' from ⟨q3, q4⟩)
            refine ⟨_, .bool _, fun w => ?_⟩
            simp only [Sem.run_bind, run_eqGuard_agg w _ _ _ _ _ _ l4, Result.andThen_ok]
            have := run_neq_leaves (by decide : 6 ≤ 10000) l1 l2 l3 g1 g2 w
            rw [g3] at this
            have e1 : a' = a.toList.toArray := by rw [← ea]
            have e2 : b' = b.toList.toArray := by rw [← eb]
            rw [e1, e2]; exact this
          · cases h
        · cases h
  · cases h

/-- two pointers into one block -/
def binAccT (tt : List (Nat × TK)) (i : TK) (op : BinOp) (x y : Value) : Option Acc := match x, y with
  | .pointer (some ⟨n, off, none⟩), .pointer (some ⟨n2, off2, none⟩) => match i.desc, Nat.beq n n2 with
    | .pointer e, true => match look tt e with
      | some ei => match Nat.beq ei.size 0, op with
        | false, .eql => some (.val (.bool (Nat.beq off off2)))
        | false, .neq => some (.val (.bool (!Nat.beq off off2)))
        | _, _ => none
      | none => none
    | _, _ => none
  | x, y => binAcc i op x y
include hT in
theorem binAccT_ok {t : Nat} {i : TK} (hi : look tt t = some i) {op : BinOp} {u v u' v' : Value} {acc : Acc} (x y : Operand) (h : binAccT tt i op u v = some acc) (hu : VR f u u') (hv : VR f v v') :
    VOk P f (do eqGuard op t x y u' v'; binOp op t u' v') acc := by
  unfold binAccT at h
  split at h
  · rename_i n off n2 off2
    split at h
    · rename_i e hdd hn
      have := Nat.eq_of_beq_eq_true hn
      subst this
      split at h
      · rename_i ei hei
        have hund := (hT t i hi).1
        rw [hdd] at hund
        cases hu with
        | ptr hb =>
          rename_i b
          cases hv with
          | ptr hb2 =>
            rw [hb] at hb2; cases hb2
            have key : Nat.beq ei.size 0 = false → ∀ w, (Op.equal t (.pointer (some ⟨b, off, none⟩)) (.pointer (some ⟨b, off2, none⟩))).run P w = .ok (Nat.beq off off2) w := by
              intro hs w
              have hsz := tk_size hT hei w
              have hne : ei.size ≠ 0 := fun h0 => by rw [h0] at hs; cases hs
              have e1 : ((⟨b, off, none⟩ : Addr) == ⟨b, off2, none⟩) = Nat.beq off off2 := by
                rw [Bool.eq_iff_iff]
                simp only [beq_iff_eq, Addr.mk.injEq, true_and, and_true]
                exact ⟨fun h => by rw [h]; simp, fun h => Nat.eq_of_beq_eq_true h⟩
              show (Op.equalIn (9999 + 1) t _ _).run P w = _
              unfold Op.equalIn
              simp only [Sem.run_bind, run_underlying hund, Result.andThen_ok, hsz, hne, ne_eq, not_false_eq_true, if_true, sameAddr, beq_self_eq_true, e1, Sem.run_pure]
            split at h
            · rename_i hs
              cases h
              refine ⟨_, .bool _, fun w => ?_⟩
              simp only [eqGuard_at_pointer, pure_bind]
              simp only [binOp, Sem.run_bind, key hs, Result.andThen_ok, Sem.run_pure]
            · rename_i hs
              cases h
              refine ⟨_, .bool _, fun w => ?_⟩
              simp only [eqGuard_at_pointer, pure_bind]
              simp only [binOp, Sem.run_bind, key hs, Result.andThen_ok, Sem.run_pure]
            · cases h
      · cases h
    · cases h
  · exact binAcc_ok hT hi x y h hu hv

def unAcc (op : UnOp) : Value → Option Acc
  | .bool b => match op with
    | .not => some (.val (.bool (!b)))
    | _ => none
  | .int k n => match op with
    | .neg => some (.val (.int k (k.wrap (0 - n))))
    | _ => none
  | _ => none
theorem unAcc_ok {op : UnOp} {v v' : Value} {acc : Acc} (h : unAcc op v = some acc) (hv : VR f v v') : VOk P f (Op.unary op v') acc := by
  unfold unAcc at h
  split at h
  · cases hv
    split at h
    · cases h; exact ⟨_, .bool _, fun w => rfl⟩
    · cases h
  · cases hv
    split at h
    · cases h; exact ⟨_, .int _ _, fun w => rfl⟩
    · cases h
  · cases h
def convAcc (tt : List (Nat × TK)) (s d : Nat) : Value → Option Acc
  | .int _ n => match look tt s, look tt d with
    | some _, some j => match j.desc with
      | .int k => some (.val (.int k (k.wrap n)))
      | _ => none
    | _, _ => none
  | _ => none
include hT in
theorem convAcc_ok {s d : Nat} {v v' : Value} {acc : Acc} (h : convAcc tt s d v = some acc) (hv : VR f v v') : VOk P f (convert s d v') acc := by
  unfold convAcc at h
  split at h
  · cases hv
    split at h
    · rename_i i j hi hj
      split at h
      · rename_i k hd
        cases h
        refine ⟨_, .int _ _, fun w => ?_⟩
        simp only [convert, Sem.run_bind, tk_und hT hi, tk_und hT hj, Result.andThen_ok, hd, Conv.intToInt, Sem.run_pure]
      · cases h
    · cases h
  · cases h
end ops
end Go.Proofs.YtkcmhcgmiflgbaaDoor

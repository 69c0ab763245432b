/- Runs over a small memory with names: steps, regions, whatever order is drawn. -/
import Derived.Test.YtkcmhcgmiflgbaaDoorGc
import Derived.Tactics
namespace Go.Proofs.YtkcmhcgmiflgbaaDoor
open Go

def Sees (f : NM) (h : List (Nat × GO)) (w : World) : Prop := ∀ n g, look h n = some g → Holds f w n g
/-- how a call leaves the world -/
structure After (f : NM) (h : List (Nat × GO)) (ns : List Nat) (w : World) (g : NM) (v v' : Value) (h' : List (Nat × GO)) (ns' : List Nat) (w' : World) : Prop where
  le : NM.le f g
  lt : ∀ n b, g n = some b → b < w'.heap.size
  val : VR g v v'
  sees : Sees g h' w'
  owx : ∀ b n, g.ow b = some n → ((∃ n0, f.ow b = some n0 ∧ n ≤ n0) ∨ w.heap.size ≤ b) ∧ b < w'.heap.size
  kp : ∀ b n, f.ow b = some n → ∃ n', g.ow b = some n' ∧ n' ≤ n
  ol : ∀ b n, g.ow b = some n → ∀ x, x ∈ ns' → n < x
  new : ∀ n b, g n = some b → (∃ m, f m = some b) ∨ w.heap.size ≤ b
  far : ∀ b, b < w.heap.size → f.ow b = none → w'.heap[b]? = w.heap[b]?
  top : ∀ x, x ∈ ns' → ∀ m, x ≤ m → g m = none
  asc : ns'.Pairwise (· < ·)
  low : ∀ x, x ∈ ns' → ∃ z, z ∈ ns ∧ z ≤ x
  grow : w.heap.size ≤ w'.heap.size
  os : w'.os = w.os
  tape : w'.tape = w.tape
  out : w'.output = w.output
  dr : w.drawn ≤ w'.drawn
structure Before (ng : Nat) (f : NM) (h : List (Nat × GO)) (ns : List Nat) (w : World) : Prop where
  lt : ∀ n b, f n = some b → b < w.heap.size
  glob : ∀ g, g < ng → f g = some g
  top : ∀ x, x ∈ ns → ∀ m, x ≤ m → f m = none
  asc : ns.Pairwise (· < ·)
  sees : Sees f h w
  owx : ∀ b n, f.ow b = some n → b < w.heap.size
  ol : ∀ b n, f.ow b = some n → ∀ x, x ∈ ns → n < x
/-- what a call comes to -/
def Spec (P : Program) (ng : Nat) (k : FuncId) (args : List Value) (h : List (Nat × GO)) (ns : List Nat) (K : Value → List (Nat × GO) → List Nat → Prop) : Prop :=
  ∀ (f : NM) (w : World) (args' : Array Value), Before ng f h ns w → AR f ⟨args⟩ args' →
    Calls P k args' w fun e w' => ∃ v v' h' ns' g, e = .returned v' ∧ K v h' ns' ∧ After f h ns w g v v' h' ns' w'
/-- an ordinary function -/
def Plain (P : Program) (k : FuncId) : Prop := ∃ fn, P.funcs[k]? = some fn ∧ (fn.name == "runtime.NumGoroutine") = false ∧ fn.body.isNone = false
inductive CallG (P : Program) (ng : Nat) (k : FuncId) (args : List Value) (h : List (Nat × GO)) (ns : List Nat) (K : Value → List (Nat × GO) → List Nat → Prop) : Prop
  | mk : Plain P k → Spec P ng k args h ns K → CallG P ng k args h ns K

theorem Sat.before {c : Cx} {f : NM} {S : St} {a : Act} {w : World} (H : Sat c f S a w) : Before c.ng f S.h S.n w :=
  ⟨H.lt, H.glob, H.top, H.asc, H.sees, fun b n h => (H.owx b n h).2, H.ol⟩
theorem Sat.ev {c : Cx} {f : NM} {S : St} {a : Act} {w : World} (H : Sat c f S a w) : Ev c.ng f S a := ⟨H.tms, H.glob⟩
theorem Sat.after {c : Cx} {f : NM} {S : St} {a : Act} {w w' : World} (H : Sat c f S a w) {g : NM} {v v' : Value} {h' : List (Nat × GO)} {ns' : List Nat} (A : After f S.h S.n w g v v' h' ns' w') :
    Sat c g ⟨S.t, h', ns'⟩ a w' where
  lt := A.lt
  glob := fun n hn => A.le _ _ (H.glob n hn)
  top := A.top
  asc := A.asc
  low := fun x hx => by
    obtain ⟨z, h1, h2⟩ := A.low x hx
    exact Nat.le_trans (H.low z h1) h2
  f0lo := H.f0lo
  sees := A.sees
  owx := by
    intro b n hb
    obtain ⟨h1, h2⟩ := A.owx b n hb
    refine ⟨?_, h2⟩
    rcases h1 with ⟨n0, h1, hle⟩ | h1
    · rcases (H.owx b n0 h1).1 with ⟨n1, k1, k2⟩ | k
      · exact Or.inl ⟨n1, k1, Nat.le_trans hle k2⟩
      · exact Or.inr k
    · exact Or.inr (Nat.le_trans H.grow h1)
  kp := fun b n h => by
    obtain ⟨n1, h1, h2⟩ := H.kp b n h
    obtain ⟨n2, h3, h4⟩ := A.kp b n1 h1
    exact ⟨n2, h3, Nat.le_trans h4 h2⟩
  ol := A.ol
  olo := H.olo
  tms := fun k v hk => by
    obtain ⟨v', h1, h2⟩ := H.tms k v hk
    exact ⟨v', h1, h2.mono A.le⟩
  size := H.size
  defers := H.defers
  ext := H.ext.trans A.le
  new := by
    intro n b h1
    rcases A.new n b h1 with ⟨m, h2⟩ | h2
    · exact H.new m b h2
    · exact Or.inr (Nat.le_trans H.grow h2)
  far := by
    intro b hb hx
    rw [A.far b (Nat.lt_of_lt_of_le hb H.grow) (by
      cases h : f.ow b with
      | none => rfl
      | some n =>
        rcases (H.owx b n h).1 with ⟨_, h3, _⟩ | h3
        · rw [hx] at h3; cases h3
        · omega)]
    exact H.far b hb hx
  grow := Nat.le_trans H.grow A.grow
  os := A.os.trans H.os
  tape := A.tape.trans H.tape
  out := A.out.trans H.out
  dr := Nat.le_trans H.dr A.dr

/-- a value, laid out -/
def forceV (v : Value) (K : Value → Prop) : Prop := match v with
  | .bool b => K (.bool b)
  | .int k n => K (.int k n)
  | .float k n => K (.float k n)
  | .complex k m n => K (.complex k m n)
  | .string s => K (.string s)
  | .pointer a => K (.pointer a)
  | .slice a l c => K (.slice a l c)
  | .map r => K (.map r)
  | .chan r => K (.chan r)
  | .func f x y => K (.func f x y)
  | .nilFunc => K .nilFunc
  | .iface t v => K (.iface t v)
  | .nilIface => K .nilIface
  | .agg c => K (.agg c)
  | .tuple c => K (.tuple c)
theorem forceV_eq (v : Value) (K : Value → Prop) : forceV v K = K v := by cases v <;> rfl
/-- the state behind a slot that is written, laid out -/
def putK (S : St) (d : Option Nat) (v : Value) (K : St → Prop) : Prop :=
  match d, S with
  | some d, ⟨t, h, n⟩ => forceV v fun v => K ⟨(d, v) :: t, h, n⟩
  | none, S => K S
theorem putK_eq (S : St) (d : Option Nat) (v : Value) (K : St → Prop) : putK S d v K = K (S.put d v) := by
  obtain ⟨t, h, n⟩ := S
  cases d
  · rfl
  · rename_i d; exact forceV_eq v (fun v => K ⟨(d, v) :: t, h, n⟩)
section steps
variable (P : Program) (N ng : Nat) (tt : List (Nat × TK))

def stepAcc (S : St) (d : Option Nat) (K : St → Prop) : Acc → Prop
  | .val v => putK S d v K
  | .need p a => p ∧ stepAcc S d K a
  | .amb p v u => putK S d v K ∧ (p → putK S d u K)
  | .rd n k => match look S.h n with
    | some (.rw o) => rdK (k o) fun v => putK S d v K
    | some (.ro o) => rdK (k o) fun v => putK S d v K
    | _ => False
  | .wr n k => match look S.h n, S with
    | some (.rw o), ⟨t, h, ns⟩ => rdK (k o) fun p => match p with
      | (v, o') => putK ⟨t, (n, .rw o') :: h, ns⟩ d v K
    | _, _ => False
  | .new o k => match S with
    | ⟨t, h, n :: ns⟩ => putK ⟨t, (n, .rw o) :: h, ns⟩ d (k n) K
    | _ => False
/-- an operation that is told by a lemma of its own -/
inductive RawG (o : Oper) (vs : List Value) (h : List (Nat × GO)) (ns : List Nat) (K : Value → List (Nat × GO) → List Nat → Prop) : Prop
  | mk : (∀ c, o.op ≠ .defer c) → (∀ (c : Cx) (f : NM) (t : List (Nat × Value)) (a : Act) (w : World) (ρ : Operand → Value), Sat c f ⟨t, h, ns⟩ a w → AR f ⟨vs⟩ (o.op.operands.map ρ) →
      ∃ x v v' h' ns' f' w', (execOp ρ o).run P w = .ok x w' ∧ Nx x v' ∧ VR f' v v' ∧ Sat c f' ⟨t, h', ns'⟩ a w' ∧ K v h' ns') → RawG o vs h ns K
def stepG (S : St) (o : Oper) (K : St → Prop) : Prop :=
  match dstOk N o.dst with
  | true => match o.op with
    | .call ⟨.value x, xs, _⟩ => match evalG ng S x, evalL ng S xs.toList, S with
      | some (.func (.func k) ⟨a⟩ ⟨b⟩), some vs, ⟨t, h, ns⟩ => match catO vs b with
        | some vb => match catO a vb with
          | some l => CallG P ng k l h ns fun v h' ns' => putK ⟨t, h', ns'⟩ o.dst v K
          | none => False
        | none => False
      | _, _, _ => False
    | .call ⟨.builtin .append, xs, ts⟩ => match evalL ng S xs.toList, S with
      | some vs, ⟨t, h, ns⟩ => match appR tt ts.toList vs with
        | some r => AppG r h ns fun v h' ns' => putK ⟨t, h', ns'⟩ o.dst v K
        | none => False
      | _, _ => False
    | op => match accG ng tt S op with
      | some a => stepAcc S o.dst K a
      | none => match evalL ng S op.operands.toList, S with
        | some vs, ⟨t, h, ns⟩ => RawG P o vs h ns fun v h' ns' => putK ⟨t, h', ns'⟩ o.dst v K
        | _, _ => False
  | false => False
def skipG (N : Nat) (S : St) (o : Oper) (K : St → Prop) : Prop := match dstOk N o.dst with
  | true => putK S o.dst undef K
  | false => False
def regionG (all : List Oper) : List Oper → (St → Prop) → St → Prop
  | [], K, S => K S
  | o :: r, K, S => match o.guard with
    | none => stepG P N ng tt S o (regionG all r K)
    | some (j, b) => match all[j]?, S with
      | some ⟨some d, _, _, _, _, _⟩, ⟨t, h, n⟩ => match look t d with
        | some (.bool y) => match b with
          | true => bif2 y (stepG P N ng tt ⟨(d, .bool true) :: t, h, n⟩ o (regionG all r K)) (skipG N ⟨(d, .bool false) :: t, h, n⟩ o (regionG all r K))
          | false => bif2 y (skipG N ⟨(d, .bool true) :: t, h, n⟩ o (regionG all r K)) (stepG P N ng tt ⟨(d, .bool false) :: t, h, n⟩ o (regionG all r K))
        | some (.tuple _) => skipG N ⟨t, h, n⟩ o (regionG all r K)
        | _ => False
      | _, _ => False
end steps

section sound
variable {P : Program} {tt : List (Nat × TK)} (hT : TKok P tt) {c : Cx}
def Lift (c : Cx) (K : St → Prop) (a : Act) (w : World) : Prop := ∃ S f, K S ∧ Sat c f S a w

theorem upon_nx {o : Oper} {a : Act} {next : Act → World → Prop} {Q : Exit → Act → World → Prop} {x : Next} {v : Value} {w : World} (hx : Nx x v) (h : next (a.put o.dst v) w) : o.upon P a next Q (.ok x w) := by
  rcases hx with rfl | ⟨rfl, rfl⟩
  · exact h
  · exact h
theorem stepAcc_sound {S : St} {o : Oper} {a : Act} {w : World} {f : NM} {K : St → Prop} {Q : Exit → Act → World → Prop} {next : Act → World → Prop}
    (hn : ∀ a w, Lift c K a w → next a w) (H : Sat c f S a w) (hd : dstOk c.N o.dst = true) : ∀ {acc : Acc}, NOk P f (execOp a.eval o) acc → stepAcc S o.dst K acc → o.wp P a w next Q := by
  intro acc
  induction acc with
  | val v =>
    rintro ⟨v', x, h1, h2, h3⟩ hK
    simp only [stepAcc, putK_eq] at hK
    unfold Oper.wp
    rw [h3 w]
    exact upon_nx h2 (hn _ _ ⟨_, f, hK, H.put hd h1⟩)
  | need p acc ih =>
    rintro h ⟨hp, hK⟩
    exact ih (h hp) hK
  | amb p v u =>
    rintro ⟨v', x, h1, h2, h3⟩ ⟨hK1, hK2⟩
    simp only [putK_eq] at hK1 hK2
    unfold Oper.wp
    rw [h3 w]
    rcases h1 with h1 | ⟨hp, h1⟩
    · exact upon_nx h2 (hn _ _ ⟨_, f, hK1, H.put hd h1⟩)
    · exact upon_nx h2 (hn _ _ ⟨_, f, hK2 hp, H.put hd h1⟩)
  | rd n k =>
    intro h hK
    have key : ∃ g ob, look S.h n = some g ∧ g.obj = some ob ∧ rdK (k ob) fun v => putK S o.dst v K := by
      simp only [stepAcc] at hK
      split at hK
      · rename_i ob hob; exact ⟨_, ob, hob, rfl, hK⟩
      · rename_i ob hob; exact ⟨_, ob, hob, rfl, hK⟩
      · exact hK.elim
    obtain ⟨g, ob, hob, hgo, hK⟩ := key
    obtain ⟨v, hv, hK⟩ := rdK_out hK
    rw [putK_eq] at hK
    obtain ⟨b, h1⟩ := h.1
    obtain ⟨o', h2, h3⟩ := (H.sees n g hob).obj hgo h1
    obtain ⟨v', x, h4, h5, h6⟩ := h.2 b ob o' w v h1 h2 h3 hv
    unfold Oper.wp
    rw [h6]
    exact upon_nx h5 (hn _ _ ⟨_, f, hK, H.put hd h4⟩)
  | wr n k =>
    intro h hK
    simp only [stepAcc] at hK
    split at hK
    · rename_i ob t hh ns hob
      obtain ⟨⟨v, o2⟩, hv, hK⟩ := rdK_out hK
      simp only [putK_eq] at hK
      obtain ⟨b, h1⟩ := h.1
      obtain ⟨o', _, h2, h3⟩ := H.sees n _ hob b h1
      obtain ⟨v', u', x, h4, h5, h6, h7⟩ := h.2 b ob o' w v o2 h1 h2 h3 hv
      unfold Oper.wp
      rw [h7]
      exact upon_nx h6 (hn _ _ ⟨_, f, hK, (H.write hob h1 h5).put hd h4⟩)
    · exact hK.elim
  | new ob k =>
    rintro ⟨o', h1, h2⟩ hK
    simp only [stepAcc, putK_eq] at hK
    split at hK
    · rename_i t hh n ns
      obtain ⟨v', x, h3, h4, h5⟩ := h2 w
      unfold Oper.wp
      rw [h4]
      have hf : f n = none := H.top n (by simp) n (Nat.le_refl _)
      refine upon_nx h3 (hn _ _ ⟨_, _, hK, (H.fresh rfl h1).put hd (h5 n _ (nadd_le hf) (nadd_self _ _ _))⟩)
    · exact hK.elim

theorem AR.shut {f : NM} {a b vs : List Value} {a' b' vs' : Array Value} (h1 : AR f ⟨a⟩ a') (h2 : AR f ⟨vs⟩ vs') (h3 : AR f ⟨b⟩ b') : AR f ⟨a ++ (vs ++ b)⟩ (a' ++ vs' ++ b') := by
  have := (h1.append h2).append h3
  simpa using this
include hT in
theorem stepG_sound {S : St} {o : Oper} {a : Act} {w : World} {f : NM} {K : St → Prop} {Q : Exit → Act → World → Prop} {next : Act → World → Prop}
    (hn : ∀ a w, Lift c K a w → next a w) (H : Sat c f S a w) (h : stepG P c.N c.ng tt S o K) : o.wp P a w next Q := by
  unfold stepG at h
  split at h
  · rename_i hd
    split at h
    · rename_i x xs ts hop
      split at h
      · rename_i k la lb vs t hh ns hx hvs
        simp only [catO_eq] at h
        cases h with
        | mk hpl hsp =>
          have hxv := H.ev.eval hx
          have hav := H.ev.evalL hvs
          have e1 : (⟨List.map a.eval xs.toList⟩ : Array Value) = xs.map a.eval := by apply Array.toList_inj.1; simp
          rw [e1] at hav
          generalize hfx : a.eval x = fx at hxv
          cases hxv with
          | func k h1 h2 h3 h4 =>
            rename_i x' y'
            obtain ⟨fn, q1, q2, q3⟩ := hpl
            have hargs := AR.shut (f := f) (⟨h1, h2⟩ : AR f ⟨la⟩ x') hav (⟨h3, h4⟩ : AR f ⟨lb⟩ y')
            unfold Oper.wp
            have hrun : (execOp a.eval o).run P w = .ok (.enter k (x' ++ xs.map a.eval ++ y')) w := by
              unfold execOp
              rw [hop]
              simp only [resolve, hfx, Deferred.ofValue, pure_bind, invoke, callFunc, Sem.run_bind, run_program, Result.andThen_ok, q1]
              rw [if_neg (by simp [q2]), if_neg (by simp [q3])]
              simp
            rw [hrun]
            refine Calls.mono (hsp f w _ H.before hargs) ?_
            rintro e w' ⟨v, v', h', ns', g, rfl, hK, hA⟩
            rw [putK_eq] at hK
            exact hn _ _ ⟨_, g, hK, (H.after hA).put hd hA.val⟩
      · exact h.elim
    · rename_i xs ts hop
      split at h
      · rename_i vs t hh ns hvs
        split at h
        · rename_i r hr
          have hav := H.ev.evalL hvs
          have e1 : (⟨List.map a.eval xs.toList⟩ : Array Value) = xs.map a.eval := by apply Array.toList_inj.1; simp
          rw [e1] at hav
          obtain ⟨v, v', h', n', f', w', q1, q2, q3, q4⟩ := app_sound (P := P) (ty := o.type) hT H hav hr h.out
          unfold Oper.wp
          have hrun : (execOp a.eval o).run P w = .ok (.value v') w' := by
            unfold execOp
            rw [hop]
            simp only [resolve, pure_bind, invoke, builtin, Sem.run_bind]
            have e2 : (⟨ts.toList⟩ : Array TypeId) = ts := rfl
            rw [e2] at q1
            simp only [q1, Result.andThen_ok, Sem.run_pure]
          rw [hrun, putK_eq] at *
          exact hn _ _ ⟨_, f', q4, q3.put hd q2⟩
        · exact h.elim
      · exact h.elim
    · split at h
      · rename_i acc hacc
        exact stepAcc_sound hn H hd (acc_ok hT H.ev hacc) h
      · split at h
        · rename_i vs t hh ns _ hvs
          cases h with
          | mk _ hr =>
            have hav := H.ev.evalL hvs
            have e1 : (⟨List.map a.eval o.op.operands.toList⟩ : Array Value) = o.op.operands.map a.eval := by apply Array.toList_inj.1; simp
            rw [e1] at hav
            obtain ⟨x, v, v', h', ns', f', w', q1, q2, q3, q4, q5⟩ := hr c f t a w a.eval H hav
            unfold Oper.wp
            rw [q1]
            rw [putK_eq] at q5
            exact upon_nx q2 (hn _ _ ⟨_, f', q5, q4.put hd q3⟩)
        · exact h.elim
  · exact h.elim

include hT in
theorem regionG_sound {ops : Array Oper} {Q : Exit → Act → World → Prop} {K : St → Prop} (hK : ∀ a w, Lift c K a w → Q .normal a w) : ∀ (l : List Oper) {S : St} {a : Act} {w : World} {f : NM},
    Sat c f S a w → regionG P c.N c.ng tt ops.toList l K S → wpList P ops Q l a w := by
  intro l
  induction l with
  | nil => intro S a w f H h; exact hK _ _ ⟨S, f, h, H⟩
  | cons o l ih =>
    intro S a w f H h
    have hnext : ∀ a w, Lift c (regionG P c.N c.ng tt ops.toList l K) a w → wpList P ops Q l a w := fun a w ⟨S', f', h1, h2⟩ => ih h2 h1
    have skip : ∀ {S : St}, Sat c f S a w → skipG c.N S o (regionG P c.N c.ng tt ops.toList l K) → wpList P ops Q l (a.put o.dst undef) w := by
      intro S H h
      unfold skipG at h
      split at h
      · rename_i hd; rw [putK_eq] at h; exact ih (H.put hd (VR.undef f)) h
      · exact h.elim
    simp only [regionG] at h
    unfold wpList
    split at h
    · rename_i hg
      rw [if_pos (by simp [Region.wanted, hg])]
      exact Or.inl (stepG_sound hT hnext H h)
    · rename_i j b hg
      split at h
      · rename_i d op ty ps af gu t hh n hj
        have hj' : ops[j]? = some ⟨some d, op, ty, ps, af, gu⟩ := by simpa using hj
        split at h
        · rename_i y hy
          obtain ⟨v', h1, h2⟩ := H.tms d _ hy
          cases h2
          have hyl : yielded ops a.tmps j = some y := by simp [yielded, hj', h1]
          have hre : ∀ z, y = z → Sat c f ⟨(d, .bool z) :: t, hh, n⟩ a w := by
            intro z hz
            subst hz
            refine { H with tms := fun k v hk => ?_ }
            rw [look_cons] at hk
            by_cases e : d = k
            · subst e; rw [if_pos rfl] at hk; cases hk; exact H.tms d _ hy
            · rw [if_neg e] at hk; exact H.tms k v hk
          split at h
          · cases y with
            | true =>
              rw [if_pos (by simp [Region.wanted, hg, hyl])]
              exact Or.inl (stepG_sound hT hnext (hre true rfl) h)
            | false =>
              rw [if_neg (by simp [Region.wanted, hg, hyl])]
              exact skip (hre false rfl) h
          · cases y with
            | true =>
              rw [if_neg (by simp [Region.wanted, hg, hyl])]
              exact skip (hre true rfl) h
            | false =>
              rw [if_pos (by simp [Region.wanted, hg, hyl])]
              exact Or.inl (stepG_sound hT hnext (hre false rfl) h)
        · rename_i tv hy
          obtain ⟨v', h1, h2⟩ := H.tms d _ hy
          cases h2
          have hyl : yielded ops a.tmps j = none := by simp [yielded, hj', h1]
          rw [if_neg (by simp [Region.wanted, hg, hyl])]
          exact skip H h
        · exact h.elim
      · exact h.elim
end sound
end Go.Proofs.YtkcmhcgmiflgbaaDoor
namespace Go.Proofs.YtkcmhcgmiflgbaaDoor
open Go

/-- an operation that only looks -/
def isFloat : Op → Bool
  | .move _ | .pick _ _ _ | .load _ _ | .nilCheck _ | .binOp _ _ _ _ _ | .unOp _ _ _ | .convert _ _ _ | .makeFunc _ _ _ | .makeInterface _ _ | .build _ _ | .slice _ _ _ _ _ | .fieldAddr _ _ _ | .field _ _ _
  | .indexAddr _ _ _ | .index _ _ _ | .lookup _ _ _ _ | .extract _ _ => true
  | .call ⟨.builtin b, _, _⟩ => match b with
    | .len | .cap | .max | .min => true
    | _ => false
  | _ => false
def depL (j : Nat) : List Edge → Bool
  | [] => false
  | e :: r => (Nat.beq e.on j && Region.binds .any e) || depL j r
def depOf (o : Oper) (j : Nat) : Bool := depL j o.after.toList
theorem depL_mem {j : Nat} {l : List Edge} (h : depL j l = true) : ∃ e ∈ l, Region.binds .any e = true ∧ e.on = j := by
  induction l with
  | nil => cases h
  | cons e r ih =>
    simp only [depL, Bool.or_eq_true, Bool.and_eq_true] at h
    rcases h with ⟨h1, h2⟩ | h
    · exact ⟨e, by simp, h2, Nat.eq_of_beq_eq_true h1⟩
    · obtain ⟨e', h1, h2⟩ := ih h; exact ⟨e', by simp [h1], h2⟩
theorem depL_of {j : Nat} {l : List Edge} {e : Edge} (h : e ∈ l) (hb : Region.binds .any e = true) (hj : e.on = j) : depL j l = true := by
  induction l with
  | nil => cases h
  | cons x r ih =>
    simp only [depL, Bool.or_eq_true, Bool.and_eq_true]
    rcases List.mem_cons.1 h with rfl | h
    · left; exact ⟨by rw [hj]; simp, hb⟩
    · right; exact ih h
def memL (i : Nat) : List Nat → Bool
  | [] => false
  | j :: r => Nat.beq j i || memL i r
theorem memL_iff {i : Nat} {l : List Nat} : memL i l = true ↔ i ∈ l := by
  induction l with
  | nil => simp [memL]
  | cons j r ih =>
    simp only [memL, Bool.or_eq_true, ih, List.mem_cons]
    constructor
    · rintro (h | h)
      · exact Or.inl (Nat.eq_of_beq_eq_true h).symm
      · exact Or.inr h
    · rintro (h | h)
      · left; rw [h]; simp
      · exact Or.inr h

/-- the slots that an operation looks at -/
def Oper.looks (ops : Array Oper) (o : Oper) : List Tmp := Oper.looksAt ops o
def clash (ops : Array Oper) (oi oj : Oper) : Bool := match oj.dst with
  | some d => (Oper.looksAt ops oi).contains d || oi.dst == some d
  | none => false
/-- may 'i' stand behind those that are done, ahead of those that are left? -/
def okAt (_ : Array Oper) (done : List Nat) (o : Oper) : Bool := o.after.toList.all fun e => !Region.binds .any e || memL e.on done
def chkPairs (ops : Array Oper) : Bool := (List.range ops.size).all fun i => (List.range ops.size).all fun j => match ops[i]?, ops[j]? with
  | some oi, some oj => if i = j then (match oi.dst with | some d => !(Oper.looksAt ops oi).contains d || !isFloat oi.op | none => true) else !clash ops oi oj || depOf oi j || (!isFloat oj.op && depOf oj i)
  | _, _ => true
section defs
variable (P : Program) (N ng : Nat) (tt : List (Nat × TK))
/-- what an operation that only looks yields -/
def floatAcc (S : St) (K : Value → Option Nat → Prop) : Acc → Prop
  | .val v => K v none
  | .need p a => p ∧ floatAcc S K a
  | .rd n k => match look S.h n with
    | some (.rw o) => rdK (k o) fun v => K v (some n)
    | some (.ro o) => rdK (k o) fun v => K v (some n)
    | _ => False
  | _ => False
def guardG (all : List Oper) (S : St) (o : Oper) (yes no : St → Prop) : Prop := match o.guard with
  | none => yes S
  | some (j, b) => match all[j]?, S with
    | some ⟨some d, _, _, _, _, _⟩, ⟨t, h, n⟩ => match look t d with
      | some (.bool y) => match b with
        | true => bif2 y (yes ⟨(d, .bool true) :: t, h, n⟩) (no ⟨(d, .bool false) :: t, h, n⟩)
        | false => bif2 y (no ⟨(d, .bool true) :: t, h, n⟩) (yes ⟨(d, .bool false) :: t, h, n⟩)
      | some (.tuple _) => no ⟨t, h, n⟩
      | _ => False
    | _, _ => False
def keepP (o : Oper) (h h' : List (Nat × GO)) : List (Nat × Nat) → Prop
  | [] => True
  | (j, n) :: r => match depOf o j with
    | true => keepP o h h' r
    | false => look h' n = look h n ∧ keepP o h h' r
structure both (A B : Prop) : Prop where
  l : A
  r : B
def conjL (F : Nat → Prop) : List Nat → Prop
  | [] => False
  | i :: r => match r with
    | [] => F i
    | _ :: _ => both (F i) (conjL F r)
def dropL (i : Nat) : List Nat → List Nat
  | [] => []
  | j :: r => match Nat.beq i j with
    | true => r
    | false => j :: dropL i r
/-- the first one that only looks, and waits for none -/
def pickL (all : List Oper) (done : List Nat) : List Nat → Option Nat
  | [] => none
  | i :: r => match all[i]? with
    | some o => match isFloat o.op && okAt #[] done o with
      | true => some i
      | false => pickL all done r
    | none => pickL all done r
/-- whoever waits for none -/
def readyL (all : List Oper) (done : List Nat) : List Nat → List Nat
  | [] => []
  | i :: r => match all[i]? with
    | some o => match okAt #[] done o with
      | true => i :: readyL all done r
      | false => readyL all done r
    | none => readyL all done r
/-- what only looks, as early as may be; whoever acts, in each order that may be -/
def regionD (all : List Oper) : Nat → List Nat → List Nat → List (Nat × Nat) → (St → Prop) → St → Prop
  | 0, _, rest, _, K, S => match rest with
    | [] => K S
    | _ :: _ => False
  | m + 1, done, rest, rds, K, S => match rest with
    | [] => K S
    | _ :: _ => match pickL all done rest with
      | some i => match all[i]? with
        | some o => match dstOk N o.dst with
          | true => guardG all S o
              (fun S => match accG ng tt S o.op with
                | some a => floatAcc S (fun v n => match n with
                  | some n => putK S o.dst v (regionD all m (i :: done) (dropL i rest) ((i, n) :: rds) K)
                  | none => putK S o.dst v (regionD all m (i :: done) (dropL i rest) rds K)) a
                | none => False)
              (fun S => putK S o.dst undef (regionD all m (i :: done) (dropL i rest) rds K))
          | false => False
        | none => False
      | none => conjL (fun i => match all[i]? with
        | some o => match dstOk N o.dst with
          | true => guardG all S o
              (fun S => stepG P N ng tt S o fun S' => keepP o S.h S'.h rds ∧ regionD all m (i :: done) (dropL i rest) rds K S')
              (fun S => putK S o.dst undef (regionD all m (i :: done) (dropL i rest) rds K))
          | false => False
        | none => False) (readyL all done rest)
end defs

/-! only the slots that are looked at play a part -/
def agree (S S' : St) (l : List Tmp) : Prop := ∀ k ∈ l, look S.t k = look S'.t k
def tmpsOf (l : List Operand) : List Tmp := l.filterMap fun | .tmp t => some t | _ => none
section congr
variable {ng : Nat} {S S' : St}
theorem evalG_congr {x : Operand} (h : ∀ t, x = .tmp t → look S.t t = look S'.t t) : evalG ng S x = evalG ng S' x := by
  cases x with
  | tmp k => exact h k rfl
  | _ => rfl
theorem evalL_congr : ∀ {l : List Operand}, (∀ x ∈ l, ∀ t, x = .tmp t → look S.t t = look S'.t t) → evalL ng S l = evalL ng S' l := by
  intro l
  induction l with
  | nil => intro _; rfl
  | cons x r ih =>
    intro h
    simp only [evalL]
    rw [evalG_congr (h x (by simp)), ih fun y hy => h y (by simp [hy])]
theorem evalO_congr {x : Option Operand} (h : ∀ y, x = some y → ∀ t, y = .tmp t → look S.t t = look S'.t t) : evalO ng S x = evalO ng S' x := by
  cases x with
  | none => rfl
  | some y => simp only [evalO]; rw [evalG_congr (h y rfl)]
theorem evalP_congr : ∀ {l : List (Nat × Operand)}, (∀ x ∈ l, ∀ t, x.2 = .tmp t → look S.t t = look S'.t t) → evalP ng S l = evalP ng S' l := by
  intro l
  induction l with
  | nil => intro _; rfl
  | cons x r ih =>
    obtain ⟨i, x⟩ := x
    intro h
    simp only [evalP]
    rw [evalG_congr (h (i, x) (by simp)), ih fun y hy => h y (by simp [hy])]
theorem accG_congr {tt : List (Nat × TK)} {o : Op} (h : ∀ x ∈ o.operands.toList, ∀ t, x = .tmp t → look S.t t = look S'.t t) : accG ng tt S o = accG ng tt S' o := by
  have g : ∀ x, x ∈ o.operands.toList → evalG ng S x = evalG ng S' x := fun x hx => evalG_congr (h x hx)
  cases o <;> simp only [Op.operands] at g h <;> simp only [accG]
  case build t ps => rw [evalP_congr (S' := S') fun x hx t e => h x.2 (List.mem_map.2 ⟨x, hx, rfl⟩) t e]
  case buildSlice t n ps => rw [evalP_congr (S' := S') fun x hx t e => h x.2 (List.mem_map.2 ⟨x, hx, rfl⟩) t e]
  case makeFunc fn x y =>
    rw [evalL_congr (S' := S') (l := x.toList) fun z hz t e => h z (by simp at hz ⊢; exact Or.inl hz) t e, evalL_congr (S' := S') (l := y.toList) fun z hz t e => h z (by simp at hz ⊢; exact Or.inr hz) t e]
  case makeMap t r => cases r <;> rfl
  case slice t x l hh m =>
    cases m with
    | none =>
      dsimp only
      rw [g x (by simp), evalO_congr (S' := S') (x := l) fun y hy t e => h y (by subst hy; simp) t e, evalO_congr (S' := S') (x := hh) fun y hy t e => h y (by subst hy; simp) t e]
    | some m => rfl
  case call c =>
    obtain ⟨cal, xs, ts⟩ := c
    cases cal with
    | builtin b =>
      simp only
      rw [evalL_congr (S' := S') (l := xs.toList) fun z hz t e => h z (by simp [Call.operands]; simpa using hz) t e]
    | _ => rfl
  all_goals first
    | rfl
    | (rename_i x y z; rw [g x (by simp), g y (by simp), g z (by simp)]; done)
    | (rename_i x y z _; rw [g x (by simp), g y (by simp), g z (by simp)]; done)
    | (rename_i x y; rw [g x (by simp), g y (by simp)]; done)
    | (rename_i x y _; rw [g x (by simp), g y (by simp)]; done)
    | (rename_i x; rw [g x (by simp)]; done)
    | (rename_i x _; rw [g x (by simp)]; done)
end congr
end Go.Proofs.YtkcmhcgmiflgbaaDoor
namespace Go.Proofs.YtkcmhcgmiflgbaaDoor
open Go

theorem CallG.mono {P : Program} {ng k : Nat} {args : List Value} {h : List (Nat × GO)} {ns : List Nat} {K K' : Value → List (Nat × GO) → List Nat → Prop} (hK : ∀ v h' ns', K v h' ns' → K' v h' ns')
    (H : CallG P ng k args h ns K) : CallG P ng k args h ns K' := by
  cases H with
  | mk p s => exact .mk p fun f w args' hb ha => (s f w args' hb ha).mono fun e w' ⟨v, v', h', ns', g, h1, h2, h3⟩ => ⟨v, v', h', ns', g, h1, hK _ _ _ h2, h3⟩

theorem stepAcc_swap {t t2 : List (Nat × Value)} {h : List (Nat × GO)} {n : List Nat} {d : Option Nat} {K : St → Prop} {acc : Acc} (H : stepAcc ⟨t, h, n⟩ d K acc) :
    stepAcc ⟨t2, h, n⟩ d (fun S' => ∃ h' n' v, S' = (⟨t2, h', n'⟩ : St).put d v ∧ K ((⟨t, h', n'⟩ : St).put d v)) acc := by
  induction acc with
  | val v => simp only [stepAcc, putK_eq] at H ⊢; exact ⟨h, n, v, rfl, H⟩
  | need p acc ih => exact ⟨H.1, ih H.2⟩
  | amb p v u =>
    simp only [stepAcc, putK_eq] at H ⊢
    exact ⟨⟨h, n, v, rfl, H.1⟩, fun hp => ⟨h, n, u, rfl, H.2 hp⟩⟩
  | rd m k =>
    simp only [stepAcc] at H ⊢
    cases hl : look h m with
    | none => simp [hl] at H
    | some g =>
      cases g with
      | abs R => simp [hl] at H
      | rw o =>
        simp only [hl] at H ⊢
        exact rdK_mono (fun v H => by rw [putK_eq] at H ⊢; exact ⟨h, n, v, rfl, H⟩) H
      | ro o =>
        simp only [hl] at H ⊢
        exact rdK_mono (fun v H => by rw [putK_eq] at H ⊢; exact ⟨h, n, v, rfl, H⟩) H
  | wr m k =>
    simp only [stepAcc] at H ⊢
    cases hl : look h m with
    | none => simp [hl] at H
    | some g =>
      cases g with
      | abs R => simp [hl] at H
      | ro R => simp [hl] at H
      | rw o =>
        simp only [hl] at H ⊢
        exact rdK_mono (fun p H => by obtain ⟨v, o'⟩ := p; simp only [putK_eq] at H ⊢; exact ⟨_, n, v, rfl, H⟩) H
  | new o k =>
    simp only [stepAcc] at H ⊢
    cases n with
    | nil => exact H.elim
    | cons m n =>
      simp only [putK_eq] at H ⊢
      exact ⟨_, n, _, rfl, H⟩
theorem operands_looks {ops : Array Oper} {o : Oper} {x : Operand} (hx : x ∈ o.op.operands.toList) {t : Tmp} (e : x = .tmp t) : t ∈ Oper.looksAt ops o := by
  subst e
  exact List.mem_append_left _ (List.mem_filterMap.2 ⟨.tmp t, hx, rfl⟩)
theorem stepG_swap {P : Program} {N ng : Nat} {tt : List (Nat × TK)} {ops : Array Oper} {t t2 : List (Nat × Value)} {h : List (Nat × GO)} {n : List Nat} {o : Oper} {K : St → Prop}
    (ha : ∀ k ∈ Oper.looksAt ops o, look t k = look t2 k) (H : stepG P N ng tt ⟨t, h, n⟩ o K) :
    stepG P N ng tt ⟨t2, h, n⟩ o (fun S' => ∃ h' n' v, S' = (⟨t2, h', n'⟩ : St).put o.dst v ∧ K ((⟨t, h', n'⟩ : St).put o.dst v)) := by
  have hop : ∀ x ∈ o.op.operands.toList, ∀ k, x = .tmp k → look (⟨t, h, n⟩ : St).t k = look (⟨t2, h, n⟩ : St).t k := fun x hx k e => ha k (operands_looks hx e)
  unfold stepG at H ⊢
  split at H
  · rename_i hd
    (try simp only)
    split at H
    · rename_i x xs ts hopc
      rw [hopc] at hop
      have hx : evalG ng (⟨t, h, n⟩ : St) x = evalG ng (⟨t2, h, n⟩ : St) x := evalG_congr fun k e => hop x (by simp [Op.operands, Call.operands]) k e
      have hxs : evalL ng (⟨t, h, n⟩ : St) xs.toList = evalL ng (⟨t2, h, n⟩ : St) xs.toList := evalL_congr fun y hy k e => hop y (by simp [Op.operands, Call.operands]; right; simpa using hy) k e
      rw [hx, hxs] at H
      split at H
      · rename_i k la lb vs t' h' n' q1 q2 q3
        cases q3
        simp only [q1, q2]
        simp only [catO_eq] at H ⊢
        exact CallG.mono (fun v h' ns' hk => by rw [putK_eq] at hk ⊢; exact ⟨h', ns', v, rfl, hk⟩) H
      · exact H.elim
    · rename_i xs ts hopc
      rw [hopc] at hop
      have hxs : evalL ng (⟨t, h, n⟩ : St) xs.toList = evalL ng (⟨t2, h, n⟩ : St) xs.toList := evalL_congr fun y hy k e => hop y (by simp [Op.operands, Call.operands]; simpa using hy) k e
      rw [hxs] at H
      split at H
      · rename_i vs t' h' n' q1 q3
        cases q3
        simp only [q1]
        split at H
        · rename_i r hr
          (try simp only [hr])
          exact .mk (runApp_mono (fun v h' ns' hk => by rw [putK_eq] at hk ⊢; exact ⟨h', ns', v, rfl, hk⟩) H.out)
        · exact H.elim
      · exact H.elim
    · rename_i op hnc hnc2
      rw [accG_congr hop] at H
      split at H
      · rename_i acc hacc
        exact stepAcc_swap H
      · have hxs : evalL ng (⟨t, h, n⟩ : St) o.op.operands.toList = evalL ng (⟨t2, h, n⟩ : St) o.op.operands.toList := evalL_congr fun y hy k e => hop y hy k e
        rw [hxs] at H
        split at H
        · rename_i vs t' h' n' q1 q3
          cases q3
          simp only [q1]
          cases H with
          | mk hnd hr =>
            refine .mk hnd fun c f t a w ρ hS hA => ?_
            obtain ⟨x, v, v', h', ns', f', w', q1, q2, q3, q4, q5⟩ := hr c f t a w ρ hS hA
            rw [putK_eq] at q5
            exact ⟨x, v, v', h', ns', f', w', q1, q2, q3, q4, by rw [putK_eq]; exact ⟨h', ns', v, rfl, q5⟩⟩
        · exact H.elim
  · exact H.elim

section
variable {S S2 : St}
theorem floatAcc_out {K : Value → Option Nat → Prop} {acc : Acc} (h : floatAcc S K acc) : ∃ v n, K v n ∧ floatAcc S (fun u m => u = v ∧ m = n) acc := by
  induction acc with
  | val v => exact ⟨v, none, h, rfl, rfl⟩
  | need p a ih => obtain ⟨v, n, h1, h2⟩ := ih h.2; exact ⟨v, n, h1, h.1, h2⟩
  | rd n k =>
    simp only [floatAcc] at h
    cases hl : look S.h n with
    | none => simp [hl] at h
    | some g =>
      cases g with
      | abs R => simp [hl] at h
      | rw o =>
        simp only [hl] at h
        obtain ⟨v, hk, h⟩ := rdK_out h
        refine ⟨v, some n, h, ?_⟩
        simp only [floatAcc, hl, hk, rdK, and_self]
      | ro o =>
        simp only [hl] at h
        obtain ⟨v, hk, h⟩ := rdK_out h
        refine ⟨v, some n, h, ?_⟩
        simp only [floatAcc, hl, hk, rdK, and_self]
  | wr => exact h.elim
  | amb => exact h.elim
  | new => exact h.elim
theorem floatAcc_rd {m : Nat} {k : Obj → Option Value} {v : Value} {n : Option Nat} (h : floatAcc S (fun u m => u = v ∧ m = n) (.rd m k)) : ∃ g o, look S.h m = some g ∧ g.obj = some o ∧ k o = some v ∧ n = some m := by
  simp only [floatAcc] at h
  split at h
  · rename_i o ho; obtain ⟨u, h1, rfl, h2⟩ := rdK_out h; exact ⟨_, o, ho, rfl, h1, h2.symm⟩
  · rename_i o ho; obtain ⟨u, h1, rfl, h2⟩ := rdK_out h; exact ⟨_, o, ho, rfl, h1, h2.symm⟩
  · exact h.elim
theorem floatAcc_keep {v : Value} {n : Option Nat} {acc : Acc} (h : floatAcc S (fun u m => u = v ∧ m = n) acc) (hh : ∀ m, n = some m → look S2.h m = look S.h m) : floatAcc S2 (fun u m => u = v ∧ m = n) acc := by
  induction acc with
  | val v => exact h
  | need p a ih => exact ⟨h.1, ih h.2⟩
  | rd m k =>
    obtain ⟨g, o, h1, h2, h3, h4⟩ := floatAcc_rd h
    have := hh m h4
    rw [h1] at this
    simp only [floatAcc, this]
    cases g with
    | rw p => cases h2; exact rdK_intro h3 ⟨rfl, h4.symm⟩
    | ro p => cases h2; exact rdK_intro h3 ⟨rfl, h4.symm⟩
    | abs R => cases h2
  | wr => exact h.elim
  | amb => exact h.elim
  | new => exact h.elim
theorem floatAcc_run {P : Program} {f : NM} {w : World} {s : Sem Next} {v : Value} {n : Option Nat} (hs : Sees f S.h w) {acc : Acc} (h : floatAcc S (fun u m => u = v ∧ m = n) acc) (hn : NOk P f s acc) :
    ∃ v' x, VR f v v' ∧ Nx x v' ∧ s.run P w = .ok x w := by
  induction acc with
  | val u => obtain ⟨rfl, rfl⟩ := h; obtain ⟨v', x, h1, h2, h3⟩ := hn; exact ⟨v', x, h1, h2, h3 w⟩
  | need p a ih => exact ih h.2 (hn h.1)
  | rd m k =>
    obtain ⟨g, o, h1, h2, h3, h4⟩ := floatAcc_rd h
    obtain ⟨b, q1⟩ := hn.1
    obtain ⟨o', q2, q3⟩ := (hs m g h1).obj h2 q1
    exact hn.2 b o o' w v q1 q2 q3 h3
  | wr => exact h.elim
  | amb => exact h.elim
  | new => exact h.elim
end
/-- is it carried out? -/
def GV (all : List Oper) (S : St) (o : Oper) (b : Bool) : Prop := guardG all S o (fun _ => b = true) (fun _ => b = false)
/-- the same slots -/
structure SLE (S S' : St) : Prop where
  t : ∀ k, look S'.t k = look S.t k
  h : S'.h = S.h
  n : S'.n = S.n
theorem SLE.refl (S : St) : SLE S S := ⟨fun _ => rfl, rfl, rfl⟩
theorem SLE.push {t : List (Nat × Value)} {h : List (Nat × GO)} {n : List Nat} {d : Nat} {v : Value} (hd : look t d = some v) : SLE ⟨t, h, n⟩ ⟨(d, v) :: t, h, n⟩ := by
  refine ⟨fun k => ?_, rfl, rfl⟩
  simp only [look_cons]
  by_cases e : d = k
  · subst e; rw [if_pos rfl, hd]
  · rw [if_neg e]
theorem guardG_cases {all : List Oper} {S : St} {o : Oper} {Y Z : St → Prop} (h : guardG all S o Y Z) : ∃ S', SLE S S' ∧ ((GV all S o true ∧ Y S') ∨ (GV all S o false ∧ Z S')) := by
  unfold GV guardG at *
  split at h
  · exact ⟨S, SLE.refl S, Or.inl ⟨rfl, h⟩⟩
  · rename_i j b hg
    split at h
    · rename_i d _ _ _ _ _ t hh n hj
      split at h
      · rename_i y hy
        simp only []
        cases y <;> cases b <;> simp only [bif2] at h ⊢
        · exact ⟨_, SLE.push hy, Or.inl ⟨trivial, h⟩⟩
        · exact ⟨_, SLE.push hy, Or.inr ⟨trivial, h⟩⟩
        · exact ⟨_, SLE.push hy, Or.inr ⟨trivial, h⟩⟩
        · exact ⟨_, SLE.push hy, Or.inl ⟨trivial, h⟩⟩
      · rename_i tv hy
        simp only []
        exact ⟨_, SLE.refl _, Or.inr ⟨trivial, h⟩⟩
      · exact h.elim
    · exact h.elim
theorem GV_run {ops : Array Oper} {S : St} {o : Oper} {b : Bool} {f : NM} {a : Act} (h : GV ops.toList S o b)
    (ht : ∀ k ∈ Oper.looksAt ops o, ∀ v, look S.t k = some v → ∃ v', a.tmps[k]? = some v' ∧ VR f v v') : Region.wanted o (yielded ops a.tmps) = b := by
  unfold GV guardG at h
  split at h
  · rename_i hg; simp [Region.wanted, hg]; exact h
  · rename_i j c hg
    split at h
    · rename_i d op ty ps af gu t hh n hj
      have hj' : ops[j]? = some ⟨some d, op, ty, ps, af, gu⟩ := by simpa using hj
      have hmem : d ∈ Oper.looksAt ops o := List.mem_append_right _ (by simp [hg, hj'])
      split at h
      · rename_i y hy
        obtain ⟨v', h1, h2⟩ := ht d hmem _ hy
        cases h2
        have hyl : yielded ops a.tmps j = some y := by simp [yielded, hj', h1]
        simp only [Region.wanted, hg, hyl]
        cases y <;> cases c <;> simp_all [bif2]
      · rename_i tv hy
        obtain ⟨v', h1, h2⟩ := ht d hmem _ hy
        cases h2
        have hyl : yielded ops a.tmps j = none := by simp [yielded, hj', h1]
        simp [Region.wanted, hg, hyl, h]
      · exact h.elim
    · exact h.elim
theorem GV_congr {ops : Array Oper} {S S2 : St} {o : Oper} {b : Bool} (h : GV ops.toList S o b) (ha : ∀ k ∈ Oper.looksAt ops o, look S.t k = look S2.t k) : GV ops.toList S2 o b := by
  unfold GV guardG at *
  split at h
  · exact h
  · rename_i j c hg
    split at h
    · rename_i d op ty ps af gu t hh n hj
      have hj' : ops[j]? = some ⟨some d, op, ty, ps, af, gu⟩ := by simpa using hj
      have hmem : d ∈ Oper.looksAt ops o := List.mem_append_right _ (by simp [hg, hj'])
      obtain ⟨t2, h2, n2⟩ := S2
      have hd : look t d = look t2 d := ha d hmem
      rw [hd] at h
      simp only [hj]
      exact h
    · exact h.elim
end Go.Proofs.YtkcmhcgmiflgbaaDoor
namespace Go.Proofs.YtkcmhcgmiflgbaaDoor
open Go
section anyorder
variable {P : Program} {tt : List (Nat × TK)} (hT : TKok P tt) {c : Cx} {ops : Array Oper}

/-- what a looking operation comes to in a state -/
def Fl (ng : Nat) (tt : List (Nat × TK)) (ops : Array Oper) (S : St) (o : Oper) (v : Value) (n : Option Nat) : Prop :=
  (GV ops.toList S o true ∧ ∃ acc, accG ng tt S o.op = some acc ∧ floatAcc S (fun u m => u = v ∧ m = n) acc) ∨ (GV ops.toList S o false ∧ v = undef ∧ n = none)

structure Inv (tt : List (Nat × TK)) (c : Cx) (ops : Array Oper) (done : List Nat) (rds : List (Nat × Nat)) (S : St) (f : NM) (L : Array Bool) (a : Act) (w : World) : Prop where
  base : Sat c f ⟨[], S.h, S.n⟩ a w
  tms : ∀ k v, look S.t k = some v → (∀ i ∈ done, L.getD i true = false → ∀ o, ops[i]? = some o → o.dst ≠ some k) → ∃ v', a.tmps[k]? = some v' ∧ VR f v v'
  sz : L.size = ops.size
  sub : ∀ i, i < ops.size → L.getD i true = true → i ∈ done
  act : ∀ i ∈ done, ∀ o, ops[i]? = some o → isFloat o.op = false → L.getD i true = true
  pend : ∀ i ∈ done, L.getD i true = false → ∀ o, ops[i]? = some o → ∃ v n, Fl c.ng tt ops S o v n ∧ (∀ d, o.dst = some d → look S.t d = some v) ∧ (∀ m, n = some m → (i, m) ∈ rds) ∧ dstOk c.N o.dst = true
/-- each stands behind what it waits for -/
def Good (ops : Array Oper) : List Nat → Prop
  | [] => True
  | i :: r => (∀ o, ops[i]? = some o → ∀ e ∈ o.after, Region.binds .any e = true → e.on ∈ r) ∧ i ∉ r ∧ Good ops r
theorem Good.first {ops : Array Oper} {L : Array Bool} : ∀ {done : List Nat}, Good ops done → (∃ i ∈ done, L.getD i true = false) →
    ∃ i ∈ done, L.getD i true = false ∧ ∀ o, ops[i]? = some o → ∀ e ∈ o.after, Region.binds .any e = true → L.getD e.on true = true := by
  intro done
  induction done with
  | nil => rintro _ ⟨i, h, _⟩; cases h
  | cons j r ih =>
    rintro ⟨h1, h2, h3⟩ hex
    by_cases hr : ∃ i ∈ r, L.getD i true = false
    · obtain ⟨i, k1, k2, k3⟩ := ih h3 hr
      exact ⟨i, by simp [k1], k2, k3⟩
    · obtain ⟨i, k1, k2⟩ := hex
      rcases List.mem_cons.1 k1 with rfl | k1
      · refine ⟨i, by simp, k2, fun o ho e he hb => ?_⟩
        have := h1 o ho e he hb
        cases hl : L.getD e.on true with
        | true => rfl
        | false => exact absurd ⟨e.on, this, hl⟩ hr
      · exact absurd ⟨i, k1, k2⟩ hr
theorem Good.dep {ops : Array Oper} {done : List Nat} (h : Good ops done) {i : Nat} (hi : i ∈ done) {o : Oper} (ho : ops[i]? = some o) {e : Edge} (he : e ∈ o.after) (hb : Region.binds .any e = true) : e.on ∈ done := by
  induction done with
  | nil => cases hi
  | cons j r ih =>
    obtain ⟨h1, h2, h3⟩ := h
    rcases List.mem_cons.1 hi with rfl | hi
    · exact List.mem_cons_of_mem _ (h1 o ho e he hb)
    · exact List.mem_cons_of_mem _ (ih h3 hi)

theorem pairs_of {i j : Nat} {oi oj : Oper} (h : chkPairs ops = true) (hi : ops[i]? = some oi) (hj : ops[j]? = some oj) (hne : i ≠ j) (hc : clash ops oi oj = true) : depOf oi j = true ∨ (isFloat oj.op = false ∧ depOf oj i = true) := by
  have li := (Array.getElem?_eq_some_iff.1 hi).1
  have lj := (Array.getElem?_eq_some_iff.1 hj).1
  simp only [chkPairs, List.all_eq_true, List.mem_range] at h
  have := h i li j lj
  simp only [hi, hj, if_neg hne, hc, Bool.not_true, Bool.false_or, Bool.or_eq_true, Bool.and_eq_true, Bool.not_eq_true'] at this
  exact this
theorem self_of {i : Nat} {o : Oper} (h : chkPairs ops = true) (hi : ops[i]? = some o) (hf : isFloat o.op = true) {d : Nat} (hd : o.dst = some d) : d ∉ Oper.looksAt ops o := by
  have li := (Array.getElem?_eq_some_iff.1 hi).1
  simp only [chkPairs, List.all_eq_true, List.mem_range] at h
  have := h i li i li
  simp only [hi, if_true, hd, hf, Bool.not_true, Bool.or_false, Bool.not_eq_true', List.contains_eq_mem, decide_eq_false_iff_not] at this
  exact this
theorem clash_looks {oi oj : Oper} {d : Nat} (hd : oj.dst = some d) (h : d ∈ Oper.looksAt ops oi) : clash ops oi oj = true := by
  simp [clash, hd, h]
theorem clash_dst {oi oj : Oper} {d : Nat} (hd : oj.dst = some d) (h : oi.dst = some d) : clash ops oi oj = true := by
  simp [clash, hd, h]
theorem getD_set_eq {L : Array Bool} {i : Nat} (h : i < L.size) : (L.setIfInBounds i true).getD i true = true := by
  simp [Array.getD_eq_getD_getElem?, h]
theorem getD_set_ne' {L : Array Bool} {i j : Nat} (h : i ≠ j) : (L.setIfInBounds i true).getD j true = L.getD j true := by
  simp [Array.getD_eq_getD_getElem?, Array.getElem?_setIfInBounds_ne h]
theorem put_look {S : St} {d : Option Nat} {v : Value} {k : Nat} (h : d ≠ some k) : look (S.put d v).t k = look S.t k := by
  cases d with
  | none => rfl
  | some d => simp only [St.put, look_cons]; rw [if_neg (fun e => h (by rw [e]))]
theorem put_look_self {S : St} {d : Nat} {v : Value} : look (S.put (some d) v).t d = some v := by simp [St.put, look_cons]
theorem Fl.keep {ng : Nat} {S S2 : St} {o : Oper} {v : Value} {n : Option Nat} (h : Fl ng tt ops S o v n) (ha : ∀ k ∈ Oper.looksAt ops o, look S.t k = look S2.t k) (hh : ∀ m, n = some m → look S2.h m = look S.h m) : Fl ng tt ops S2 o v n := by
  rcases h with ⟨h1, acc, h2, h3⟩ | ⟨h1, h2, h3⟩
  · left
    refine ⟨GV_congr h1 ha, acc, ?_, floatAcc_keep h3 hh⟩
    rw [← h2]
    exact (accG_congr fun x hx k e => ha k (operands_looks hx e)).symm
  · right; exact ⟨GV_congr h1 ha, h2, h3⟩
theorem Inv.ext {done : List Nat} {rds : List (Nat × Nat)} {S S2 : St} {f : NM} {L : Array Bool} {a : Act} {w : World} (hI : Inv tt c ops done rds S f L a w) (h : SLE S S2) : Inv tt c ops done rds S2 f L a w := by
  refine ⟨by rw [h.h, h.n]; exact hI.base, fun k v hk hn => hI.tms k v (by rw [← h.t k]; exact hk) hn, hI.sz, hI.sub, hI.act, fun i hi hL o ho => ?_⟩
  obtain ⟨v, n, h1, h2, h3, h4⟩ := hI.pend i hi hL o ho
  exact ⟨v, n, h1.keep (fun k _ => (h.t k).symm) (fun m _ => by rw [h.h]), fun d hd => by rw [h.t]; exact h2 d hd, h3, h4⟩
theorem SLE.fl {S S2 : St} (h : SLE S S2) {ng : Nat} {o : Oper} {v : Value} {n : Option Nat} (hf : Fl ng tt ops S o v n) : Fl ng tt ops S2 o v n := hf.keep (fun k _ => (h.t k).symm) (fun m _ => by rw [h.h])
theorem SLE.gv {S S2 : St} (h : SLE S S2) {o : Oper} {b : Bool} (hf : GV ops.toList S o b) : GV ops.toList S2 o b := GV_congr hf fun k _ => (h.t k).symm
end anyorder
end Go.Proofs.YtkcmhcgmiflgbaaDoor
namespace Go.Proofs.YtkcmhcgmiflgbaaDoor
open Go
section anyorder
variable {P : Program} {tt : List (Nat × TK)} (hT : TKok P tt) {c : Cx} {ops : Array Oper}

theorem okAt_dep {done : List Nat} {o : Oper} (h : okAt ops done o = true) {e : Edge} (he : e ∈ o.after) (hb : Region.binds .any e = true) : e.on ∈ done := by
  simp only [okAt, List.all_eq_true] at h
  have := h e (by simpa using he)
  simp only [hb, Bool.not_true, Bool.false_or] at this
  exact memL_iff.1 this
theorem depOf_edge {o : Oper} {j : Nat} (h : depOf o j = true) : ∃ e ∈ o.after, Region.binds .any e = true ∧ e.on = j := by
  obtain ⟨e, h1, h2, h3⟩ := depL_mem h
  exact ⟨e, by simpa using h1, h2, h3⟩

def addRd (n : Option Nat) (i : Nat) (rds : List (Nat × Nat)) : List (Nat × Nat) := match n with | some n => (i, n) :: rds | none => rds
theorem keepP_same (o : Oper) (h : List (Nat × GO)) : ∀ (rds : List (Nat × Nat)), keepP o h h rds := by
  intro rds
  induction rds with
  | nil => trivial
  | cons p r ih =>
    obtain ⟨x, y⟩ := p
    simp only [keepP]
    split
    · exact ih
    · exact ⟨trivial, ih⟩
theorem keepP_mem {o : Oper} {h h' : List (Nat × GO)} : ∀ {rds : List (Nat × Nat)}, keepP o h h' rds → ∀ j m, (j, m) ∈ rds → depOf o j = false → look h' m = look h m := by
  intro rds
  induction rds with
  | nil => intro _ j m hm; cases hm
  | cons p r ih =>
    obtain ⟨x, y⟩ := p
    intro hk j m hm hd
    simp only [keepP] at hk
    rcases List.mem_cons.1 hm with e | hm
    · cases e
      rw [hd] at hk
      exact hk.1
    · split at hk
      · exact ih hk j m hm hd
      · exact ih hk.2 j m hm hd
theorem mem_dropL {i j : Nat} : ∀ {l : List Nat}, j ∈ dropL i l → j ∈ l := by
  intro l
  induction l with
  | nil => intro h; exact h
  | cons x l ih =>
    intro h
    simp only [dropL] at h
    split at h
    · exact List.mem_cons_of_mem _ h
    · rcases List.mem_cons.1 h with rfl | h
      · simp
      · exact List.mem_cons_of_mem _ (ih h)
theorem dropL_keeps {i j : Nat} (h : j ≠ i) : ∀ {l : List Nat}, j ∈ l → j ∈ dropL i l := by
  intro l
  induction l with
  | nil => intro h; exact h
  | cons x l ih =>
    intro hj
    simp only [dropL]
    split
    · rename_i e
      have := Nat.eq_of_beq_eq_true e
      rcases List.mem_cons.1 hj with rfl | hj
      · exact absurd this.symm h
      · exact hj
    · rcases List.mem_cons.1 hj with rfl | hj
      · simp
      · exact List.mem_cons_of_mem _ (ih hj)
theorem nodup_dropL {i : Nat} : ∀ {l : List Nat}, l.Nodup → (dropL i l).Nodup ∧ i ∉ dropL i l := by
  intro l
  induction l with
  | nil => intro h; exact ⟨h, by simp [dropL]⟩
  | cons x l ih =>
    intro h
    obtain ⟨h1, h2⟩ := List.nodup_cons.1 h
    simp only [dropL]
    split
    · rename_i e
      have := Nat.eq_of_beq_eq_true e
      subst this
      exact ⟨h2, h1⟩
    · rename_i e
      obtain ⟨k1, k2⟩ := ih h2
      refine ⟨List.nodup_cons.2 ⟨fun h => h1 (mem_dropL h), k1⟩, ?_⟩
      intro h
      rcases List.mem_cons.1 h with rfl | h
      · simp at e
      · exact k2 h
theorem pickL_some {all : List Oper} {done : List Nat} {i : Nat} : ∀ {l : List Nat}, pickL all done l = some i → i ∈ l ∧ ∃ o, all[i]? = some o ∧ isFloat o.op = true ∧ okAt #[] done o = true := by
  intro l
  induction l with
  | nil => intro h; cases h
  | cons x l ih =>
    intro h
    simp only [pickL] at h
    split at h
    · rename_i o ho
      split at h
      · rename_i e
        cases h
        simp only [Bool.and_eq_true] at e
        exact ⟨by simp, o, ho, e.1, e.2⟩
      · obtain ⟨h1, h2⟩ := ih h
        exact ⟨List.mem_cons_of_mem _ h1, h2⟩
    · obtain ⟨h1, h2⟩ := ih h
      exact ⟨List.mem_cons_of_mem _ h1, h2⟩
theorem pickL_none {all : List Oper} {done : List Nat} : ∀ {l : List Nat}, pickL all done l = none → ∀ i ∈ l, ∀ o, all[i]? = some o → okAt #[] done o = true → isFloat o.op = false := by
  intro l
  induction l with
  | nil => intro _ i hi; cases hi
  | cons x l ih =>
    intro h i hi o ho hk
    simp only [pickL] at h
    rcases List.mem_cons.1 hi with rfl | hi
    · simp only [ho, hk, Bool.and_true] at h
      split at h
      · cases h
      · rename_i e; exact e
    · split at h
      · split at h
        · cases h
        · exact ih h i hi o ho hk
      · exact ih h i hi o ho hk
theorem mem_readyL {all : List Oper} {done : List Nat} {i : Nat} : ∀ {l : List Nat}, i ∈ readyL all done l ↔ i ∈ l ∧ ∃ o, all[i]? = some o ∧ okAt #[] done o = true := by
  intro l
  induction l with
  | nil => simp [readyL]
  | cons x l ih =>
    simp only [readyL]
    split
    · rename_i o ho
      split
      · rename_i e
        rw [List.mem_cons, List.mem_cons, ih]
        constructor
        · rintro (rfl | ⟨h1, h2⟩)
          · exact ⟨Or.inl rfl, o, ho, e⟩
          · exact ⟨Or.inr h1, h2⟩
        · rintro ⟨rfl | h1, h2⟩
          · exact Or.inl rfl
          · exact Or.inr ⟨h1, h2⟩
      · rename_i e
        rw [ih, List.mem_cons]
        constructor
        · rintro ⟨h1, h2⟩; exact ⟨Or.inr h1, h2⟩
        · rintro ⟨rfl | h1, o', h2, h3⟩
          · rw [ho] at h2; cases h2; exact absurd h3 (by rw [e]; simp)
          · exact ⟨h1, o', h2, h3⟩
    · rename_i ho
      rw [ih, List.mem_cons]
      constructor
      · rintro ⟨h1, h2⟩; exact ⟨Or.inr h1, h2⟩
      · rintro ⟨rfl | h1, o', h2, h3⟩
        · rw [ho] at h2; cases h2
        · exact ⟨h1, o', h2, h3⟩
theorem conjL_mem {F : Nat → Prop} : ∀ {l : List Nat}, conjL F l → (∃ i, i ∈ l) ∧ ∀ i ∈ l, F i := by
  intro l
  induction l with
  | nil => intro h; exact h.elim
  | cons x l ih =>
    intro h
    simp only [conjL] at h
    split at h
    · exact ⟨⟨x, by simp⟩, fun i hi => by rcases List.mem_cons.1 hi with rfl | hi; exact h; cases hi⟩
    · obtain ⟨h1, h2⟩ := h
      refine ⟨⟨x, by simp⟩, fun i hi => ?_⟩
      rcases List.mem_cons.1 hi with rfl | hi
      · exact h1
      · exact (ih h2).2 i hi
theorem regionD_nil {q : Nat} {done : List Nat} {rds : List (Nat × Nat)} {K : St → Prop} {S : St} (h : regionD P c.N c.ng tt ops.toList q done [] rds K S) : K S := by
  cases q <;> exact h
/-- the looking operations that may come up are reckoned ahead -/
theorem settle (hp : chkPairs ops = true) {K : St → Prop} : ∀ (q : Nat) (rest done : List Nat) (rds : List (Nat × Nat)) (S : St) (f : NM) (L : Array Bool) (a : Act) (w : World),
    Inv tt c ops done rds S f L a w → Good ops done → (∀ i, i < ops.size → i ∈ done ∨ i ∈ rest) → (∀ i ∈ done, i < ops.size) → (∀ i ∈ rest, i ∉ done) → rest.Nodup →
    regionD P c.N c.ng tt ops.toList q done rest rds K S →
    ∃ q' done' rest' rds' S', Inv tt c ops done' rds' S' f L a w ∧ Good ops done' ∧ (∀ i, i < ops.size → i ∈ done' ∨ i ∈ rest') ∧ (∀ i ∈ done', i < ops.size) ∧ (∀ i ∈ rest', i ∉ done') ∧ rest'.Nodup ∧
      regionD P c.N c.ng tt ops.toList q' done' rest' rds' K S' ∧ (rest' = [] ∨ ∃ q, q' = q + 1 ∧ pickL ops.toList done' rest' = none) := by
  intro q
  induction q with
  | zero =>
    intro rest done rds S f L a w hI hg hall hlt hdis hnod hV
    cases rest with
    | nil => exact ⟨0, done, [], rds, S, hI, hg, hall, hlt, hdis, hnod, hV, Or.inl rfl⟩
    | cons i r => exact hV.elim
  | succ q ih =>
    intro rest done rds S f L a w hI hg hall hlt hdis hnod hV
    by_cases hre : rest = []
    · exact ⟨q + 1, done, rest, rds, S, hI, hg, hall, hlt, hdis, hnod, hV, Or.inl hre⟩
    · cases hpk : pickL ops.toList done rest with
      | none => exact ⟨q + 1, done, rest, rds, S, hI, hg, hall, hlt, hdis, hnod, hV, Or.inr ⟨q, rfl, hpk⟩⟩
      | some i =>
        obtain ⟨hir, o, hol, hf, hok0⟩ := pickL_some hpk
        have hok : okAt ops done o = true := hok0
        have ho : ops[i]? = some o := by simpa using hol
        have hnd : i ∉ done := hdis i hir
        have hilt := (Array.getElem?_eq_some_iff.1 ho).1
        have hLi : L.getD i true = false := by
          cases h : L.getD i true with
          | false => rfl
          | true => exact absurd (hI.sub i hilt h) hnd
        obtain ⟨x, r, rfl⟩ : ∃ x r, rest = x :: r := by
          cases rest with
          | nil => exact absurd rfl hre
          | cons x r => exact ⟨x, r, rfl⟩
        simp only [regionD, hpk, hol] at hV
        have hV' : dstOk c.N o.dst = true ∧ ∃ S', SLE S S' ∧ ∃ v n, Fl c.ng tt ops S' o v n ∧ regionD P c.N c.ng tt ops.toList q (i :: done) (dropL i (x :: r)) (addRd n i rds) K (S'.put o.dst v) := by
          split at hV
          · rename_i hd
            refine ⟨hd, ?_⟩
            obtain ⟨S', hle, hV⟩ := guardG_cases hV
            refine ⟨S', hle, ?_⟩
            rcases hV with ⟨g1, hV⟩ | ⟨g1, hV⟩
            · split at hV
              · rename_i acc hacc
                obtain ⟨v, n, h1, h2⟩ := floatAcc_out hV
                refine ⟨v, n, Or.inl ⟨hle.gv g1, acc, hacc, h2⟩, ?_⟩
                cases n <;> (simp only [putK_eq] at h1; exact h1)
              · exact hV.elim
            · rw [putK_eq] at hV; exact ⟨undef, none, Or.inr ⟨hle.gv g1, rfl, rfl⟩, hV⟩
          · exact hV.elim
        obtain ⟨hd, S', hle, v, n, hFl, hVr⟩ := hV'
        replace hI := hI.ext hle
        clear hle hV
        revert hI hFl hVr
        generalize S' = S
        intro hFl hVr hI
        -- nobody who is pending is disturbed
        have hquiet : ∀ j ∈ done, L.getD j true = false → ∀ oj, ops[j]? = some oj → clash ops oj o = false := by
          intro j hj hLj oj hoj
          have hji : j ≠ i := fun e => hnd (e ▸ hj)
          cases hcl : clash ops oj o with
          | false => rfl
          | true =>
            rcases pairs_of hp hoj ho hji hcl with h | ⟨h, _⟩
            · obtain ⟨e, he, hb, heq⟩ := depOf_edge h
              exact absurd (heq ▸ Good.dep hg hj hoj he hb) hnd
            · rw [hf] at h; cases h
        have hI' : Inv tt c ops (i :: done) (addRd n i rds) (S.put o.dst v) f L a w := by
          refine ⟨by rw [St.put_h, St.put_n]; exact hI.base, ?_, hI.sz, fun j h1 h2 => List.mem_cons_of_mem _ (hI.sub j h1 h2), ?_, ?_⟩
          · intro k u hk hno
            have hne : o.dst ≠ some k := hno i (by simp) hLi o ho
            rw [put_look hne] at hk
            exact hI.tms k u hk fun j hj => hno j (List.mem_cons_of_mem _ hj)
          · intro j hj oj hoj hfj
            rcases List.mem_cons.1 hj with rfl | hj
            · rw [ho] at hoj; cases hoj; rw [hf] at hfj; cases hfj
            · exact hI.act j hj oj hoj hfj
          · intro j hj hLj oj hoj
            rcases List.mem_cons.1 hj with rfl | hj
            · rw [ho] at hoj; cases hoj
              refine ⟨v, n, hFl.keep ?_ (fun m _ => by rw [St.put_h]), ?_, ?_, hd⟩
              · intro k hk
                refine (put_look fun e => ?_).symm
                exact self_of hp ho hf e hk
              · intro d hd; rw [hd]; exact put_look_self
              · intro m hm; subst hm; exact List.mem_cons_self
            · obtain ⟨v', n', p1, p2, p3, p4⟩ := hI.pend j hj hLj oj hoj
              have hq := hquiet j hj hLj oj hoj
              refine ⟨v', n', p1.keep ?_ (fun m _ => by rw [St.put_h]), ?_, ?_, p4⟩
              · intro k hk
                refine (put_look fun e => ?_).symm
                rw [clash_looks e hk] at hq; cases hq
              · intro d hd'
                rw [put_look (fun e => by rw [clash_dst e hd'] at hq; cases hq)]
                exact p2 d hd'
              · intro m hm
                have := p3 m hm
                cases n
                · exact this
                · exact List.mem_cons_of_mem _ this
        exact ih (dropL i (x :: r)) (i :: done) _ _ f L a w hI' ⟨fun o' ho' e he hb => by rw [ho] at ho'; cases ho'; exact okAt_dep hok he hb, hnd, hg⟩
          (fun j hj => by
            by_cases e : j = i
            · subst e; exact Or.inl (by simp)
            · rcases hall j hj with h | h
              · exact Or.inl (List.mem_cons_of_mem _ h)
              · exact Or.inr (dropL_keeps e h))
          (fun j hj => by
            rcases List.mem_cons.1 hj with rfl | hj
            · exact hilt
            · exact hlt j hj)
          (fun j hj h => by
            rcases List.mem_cons.1 h with rfl | h
            · exact (nodup_dropL hnod).2 hj
            · exact hdis j (mem_dropL hj) h)
          (nodup_dropL hnod).1 hVr

def unl (n : Nat) (L : Array Bool) : Nat := ((List.range n).filter fun i => !L.getD i true).length
theorem unl_set {n : Nat} {L : Array Bool} {i : Nat} (hn : i < n) (hs : L.size = n) (h : L.getD i true = false) : unl n (L.setIfInBounds i true) < unl n L := by
  unfold unl
  have key : ∀ (l : List Nat), i ∈ l → l.Nodup → (l.filter fun j => !(L.setIfInBounds i true).getD j true).length < (l.filter fun j => !L.getD j true).length := by
    intro l
    induction l with
    | nil => intro h; cases h
    | cons x l ih =>
      intro hm hnd
      obtain ⟨hx, hnd⟩ := List.nodup_cons.1 hnd
      rcases List.mem_cons.1 hm with rfl | hm
      · have e1 : (l.filter fun j => !(L.setIfInBounds i true).getD j true) = l.filter fun j => !L.getD j true := by
          apply List.filter_congr
          intro j hj
          rw [getD_set_ne' (fun (e : i = j) => hx (e ▸ hj))]
        simp only [List.filter_cons, getD_set_eq (show i < L.size by omega), h, Bool.not_true, Bool.not_false, Bool.false_eq_true, if_false, if_true, e1, List.length_cons]
        omega
      · have hne : i ≠ x := fun e => hx (e ▸ hm)
        have := ih hm hnd
        simp only [List.filter_cons, getD_set_ne' hne]
        split <;> (try simp only [List.length_cons]) <;> omega
  exact key _ (List.mem_range.2 hn) List.nodup_range

include hT in
theorem regionD_any (hp : chkPairs ops = true) {K : St → Prop} {Q : Exit → Act → World → Prop} (hK : ∀ a w, Lift c K a w → Q .normal a w) : ∀ (fuel q : Nat) (rest done : List Nat) (rds : List (Nat × Nat)) (S : St) (f : NM) (L : Array Bool) (a : Act) (w : World),
    Inv tt c ops done rds S f L a w → Good ops done → (∀ i, i < ops.size → i ∈ done ∨ i ∈ rest) → (∀ i ∈ done, i < ops.size) → (∀ i ∈ rest, i ∉ done) → rest.Nodup →
    regionD P c.N c.ng tt ops.toList q done rest rds K S → unl ops.size L ≤ fuel → wpAny P .any ops Q fuel L a w := by
  intro fuel
  induction fuel with
  | zero =>
    intro q rest done rds S f L a w hI hg hall hlt hdis hnod hV hu
    obtain ⟨q, done, rest, rds, S, hI, hg, hall, hlt, hdis, hnod, hV, hhd⟩ := settle hp q rest done rds S f L a w hI hg hall hlt hdis hnod hV
    have hopen : rest ≠ [] → ∃ p, q = p + 1 ∧ pickL ops.toList done rest = none ∧ conjL (fun i => match ops.toList[i]? with
        | some o => match dstOk c.N o.dst with
          | true => guardG ops.toList S o
              (fun S => stepG P c.N c.ng tt S o fun S' => keepP o S.h S'.h rds ∧ regionD P c.N c.ng tt ops.toList p (i :: done) (dropL i rest) rds K S')
              (fun S => putK S o.dst undef (regionD P c.N c.ng tt ops.toList p (i :: done) (dropL i rest) rds K))
          | false => False
        | none => False) (readyL ops.toList done rest) := by
      intro hne
      rcases hhd with h | ⟨p, rfl, hpk⟩
      · exact absurd h hne
      · refine ⟨p, rfl, hpk, ?_⟩
        cases rest with
        | nil => exact absurd rfl hne
        | cons x r => simp only [regionD, hpk] at hV; exact hV
    have hlist : ∀ i, i < ops.size → L.getD i true = true := by
      intro i hi
      cases h : L.getD i true with
      | true => rfl
      | false =>
        have := unl_set hi hI.sz h
        omega
    have hrdy : Region.ready .any ops L = [] := by
      apply List.eq_nil_iff_forall_not_mem.2
      intro i hi
      obtain ⟨h1, o, h2, _⟩ := mem_ready.1 hi
      have := hlist i (Array.getElem?_eq_some_iff.1 h2).1
      rw [h1] at this; cases this
    refine ⟨hrdy, ?_⟩
    cases rest with
    | nil =>
      refine hK _ _ ⟨S, f, regionD_nil hV, { hI.base with tms := fun k v hk => hI.tms k v hk fun i hi h => ?_ }⟩
      have := hlist i (hlt i hi); rw [h] at this; cases this
    | cons x r =>
      obtain ⟨p, _, _, hcj⟩ := hopen (by simp)
      obtain ⟨⟨i, hi⟩, _⟩ := conjL_mem hcj
      obtain ⟨h1, o, h2, _⟩ := mem_readyL.1 hi
      have h3 : ops[i]? = some o := by simpa using h2
      have h4 := (Array.getElem?_eq_some_iff.1 h3).1
      exact absurd (hI.sub i h4 (hlist i h4)) (hdis i h1)
  | succ fuel ih =>
    intro q rest done rds S f L a w hI hg hall hlt hdis hnod hV hu
    obtain ⟨q, done, rest, rds, S, hI, hg, hall, hlt, hdis, hnod, hV, hhd⟩ := settle hp q rest done rds S f L a w hI hg hall hlt hdis hnod hV
    have hopen : rest ≠ [] → ∃ p, q = p + 1 ∧ pickL ops.toList done rest = none ∧ conjL (fun i => match ops.toList[i]? with
        | some o => match dstOk c.N o.dst with
          | true => guardG ops.toList S o
              (fun S => stepG P c.N c.ng tt S o fun S' => keepP o S.h S'.h rds ∧ regionD P c.N c.ng tt ops.toList p (i :: done) (dropL i rest) rds K S')
              (fun S => putK S o.dst undef (regionD P c.N c.ng tt ops.toList p (i :: done) (dropL i rest) rds K))
          | false => False
        | none => False) (readyL ops.toList done rest) := by
      intro hne
      rcases hhd with h | ⟨p, rfl, hpk⟩
      · exact absurd h hne
      · refine ⟨p, rfl, hpk, ?_⟩
        cases rest with
        | nil => exact absurd rfl hne
        | cons x r => simp only [regionD, hpk] at hV; exact hV
    refine ⟨fun hrdy => ?_, fun i hi => ?_⟩
    · -- nothing may come up: all have
      have hdl : ∀ i ∈ done, L.getD i true = true := by
        intro i hi
        cases h : L.getD i true with
        | true => rfl
        | false =>
          obtain ⟨j, k1, k2, k3⟩ := Good.first hg ⟨i, hi, h⟩
          have hj := hlt j k1
          have hoj : ops[j]? = some ops[j] := by simp [hj]
          have : j ∈ Region.ready .any ops L := mem_ready.2 ⟨k2, _, hoj, fun e he hb => by
            have h1 := k3 _ hoj e he hb
            have h2 := hlt _ (Good.dep hg k1 hoj he hb)
            have h3 : e.on < L.size := by rw [hI.sz]; exact h2
            simp only [Array.getD_eq_getD_getElem?, Array.getElem?_eq_getElem h3, Option.getD_some] at h1 ⊢
            exact h1⟩
          rw [hrdy] at this; cases this
      cases rest with
      | nil =>
        refine hK _ _ ⟨S, f, regionD_nil hV, { hI.base with tms := fun k v hk => hI.tms k v hk fun i hi h => ?_ }⟩
        have := hdl i hi; rw [h] at this; cases this
      | cons x r =>
        obtain ⟨p, _, _, hcj⟩ := hopen (by simp)
        obtain ⟨⟨i, hi⟩, _⟩ := conjL_mem hcj
        obtain ⟨hir, o, h2, hok⟩ := mem_readyL.1 hi
        have ho : ops[i]? = some o := by simpa using h2
        have hi := (Array.getElem?_eq_some_iff.1 ho).1
        have hLi : L.getD i true = false := by
          cases h : L.getD i true with
          | false => rfl
          | true => exact absurd (hI.sub i hi h) (hdis i hir)
        have : i ∈ Region.ready .any ops L := mem_ready.2 ⟨hLi, o, ho, fun e he hb => by
          have h0 := okAt_dep (ops := ops) hok he hb
          have h1 := hdl _ h0
          have h3 : e.on < L.size := by rw [hI.sz]; exact hlt _ h0
          simp only [Array.getD_eq_getD_getElem?, Array.getElem?_eq_getElem h3, Option.getD_some] at h1 ⊢
          exact h1⟩
        rw [hrdy] at this; cases this
    · obtain ⟨hLi, o, ho, hdeps⟩ := mem_ready.1 hi
      have hilt := (Array.getElem?_eq_some_iff.1 ho).1
      have hiL : i < L.size := by rw [hI.sz]; exact hilt
      have hdl : ∀ j, depOf o j = true → L.getD j true = true ∧ j < ops.size := by
        intro j hj
        obtain ⟨e, he, hb, rfl⟩ := depOf_edge hj
        have h1 := hdeps e he hb
        have h3 : e.on < L.size := by
          rcases Nat.lt_or_ge e.on L.size with h | h
          · exact h
          · simp [Array.getD_eq_getD_getElem?, Array.getElem?_eq_none h] at h1
        refine ⟨?_, by rw [← hI.sz]; exact h3⟩
        simp only [Array.getD_eq_getD_getElem?, Array.getElem?_eq_getElem h3, Option.getD_some] at h1 ⊢
        exact h1
      have hu' : unl ops.size (L.setIfInBounds i true) ≤ fuel := by
        have := unl_set hilt hI.sz hLi; omega
      -- nothing that it looks at is pending
      have hlooks : ∀ k ∈ Oper.looksAt ops o, ∀ j ∈ done, j ≠ i → L.getD j true = false → ∀ oj, ops[j]? = some oj → oj.dst ≠ some k := by
        intro k hk j hj hji hLj oj hoj hd
        rcases pairs_of hp ho hoj (fun e => hji e.symm) (clash_looks hd hk) with h | ⟨h, h2⟩
        · have := (hdl j h).1; rw [hLj] at this; cases this
        · have := hI.act j hj oj hoj h; rw [hLj] at this; cases this
      by_cases hid : i ∈ done
      · -- it has been reckoned
        obtain ⟨v, n, hFl, hlook, hrd, hdst⟩ := hI.pend i hid hLi o ho
        have hself : ∀ k ∈ Oper.looksAt ops o, o.dst ≠ some k := by
          intro k hk hd
          have hfo : isFloat o.op = true := by
            cases h : isFloat o.op with
            | true => rfl
            | false => have := hI.act i hid o ho h; rw [hLi] at this; cases this
          exact self_of hp ho hfo hd hk
        have htl : ∀ k ∈ Oper.looksAt ops o, ∀ u, look S.t k = some u → ∃ v', a.tmps[k]? = some v' ∧ VR f u v' := by
          intro k hk u hu
          refine hI.tms k u hu fun j hj hLj oj hoj => ?_
          by_cases e : j = i
          · subst e; rw [ho] at hoj; cases hoj; exact hself k hk
          · exact hlooks k hk j hj e hLj oj hoj
        have hnext : ∀ v', VR f v v' → Inv tt c ops done rds S f (L.setIfInBounds i true) (a.put o.dst v') w := by
          intro v' hv
          have hb2 := hI.base.put hdst hv
          refine ⟨{ hb2 with tms := fun k u h => (by cases h), sees := hI.base.sees, ol := hI.base.ol, top := hI.base.top, asc := hI.base.asc, low := hI.base.low }, ?_, by simp [hI.sz], ?_, ?_, ?_⟩
          · intro k u hk hno
            by_cases e : o.dst = some k
            · have := hlook k e
              rw [this] at hk; cases hk
              rw [e]
              have hlt' : k < a.tmps.size := by rw [hI.base.size]; rw [e] at hdst; simpa [dstOk, Nat.blt_eq] using hdst
              exact ⟨v', by simp [Act.put, hlt'], hv⟩
            · obtain ⟨u', h1, h2⟩ := hI.tms k u hk fun j hj hLj oj hoj => by
                by_cases e2 : j = i
                · subst e2; rw [ho] at hoj; cases hoj; exact e
                · exact hno j hj (by rw [getD_set_ne' (fun h => e2 h.symm)]; exact hLj) oj hoj
              refine ⟨u', ?_, h2⟩
              cases hd : o.dst with
              | none => exact h1
              | some d => simp only [Act.put]; rw [Array.getElem?_setIfInBounds_ne (fun h => e (by rw [hd, h]))]; exact h1
          · intro j hj h
            by_cases e : j = i
            · subst e; exact hid
            · rw [getD_set_ne' (fun h => e h.symm)] at h; exact hI.sub j hj h
          · intro j hj oj hoj hfj
            by_cases e : j = i
            · subst e; exact getD_set_eq hiL
            · rw [getD_set_ne' (fun h => e h.symm)]; exact hI.act j hj oj hoj hfj
          · intro j hj h oj hoj
            by_cases e : j = i
            · subst e; rw [getD_set_eq hiL] at h; cases h
            · rw [getD_set_ne' (fun h => e h.symm)] at h; exact hI.pend j hj h oj hoj
        unfold wpOp
        simp only [ho]
        rcases hFl with ⟨g1, acc, hacc, hfa⟩ | ⟨g1, hv, _⟩
        · rw [if_pos (GV_run g1 htl)]
          left
          -- the state that it looks at
          have hS : accG c.ng tt ⟨S.t.filter (fun p => (Oper.looksAt ops o).contains p.1), S.h, S.n⟩ o.op = some acc := by
            rw [← hacc]
            refine accG_congr fun x hx t e => ?_
            have hm := operands_looks (ops := ops) hx e
            have : ∀ (l : List (Nat × Value)), look (l.filter (fun p => (Oper.looksAt ops o).contains p.1)) t = look l t := by
              intro l
              induction l with
              | nil => rfl
              | cons p l ih =>
                obtain ⟨m, u⟩ := p
                by_cases hmm : (Oper.looksAt ops o).contains m = true
                · rw [List.filter_cons, if_pos hmm, look_cons, look_cons, ih]
                · rw [List.filter_cons, if_neg hmm, look_cons, ih]
                  by_cases e3 : m = t
                  · subst e3; exact absurd (by simpa using hm) hmm
                  · rw [if_neg e3]
            exact this S.t
          have hEv : Ev c.ng f ⟨S.t.filter (fun p => (Oper.looksAt ops o).contains p.1), S.h, S.n⟩ a := by
            refine ⟨fun k u hk => ?_, hI.base.glob⟩
            have key : ∀ (l : List (Nat × Value)), look (l.filter (fun p => (Oper.looksAt ops o).contains p.1)) k = some u → k ∈ Oper.looksAt ops o ∧ look l k = some u := by
              intro l
              induction l with
              | nil => intro h; cases h
              | cons p l ih =>
                obtain ⟨m, x⟩ := p
                intro h
                by_cases hmm : (Oper.looksAt ops o).contains m = true
                · rw [List.filter_cons, if_pos hmm, look_cons] at h
                  rw [look_cons]
                  by_cases e3 : m = k
                  · subst e3; rw [if_pos rfl] at h ⊢; exact ⟨by simpa using hmm, h⟩
                  · rw [if_neg e3] at h ⊢; exact ih h
                · rw [List.filter_cons, if_neg hmm] at h
                  obtain ⟨q1, q2⟩ := ih h
                  refine ⟨q1, ?_⟩
                  rw [look_cons, if_neg (fun e3 => hmm (by subst e3; simpa using q1))]; exact q2
            obtain ⟨q1, q2⟩ := key S.t hk
            exact htl k q1 u q2
          obtain ⟨v', x, h1, h2, h3⟩ := floatAcc_run (S := S) (f := f) (w := w) hI.base.sees hfa (acc_ok hT hEv hS)
          unfold Oper.wp
          rw [h3]
          exact upon_nx h2 (ih q rest done rds S f _ _ w (hnext v' h1) hg hall hlt hdis hnod hV hu')
        · rw [if_neg (by rw [GV_run g1 htl]; simp)]
          exact ih q rest done rds S f _ _ w (hnext undef (by rw [hv]; exact VR.undef f)) hg hall hlt hdis hnod hV hu'
      · -- it is the next one that acts
        have hir : i ∈ rest := (hall i hilt).resolve_left hid
        have hok : okAt ops done o = true := by
          simp only [okAt, List.all_eq_true]
          intro e he
          cases hb : Region.binds .any e with
          | false => rfl
          | true =>
            have h1 := hdl e.on (depL_of he hb rfl)
            simp only [Bool.not_true, Bool.false_or]
            exact memL_iff.2 (hI.sub _ h1.2 h1.1)
        have hol : ops.toList[i]? = some o := by simpa using ho
        obtain ⟨p, hqp, hpk, hcj⟩ := hopen (fun h => by rw [h] at hir; cases hir)
        have hjf : isFloat o.op = false := pickL_none hpk i hir o hol hok
        have hVi := (conjL_mem hcj).2 i (mem_readyL.2 ⟨hir, o, hol, hok⟩)
        simp only [hol] at hVi
        clear hV hopen hcj
        have hV := hVi
        clear hVi
        have hnd : i ∉ done := hid
        -- who is pending is not disturbed
        have hquiet : ∀ j ∈ done, L.getD j true = false → ∀ oj, ops[j]? = some oj → clash ops oj o = false ∧ depOf o j = false := by
          intro j hj hLj oj hoj
          have hji : j ≠ i := fun e => hnd (e ▸ hj)
          have hdj : depOf o j = false := by
            cases h : depOf o j with
            | false => rfl
            | true => have := (hdl j h).1; rw [hLj] at this; cases this
          refine ⟨?_, hdj⟩
          cases hcl : clash ops oj o with
          | false => rfl
          | true =>
            rcases pairs_of hp hoj ho hji hcl with h | ⟨_, h⟩
            · obtain ⟨e, he, hb, heq⟩ := depOf_edge h
              exact absurd (heq ▸ Good.dep hg hj hoj he hb) hnd
            · rw [hdj] at h; cases h
        have hgood' : Good ops (i :: done) := ⟨fun o' ho' e he hb => by rw [ho] at ho'; cases ho'; exact okAt_dep hok he hb, hnd, hg⟩
        have hall' : ∀ k, k < ops.size → k ∈ i :: done ∨ k ∈ dropL i rest := fun k hk => by
          by_cases e : k = i
          · subst e; exact Or.inl (by simp)
          · rcases hall k hk with h | h
            · exact Or.inl (List.mem_cons_of_mem _ h)
            · exact Or.inr (dropL_keeps e h)
        have hdis' : ∀ k ∈ dropL i rest, k ∉ i :: done := fun k hk h => by
          rcases List.mem_cons.1 h with rfl | h
          · exact (nodup_dropL hnod).2 hk
          · exact hdis k (mem_dropL hk) h
        have hlt' : ∀ k ∈ i :: done, k < ops.size := fun k hk => by
          rcases List.mem_cons.1 hk with rfl | hk
          · exact hilt
          · exact hlt k hk
        -- the slots that are there
        have hdo : dstOk c.N o.dst = true ∧ ∃ S', SLE S S' ∧ ((GV ops.toList S' o true ∧ stepG P c.N c.ng tt S' o (fun S'' => keepP o S'.h S''.h rds ∧ regionD P c.N c.ng tt ops.toList p (i :: done) (dropL i rest) rds K S'')) ∨
            (GV ops.toList S' o false ∧ regionD P c.N c.ng tt ops.toList p (i :: done) (dropL i rest) rds K (S'.put o.dst undef))) := by
          split at hV
          · rename_i hd
            obtain ⟨S', hle, hV⟩ := guardG_cases hV
            refine ⟨hd, S', hle, ?_⟩
            rcases hV with ⟨g1, hV⟩ | ⟨g1, hV⟩
            · exact Or.inl ⟨hle.gv g1, hV⟩
            · rw [putK_eq] at hV; exact Or.inr ⟨hle.gv g1, hV⟩
          · exact hV.elim
        obtain ⟨hdo, S', hle, hV⟩ := hdo
        replace hI := hI.ext hle
        clear hle
        revert hI hV
        generalize S' = S
        intro hV hI
        obtain ⟨t2, ht2, ht2a⟩ : ∃ t2 : List (Nat × Value), (∀ k u, look t2 k = some u → look S.t k = some u ∧ ∀ j ∈ done, L.getD j true = false → ∀ oj, ops[j]? = some oj → oj.dst ≠ some k) ∧
            (∀ k, (∀ j ∈ done, L.getD j true = false → ∀ oj, ops[j]? = some oj → oj.dst ≠ some k) → look t2 k = look S.t k) := by
          classical
          refine ⟨S.t.filter (fun p => decide (∀ j ∈ done, L.getD j true = false → ∀ oj, ops[j]? = some oj → oj.dst ≠ some p.1)), ?_, ?_⟩
          · intro k u
            generalize S.t = l
            induction l with
            | nil => intro h; cases h
            | cons p l ih =>
              obtain ⟨m, x⟩ := p
              intro h
              by_cases hmm : (∀ j ∈ done, L.getD j true = false → ∀ oj, ops[j]? = some oj → oj.dst ≠ some m)
              · rw [List.filter_cons, if_pos (by simpa using hmm), look_cons] at h
                rw [look_cons]
                by_cases e3 : m = k
                · subst e3; rw [if_pos rfl] at h ⊢; exact ⟨h, hmm⟩
                · rw [if_neg e3] at h ⊢; exact ih h
              · rw [List.filter_cons, if_neg (by simpa using hmm)] at h
                obtain ⟨q1, q2⟩ := ih h
                refine ⟨?_, q2⟩
                rw [look_cons, if_neg (fun e3 => hmm (by subst e3; exact q2))]; exact q1
          · intro k hk
            generalize S.t = l
            induction l with
            | nil => rfl
            | cons p l ih =>
              obtain ⟨m, x⟩ := p
              by_cases hmm : (∀ j ∈ done, L.getD j true = false → ∀ oj, ops[j]? = some oj → oj.dst ≠ some m)
              · rw [List.filter_cons, if_pos (by simpa using hmm), look_cons, look_cons, ih]
              · rw [List.filter_cons, if_neg (by simpa using hmm), look_cons, if_neg (fun e3 => hmm (by subst e3; exact hk))]; exact ih
        have hagree : ∀ k ∈ Oper.looksAt ops o, look S.t k = look t2 k := fun k hk => (ht2a k fun j hj hLj oj hoj => hlooks k hk j hj (fun e => hnd (e ▸ hj)) hLj oj hoj).symm
        have hsat : Sat c f ⟨t2, S.h, S.n⟩ a w := { hI.base with tms := fun k u hk => hI.tms k u (ht2 k u hk).1 (ht2 k u hk).2 }
        have htl : ∀ k ∈ Oper.looksAt ops o, ∀ u, look S.t k = some u → ∃ v', a.tmps[k]? = some v' ∧ VR f u v' := fun k hk u hu => hsat.tms k u (by rw [← hagree k hk]; exact hu)
        -- behind it
        have hafter : ∀ (h' : List (Nat × GO)) (n' : List Nat) (v : Value) (f' : NM) (a' : Act) (w' : World), dstOk c.N o.dst = true → Sat c f' ((⟨t2, h', n'⟩ : St).put o.dst v) a' w' →
            keepP o S.h h' rds → Inv tt c ops (i :: done) rds ((⟨S.t, h', n'⟩ : St).put o.dst v) f' (L.setIfInBounds i true) a' w' := by
          intro h' n' v f' a' w' hdo hs hkeep
          refine ⟨?_, ?_, by simp [hI.sz], ?_, ?_, ?_⟩
          · have e1 := hs
            refine { e1 with tms := fun k u h => (by cases h), sees := ?_, ol := ?_, top := ?_, asc := ?_, low := ?_ }
            · have := hs.top; rw [St.put_n] at this ⊢; exact this
            · have := hs.asc; rw [St.put_n] at this ⊢; exact this
            · have := hs.low; rw [St.put_n] at this ⊢; exact this
            · have := hs.sees; rw [St.put_h] at this ⊢; exact this
            · have := hs.ol; rw [St.put_n] at this ⊢; exact this
          · intro k u hk hno
            refine hs.tms k u ?_
            by_cases e : o.dst = some k
            · rw [e] at hk ⊢; rw [put_look_self] at hk ⊢; exact hk
            · rw [put_look e] at hk ⊢
              show look t2 k = some u
              rw [ht2a k fun j hj hLj oj hoj => ?_]
              · exact hk
              · have hji : i ≠ j := fun e => hnd (e ▸ hj)
                exact hno j (List.mem_cons_of_mem _ hj) (by rw [getD_set_ne' hji]; exact hLj) oj hoj
          · intro j hj h
            by_cases e : j = i
            · subst e; simp
            · rw [getD_set_ne' (fun h => e h.symm)] at h; exact List.mem_cons_of_mem _ (hI.sub j hj h)
          · intro j hj oj hoj hfj
            rcases List.mem_cons.1 hj with rfl | hj
            · exact getD_set_eq hiL
            · have hji : i ≠ j := fun e => hnd (e ▸ hj)
              rw [getD_set_ne' hji]; exact hI.act j hj oj hoj hfj
          · intro j hj h oj hoj
            rcases List.mem_cons.1 hj with rfl | hj
            · rw [getD_set_eq hiL] at h; cases h
            · have hji : i ≠ j := fun e => hnd (e ▸ hj)
              rw [getD_set_ne' hji] at h
              obtain ⟨v', n2, p1, p2, p3, p4⟩ := hI.pend j hj h oj hoj
              obtain ⟨hq, hdj⟩ := hquiet j hj h oj hoj
              refine ⟨v', n2, p1.keep ?_ ?_, ?_, p3, p4⟩
              · intro k hk
                refine (put_look (S := ⟨S.t, h', n'⟩) fun e => ?_).symm
                rw [clash_looks e hk] at hq; cases hq
              · intro m hm
                rw [St.put_h]
                exact keepP_mem hkeep j m (p3 m hm) hdj
              · intro d hd'
                rw [put_look (fun e => by rw [clash_dst e hd'] at hq; cases hq)]
                exact p2 d hd'
        unfold wpOp
        simp only [ho]
        rcases hV with ⟨g1, hV⟩ | ⟨g1, hV⟩
        · rw [if_pos (GV_run g1 htl)]
          left
          have hsw := stepG_swap (ops := ops) (t := S.t) (t2 := t2) (h := S.h) (n := S.n) hagree hV
          refine stepG_sound hT ?_ hsat hsw
          rintro a' w' ⟨S', f', ⟨h', n', v, rfl, hk, hVr⟩, hs⟩
          rw [St.put_h] at hk
          exact ih p (dropL i rest) (i :: done) rds _ f' _ a' w' (hafter h' n' v f' a' w' hdo hs hk) hgood' hall' hlt' hdis' (nodup_dropL hnod).1 hVr hu'
        · rw [if_neg (by rw [GV_run g1 htl]; simp)]
          exact ih p (dropL i rest) (i :: done) rds _ f _ _ w (hafter S.h S.n undef f _ w hdo (hsat.put hdo (VR.undef f)) (keepP_same o S.h rds)) hgood' hall' hlt' hdis' (nodup_dropL hnod).1 hV hu'
end anyorder
end Go.Proofs.YtkcmhcgmiflgbaaDoor

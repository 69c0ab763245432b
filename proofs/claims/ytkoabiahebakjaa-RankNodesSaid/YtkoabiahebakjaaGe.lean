/- Runs over a small memory with names: code, loops, calls. -/
import Derived.Test.YtkoabiahebakjaaGd
import Derived.LoopN
namespace Go.Proofs.Ytkoabiahebakjaa
open Go

/-- whoever stands in another's way waits for it -/
def upto : Nat → Nat → List Nat
  | 0, _ => []
  | n + 1, i => i :: upto n (i + 1)
theorem upto_mem {n : Nat} : ∀ {i j : Nat}, j ∈ upto n i ↔ i ≤ j ∧ j < i + n := by
  induction n with
  | zero => intro i j; simp only [upto, List.not_mem_nil, false_iff]; omega
  | succ n ih => intro i j; simp only [upto, List.mem_cons, ih]; omega
theorem upto_nodup {n : Nat} : ∀ {i : Nat}, (upto n i).Nodup := by
  induction n with
  | zero => intro i; simp [upto]
  | succ n ih => intro i; simp only [upto, List.nodup_cons]; exact ⟨fun h => by have := (upto_mem.1 h).1; omega, ih⟩
def chkAll (ops : Array Oper) : Bool := chkPairs ops

/-- less is known, by other names -/
def Wk (lo : Nat) (S S' : St) : Prop := ∀ c f a w, c.lo = lo → Sat c f S a w → ∃ f', Sat c f' S' a w
theorem Wk.refl (lo : Nat) (S : St) : Wk lo S S := fun _ f _ _ _ h => ⟨f, h⟩
theorem Wk.trans {lo : Nat} {S S' S'' : St} (h : Wk lo S S') (k : Wk lo S' S'') : Wk lo S S'' := fun c f a w hl hs => by
  obtain ⟨f', h1⟩ := h c f a w hl hs
  exact k c f' a w hl h1

/-- so many rounds -/
def roundsG (body : (Exit → St → Prop) → St → Prop) (Q : Exit → St → Prop) : Nat → St → Prop
  | 0, _ => False
  | n + 1, S => body (fun e S' => match e with
    | .normal => roundsG body Q n S'
    | e => Q e S') S
inductive LoopG (lo : Nat) (body : (Exit → St → Prop) → St → Prop) (Q : Exit → St → Prop) (S : St) : Prop
  | mk {ι : Type} (st : ι → St) (μ : ι → Nat) (i0 : ι) : Wk lo S (st i0) →
      (∀ i, body (fun e S' => match e with | .normal => ∃ j, μ j < μ i ∧ Wk lo S' (st j) | e => Q e S') (st i)) → LoopG lo body Q S
  | unroll (n : Nat) : roundsG body Q n S → LoopG lo body Q S

section defs
variable (P : Program) (N ng lo : Nat) (tt : List (Nat × TK))
def wpG : Code → (Exit → St → Prop) → St → Prop
  | .skip, Q, S => Q .normal S
  | .region _ ops dr, Q, S => match dr with
    | false => regionG P N ng tt ops.toList ops.toList (fun S' => Q .normal S') S
    | true => chkAll ops = true ∧ regionD P N ng tt ops.toList ops.size [] (upto ops.size 0) [] (fun S' => Q .normal S') S
  | .seq a b, Q, S => wpG a (fun e S' => match e with | .normal => wpG b Q S' | e => Q e S') S
  | .cond c a b, Q, S => match evalG ng S c with
    | some (.bool t) => bif2 t (wpG a Q S) (wpG b Q S)
    | _ => False
  | .block i c, Q, S => wpG c (fun e S' => match e with
    | .exit j => match Nat.beq j i with
      | true => Q .normal S'
      | false => Q (.exit j) S'
    | e => Q e S') S
  | .loop c, Q, S => LoopG lo (wpG c) Q S
  | .exit i, Q, S => Q (.exit i) S
  | .label _, Q, S => Q .normal S
  | .ret, Q, S => Q .ret S
  | _, _, _ => False
end defs
theorem wpG_mono {P : Program} {N ng lo : Nat} {tt : List (Nat × TK)} : True := trivial
def LiftQ (c : Cx) (Q : Exit → St → Prop) (e : Exit) (a : Act) (w : World) : Prop := ∃ S f, Q e S ∧ Sat c f S a w
theorem wpG_sound {P : Program} {tt : List (Nat × TK)} (hT : TKok P tt) (hm : P.follows .mixedOrders = true) {c : Cx} : ∀ (code : Code) (Q : Exit → St → Prop) (S : St) (f : NM) (a : Act) (w : World),
    Sat c f S a w → wpG P c.N c.ng c.lo tt code Q S → code.wp P (LiftQ c Q) a w := by
  intro code
  induction code with
  | skip => intro Q S f a w H h; exact wp_skip ⟨S, f, h, H⟩
  | region id ops dr =>
    intro Q S f a w H h
    cases dr with
    | false =>
      exact wp_region_list (regionG_sound hT (ops := ops) (K := fun S' => Q .normal S') (Q := LiftQ c Q) (fun a w hl => hl) ops.toList H h)
    | true =>
      obtain ⟨h1, h2⟩ := h
      refine wp_region_any hm ?_
      have hs := H.drawn (w.drawn + 1)
      refine regionD_any hT h1 (K := fun S' => Q .normal S') (Q := LiftQ c Q) (fun a w hl => hl) ops.size ops.size (upto ops.size 0) [] [] S f _ a _ ?_ trivial ?_ (fun i hi => by cases hi) (fun i _ hi => by cases hi) upto_nodup h2 ?_
      · refine ⟨{ hs with tms := fun k v h => (by cases h) }, fun k v hk _ => hs.tms k v hk, by simp, fun i hi h => ?_, fun i hi => (by cases hi), fun i hi => (by cases hi)⟩
        simp [Array.getD_eq_getD_getElem?, hi] at h
      · intro i hi
        right
        exact upto_mem.2 ⟨Nat.zero_le _, by omega⟩
      · unfold unl
        refine Nat.le_trans (List.length_filter_le _ _) ?_
        simp
  | seq x y ihx ihy =>
    intro Q S f a w H h
    refine wp_seq (Code.wp_mono ?_ (ihx _ S f a w H h))
    rintro e a' w' ⟨S', f', h1, h2⟩
    cases e with
    | normal => exact ihy Q S' f' a' w' h2 h1
    | _ => exact ⟨S', f', h1, h2⟩
  | cond x p q ihp ihq =>
    intro Q S f a w H h
    simp only [wpG] at h
    split at h
    · rename_i t ht
      have h0 := H.ev.eval ht
      have h1 : a.eval x = .bool t := by
        generalize a.eval x = z at h0
        cases h0; rfl
      cases t with
      | true => exact wp_cond_true h1 (ihp Q S f a w H h)
      | false => exact wp_cond_false h1 (ihq Q S f a w H h)
    · exact h.elim
  | block id b ih =>
    intro Q S f a w H h
    refine wp_block (Code.wp_mono ?_ (ih _ S f a w H h))
    rintro e a' w' ⟨S', f', h1, h2⟩
    cases e with
    | exit j =>
      simp only at h1
      simp only [Exit.inBlock]
      split at h1
      · rename_i e; rw [if_pos (Nat.eq_of_beq_eq_true e)]; exact ⟨S', f', h1, h2⟩
      · rename_i e
        rw [if_neg (fun hh => by rw [hh] at e; simp at e)]; exact ⟨S', f', h1, h2⟩
    | _ => exact ⟨S', f', h1, h2⟩
  | loop b ih =>
    intro Q S f a w H h
    cases h with
    | mk st μ i0 h0 hround =>
      obtain ⟨f0, hs0⟩ := h0 c f a w rfl H
      have key : ∀ n i f a w, μ i < n → Sat c f (st i) a w → Code.rounds P b (LiftQ c Q) n a w := by
        intro n
        induction n with
        | zero => intro i f a w hn; omega
        | succ n ihn =>
          intro i f a w hn hs
          rw [rounds_succ]
          refine Code.wp_mono ?_ (ih _ (st i) f a w hs (hround i))
          rintro e a' w' ⟨S', f', h1, h2⟩
          cases e with
          | normal =>
            obtain ⟨j, h3, h4⟩ := h1
            obtain ⟨f2, h5⟩ := h4 c f' a' w' rfl h2
            exact ihn j f2 a' w' (by omega) h5
          | _ => exact ⟨S', f', h1, h2⟩
      exact wp_loop_rounds _ (key (μ i0 + 1) i0 f0 a w (by omega) hs0)
    | unroll n hr =>
      have key : ∀ n S f a w, Sat c f S a w → roundsG (wpG P c.N c.ng c.lo tt b) Q n S → Code.rounds P b (LiftQ c Q) n a w := by
        intro n
        induction n with
        | zero => intro S f a w hs h; exact h.elim
        | succ n ihn =>
          intro S f a w hs h
          rw [rounds_succ]
          refine Code.wp_mono ?_ (ih _ S f a w hs h)
          rintro e a' w' ⟨S', f', h1, h2⟩
          cases e with
          | normal => exact ihn S' f' a' w' h2 h1
          | _ => exact ⟨S', f', h1, h2⟩
      exact wp_loop_rounds n (key n S f a w H hr)
  | exit id => intro Q S f a w H h; exact wp_exit ⟨S, f, h, H⟩
  | label l => intro Q S f a w H h; exact wp_label ⟨S, f, h, H⟩
  | ret => intro Q S f a w H h; exact wp_ret ⟨S, f, h, H⟩
  | rangeFunc => intro Q S f a w H h; exact h.elim
  | scope => intro Q S f a w H h; exact h.elim
  | goto => intro Q S f a w H h; exact h.elim
  | refuse => intro Q S f a w H h; exact h.elim
end Go.Proofs.Ytkoabiahebakjaa
namespace Go.Proofs.Ytkoabiahebakjaa
open Go

/-- what is known of types, row by row -/
def TK1 (P : Program) (t : Nat) (i : TK) : Prop :=
  P.underlying t = some i.desc ∧ (P.info? t).map (fun j => (j.size, j.bytes, j.zero)) = some (i.size, i.bytes, some i.zero) ∧
    (i.ks = [] ∨ (leaves P 6 t = some i.ks ∧ named P 6 t = true ∧ aggT P t = true ∧ P.eqGuardType P.depth t = false))
theorem TKok.nil (P : Program) : TKok P [] := fun t i h => by cases h
theorem TKok.cons {P : Program} {t : Nat} {i : TK} {r : List (Nat × TK)} (h : TK1 P t i) (hr : TKok P r) : TKok P ((t, i) :: r) := by
  intro u j hu
  rw [look_cons] at hu
  by_cases e : t = u
  · subst e
    rw [if_pos rfl] at hu; cases hu
    obtain ⟨h1, h2, h3⟩ := h
    refine ⟨h1, ?_, ?_⟩
    · cases hi : P.info? t with
      | none => rw [hi] at h2; simp at h2
      | some k =>
        rw [hi] at h2
        simp only [Option.map_some, Option.some.injEq, Prod.mk.injEq] at h2
        exact ⟨k, rfl, h2.1, h2.2.1, h2.2.2⟩
    · intro hne
      rcases h3 with h3 | h3
      · exact absurd h3 hne
      · exact h3
  · rw [if_neg e] at hu; exact hr u j hu

/-- the slots of a call's arguments -/
def argT : Nat → List Value → List (Nat × Value)
  | _, [] => []
  | k, v :: r => (k, v) :: argT (k + 1) r
def startG (l : List Value) (K : List (Nat × Value) → Prop) : Prop := match l with
  | [] => K []
  | [a] => K [(0, a)]
  | [a, b] => K [(0, a), (1, b)]
  | [a, b, c] => K [(0, a), (1, b), (2, c)]
  | [a, b, c, d] => K [(0, a), (1, b), (2, c), (3, d)]
  | [a, b, c, d, e] => K [(0, a), (1, b), (2, c), (3, d), (4, e)]
  | [a, b, c, d, e, f] => K [(0, a), (1, b), (2, c), (3, d), (4, e), (5, f)]
  | [a, b, c, d, e, f, g] => K [(0, a), (1, b), (2, c), (3, d), (4, e), (5, f), (6, g)]
  | l => K (argT 0 l)
theorem startG_eq (l : List Value) (K : List (Nat × Value) → Prop) : startG l K = K (argT 0 l) := by
  unfold startG
  split <;> rfl
theorem argT_look : ∀ (l : List Value) (k n : Nat) (v : Value), look (argT k l) n = some v → k ≤ n ∧ l[n - k]? = some v := by
  intro l
  induction l with
  | nil => intro k n v h; cases h
  | cons x l ih =>
    intro k n v h
    simp only [argT, look_cons] at h
    by_cases e : k = n
    · subst e; rw [if_pos rfl] at h; cases h; simp
    · rw [if_neg e] at h
      obtain ⟨h1, h2⟩ := ih (k + 1) n v h
      refine ⟨by omega, ?_⟩
      rw [show n - k = (n - (k + 1)) + 1 by omega]
      simpa using h2

/-- what is handed back -/
def resV (tt : List (Nat × TK)) (S : St) : List ResultVar → Option (List Value)
  | [] => some []
  | .tmp t :: r => match look S.t t with
    | some v => match resV tt S r with
      | some l => some (v :: l)
      | none => none
    | none => none
  | .cell x ty :: r => match look S.t x, look tt ty with
    | some (.pointer (some ⟨n, off, none⟩)), some i => match look S.h n with
      | some (.cells c _ _) => match partG i c off with
        | some v => match resV tt S r with
          | some l => some (v :: l)
          | none => none
        | none => none
      | _ => none
    | _, _ => none
def packV : List Value → Value
  | [v] => v
  | l => .tuple ⟨l⟩
def retG (tt : List (Nat × TK)) (rs : List ResultVar) (K : Value → List (Nat × Obj) → List Nat → Prop) (e : Exit) (S : St) : Prop :=
  match e, S with
  | .ret, ⟨t, h, n⟩ => match resV tt ⟨t, h, n⟩ rs with
    | some [v] => K v h n
    | some l => K (.tuple ⟨l⟩) h n
    | none => False
  | .normal, ⟨t, h, n⟩ => match resV tt ⟨t, h, n⟩ rs with
    | some [v] => K v h n
    | some l => K (.tuple ⟨l⟩) h n
    | none => False
  | _, _ => False
def resOne (a : Array Value) : ResultVar → Sem Value
  | .tmp t => pure (a.getD t undef)
  | .cell x t => do loadVar t (← asAddr (a.getD x undef))
theorem results_eq (fn : Func) (a : Array Value) : results fn a = (do
    let vs ← fn.results.mapM (resOne a)
    pure (if h : vs.size = 1 then vs[0] else .tuple vs)) := by
  unfold results
  congr 1
theorem resV_ok {P : Program} {tt : List (Nat × TK)} (hT : TKok P tt) {c : Cx} {f : NM} {S : St} {a : Act} {w : World} (H : Sat c f S a w) : ∀ (rs : List ResultVar) (l : List Value), resV tt S rs = some l →
    ∃ l' : List Value, AR f ⟨l⟩ ⟨l'⟩ ∧ (rs.mapM (m := Sem) (resOne a.tmps)).run P w = .ok l' w := by
  intro rs
  induction rs with
  | nil => intro l h; cases h; exact ⟨[], AR.nil f, rfl⟩
  | cons r rs ih =>
    intro l h
    have fin : ∀ {v v' : Value} {l : List Value} {x : Sem Value}, VR f v v' → x.run P w = .ok v' w → resV tt S rs = some l → ∃ l' : List Value, AR f ⟨v :: l⟩ ⟨l'⟩ ∧ (x >>= fun y => (rs.mapM (m := Sem) (resOne a.tmps)) >>= fun ys => pure (y :: ys)).run P w = .ok l' w := by
      intro v v' l x hv hx hl
      obtain ⟨l', h1, h2⟩ := ih l hl
      refine ⟨v' :: l', ?_, ?_⟩
      · have := (AR.one hv).append h1
        simpa using this
      · simp only [Sem.run_bind, hx, Result.andThen_ok]
        rw [h2]
        rfl
    cases r with
    | tmp t =>
      simp only [resV] at h
      split at h
      · rename_i v hv
        split at h
        · rename_i l0 hl0
          cases h
          obtain ⟨v', h1, h2⟩ := H.tms t v hv
          rw [List.mapM_cons]
          exact fin h2 (by simp [resOne, Array.getD_eq_getD_getElem?, h1]) hl0
        · cases h
      · cases h
    | cell x ty =>
      simp only [resV] at h
      split at h
      · rename_i n off i hx hi
        split at h
        · rename_i cs ct cf hn
          split at h
          · rename_i v hv
            split at h
            · rename_i l0 hl0
              cases h
              obtain ⟨x', h1, h2⟩ := H.tms x _ hx
              cases h2 with
              | ptr hf =>
                rename_i b
                obtain ⟨b2, o', g1, g2, g3⟩ := H.sees n _ hn
                rw [hf] at g1; cases g1
                obtain ⟨v', k1, k2⟩ := (loadAcc_ok hT hi (v := .pointer (some ⟨n, off, none⟩)) rfl (.ptr hf)) b _ o' w v hf g2 g3 hv
                rw [List.mapM_cons]
                refine fin k1 ?_ hl0
                simp only [Instr.loadAt, Instr.sureAddr, pure_bind] at k2
                simp [resOne, Array.getD_eq_getD_getElem?, h1, asAddr, k2]
            · cases h
          · cases h
        · cases h
      · cases h
theorem packV_ok {f : NM} {l l' : List Value} (h : AR f ⟨l⟩ ⟨l'⟩) : VR f (packV l) (if h : (⟨l'⟩ : Array Value).size = 1 then (⟨l'⟩ : Array Value)[0] else .tuple ⟨l'⟩) := by
  have hl : l.length = l'.length := by have := h.1; simpa using this
  match l, l', hl, h with
  | [], [], _, h => exact h.tuple
  | [x], [y], _, h => exact h.2 0 x y (by simp) (by simp)
  | a :: b :: r, a' :: b' :: r', _, h =>
    rw [dif_neg (by simp)]
    exact h.tuple

/-- a call's contract out of its body -/
theorem Spec.of_body {P : Program} {tt : List (Nat × TK)} (hT : TKok P tt) (hm : P.follows .mixedOrders = true) {ng k lo : Nat} {fn : Func} {code : Code} (hf : P.funcs[k]? = some fn) (hb : fn.body = some code)
    {args : List Value} {h : List (Nat × Obj)} {ns : List Nat} {K : Value → List (Nat × Obj) → List Nat → Prop} (hn : args.length ≤ fn.ntmps)
    (H : startG args fun t => wpG P fn.ntmps ng lo tt code (retG tt fn.results.toList K) ⟨t, h, lo :: ns⟩) : Spec P ng k args h (lo :: ns) K := by
  rw [startG_eq] at H
  intro f w args' hB hA
  refine calls_of_wp hf hb ?_
  have hlen : args'.size = args.length := by have := hA.1; simpa using this.symm
  let c : Cx := ⟨f, w, fun b => ∃ n o, look h n = some o ∧ f n = some b, fn.ntmps, ng, lo⟩
  have hS : Sat c f ⟨argT 0 args, h, lo :: ns⟩ { tmps := args' ++ Array.replicate (fn.ntmps - args'.size) undef, defers := [] } w := by
    refine { inj := hB.inj, lt := hB.lt, glob := hB.glob, top := hB.top, asc := hB.asc, low := ?_, f0lo := fun m hm => hB.top lo (by simp) m hm, sees := hB.sees, own := fun n o b h1 h2 => Or.inl ⟨n, o, h1, h2⟩, tms := ?_, size := ?_, defers := rfl, ext := NM.le.refl f, new := fun n b h => Or.inl h, far := fun _ _ _ => rfl, grow := Nat.le_refl _, os := rfl, tape := rfl, out := rfl }
    · intro x hx
      rcases List.mem_cons.1 hx with rfl | hx
      · exact Nat.le_refl _
      · exact Nat.le_of_lt ((List.pairwise_cons.1 hB.asc).1 x hx)
    · intro k v hk
      obtain ⟨_, h2⟩ := argT_look args 0 k v hk
      obtain ⟨v', h3, h4⟩ := hA.get (i := k) (v := v) (by simpa using h2)
      refine ⟨v', ?_, h4⟩
      rw [Array.getElem?_append_left (Array.getElem?_eq_some_iff.1 h3).1]
      exact h3
    · simp only [Array.size_append, Array.size_replicate]
      show args'.size + (fn.ntmps - args'.size) = fn.ntmps
      omega
  refine Code.wp_mono ?_ (wpG_sound hT hm (c := c) code _ _ f _ w hS H)
  rintro e a' w' ⟨S', g, hR, hs⟩
  have fin : ∀ l : List Value, resV tt S' fn.results.toList = some l → K (packV l) S'.h S'.n → a'.defers = [] ∧ ∃ v, (results fn a'.tmps).run P w' = .ok v w' ∧ ∃ v₁ v' h' ns' g, Ending.returned v = .returned v' ∧ K v₁ h' ns' ∧ After f h (lo :: ns) w g v₁ v' h' ns' w' := by
    intro l hl hK
    obtain ⟨l', h1, h2⟩ := resV_ok hT hs fn.results.toList l hl
    refine ⟨hs.defers, (if h : (⟨l'⟩ : Array Value).size = 1 then (⟨l'⟩ : Array Value)[0] else .tuple ⟨l'⟩), ?_, packV l, _, S'.h, S'.n, g, rfl, hK, ?_⟩
    · rw [results_eq, Array.mapM_eq_mapM_toList]
      simp only [Sem.run_bind, Sem.run_map, h2, Result.andThen_ok, Sem.run_pure]
    · exact { le := hs.ext, inj := hs.inj, lt := hs.lt, val := packV_ok h1, sees := hs.sees, own := fun n o b q1 q2 => by
                rcases hs.own n o b q1 q2 with ⟨m, p, q3, q4⟩ | q3
                · exact Or.inl ⟨m, p, q3, q4⟩
                · exact Or.inr q3
              new := hs.new, far := fun b hb hx => hs.far b hb (fun ⟨n, o, q1, q2⟩ => hx n o q1 q2), top := hs.top, asc := hs.asc, low := fun x hx => ⟨lo, by simp, hs.low x hx⟩, grow := hs.grow, os := hs.os, tape := hs.tape, out := hs.out }
  cases e with
  | ret =>
    obtain ⟨t, hh, n⟩ := S'
    simp only [retG] at hR
    split at hR
    · rename_i v hl; exact fin [v] hl hR
    · rename_i l hne hl
      refine fin l hl ?_
      have e : packV l = .tuple ⟨l⟩ := by
        unfold packV
        split
        · rename_i v; exact absurd rfl (hne v)
        · rfl
      rw [e]; exact hR
    · exact hR.elim
  | normal =>
    obtain ⟨t, hh, n⟩ := S'
    simp only [retG] at hR
    split at hR
    · rename_i v hl; exact fin [v] hl hR
    · rename_i l hne hl
      refine fin l hl ?_
      have e : packV l = .tuple ⟨l⟩ := by
        unfold packV
        split
        · rename_i v; exact absurd rfl (hne v)
        · rfl
      rw [e]; exact hR
    · exact hR.elim
  | _ => exact hR.elim
end Go.Proofs.Ytkoabiahebakjaa
namespace Go.Proofs.Ytkoabiahebakjaa
open Go

theorem clean1_eq {v v' : Value} {f : NM} (h : clean1 v = true) (hv : VR f v v') : v' = v := by
  cases hv with
  | @func k x x' y y' a _ b _ =>
    obtain ⟨x⟩ := x
    obtain ⟨y⟩ := y
    cases x <;> cases y <;> simp [clean1] at h
    have e1 : x' = #[] := Array.eq_empty_of_size_eq_zero (by simpa using a.symm)
    have e2 : y' = #[] := Array.eq_empty_of_size_eq_zero (by simpa using b.symm)
    rw [e1, e2]
  | _ => first | rfl | (simp [clean1] at h)
theorem cleanL_eq {f : NM} {l : List Value} {c : Array Value} (h : cleanL l = true) (hv : AR f ⟨l⟩ c) : c = ⟨l⟩ := by
  apply Array.ext_getElem?
  intro i
  cases hi : c[i]? with
  | none =>
    have : c.size ≤ i := by simpa using hi
    have h2 := hv.1
    rw [Array.getElem?_eq_none (by rw [h2]; exact this)]
  | some u =>
    obtain ⟨v, h1, h2⟩ := hv.get' hi
    have hm : v ∈ l := by have := Array.mem_of_getElem? h1; simpa using this
    rw [clean1_eq (cleanL_all h v hm) h2, h1]
theorem cleanE_eq {v v' : Value} {f : NM} (h : cleanE v = true) (hv : VR f v v') : v' = v := by
  cases hv with
  | agg a b =>
    rename_i x x'
    obtain ⟨x⟩ := x
    rw [cleanL_eq (by simpa [cleanE] using h) ⟨a, b⟩]
  | _ => exact clean1_eq (f := f) (by simpa [cleanE] using h) (by constructor <;> assumption)
theorem cleanT_eq {f : NM} {l : List Value} {c : Array Value} (h : cleanT l = true) (hv : AR f ⟨l⟩ c) : c = ⟨l⟩ := by
  apply Array.ext_getElem?
  intro i
  cases hi : c[i]? with
  | none =>
    have : c.size ≤ i := by simpa using hi
    have h2 := hv.1
    rw [Array.getElem?_eq_none (by rw [h2]; exact this)]
  | some u =>
    obtain ⟨v, h1, h2⟩ := hv.get' hi
    have hm : v ∈ l := by have := Array.mem_of_getElem? h1; simpa using this
    rw [cleanE_eq (cleanT_all h v hm) h2, h1]
theorem clean_eq {v v' : Value} {f : NM} (h : clean v = true) (hv : VR f v v') : v' = v := by
  cases hv with
  | tuple a b =>
    rename_i x x'
    obtain ⟨x⟩ := x
    rw [cleanT_eq (by simpa [clean] using h) ⟨a, b⟩]
  | _ => exact cleanE_eq (f := f) (by simpa [clean] using h) (by constructor <;> assumption)
/-- values that are structs or arrays of plain values, too -/
def cleanA2 : List Value → Bool
  | [] => true
  | v :: r => match clean v with
    | true => cleanA2 r
    | false => false
theorem cleanA2_mem {l : List Value} (h : cleanA2 l = true) : ∀ v ∈ l, clean v = true := by
  induction l with
  | nil => intro v hv; cases hv
  | cons x l ih =>
    intro v hv
    cases e : clean x with
    | false => simp [cleanA2, e] at h
    | true =>
      simp [cleanA2, e] at h
      rcases List.mem_cons.1 hv with rfl | h'
      · exact e
      · exact ih h v h'
theorem cleanA2_AR {f g : NM} {l : List Value} {c : Array Value} (h : cleanA2 l = true) (hv : AR f ⟨l⟩ c) : AR g ⟨l⟩ c := by
  refine ⟨hv.1, fun i v v' a b => ?_⟩
  have hm : v ∈ l := by have := Array.mem_of_getElem? a; simpa using this
  have hc := cleanA2_mem h v hm
  rw [clean_eq hc (hv.2 i v v' a b)]
  exact clean_VR g hc

def sup : List Nat := 1000 :: 1001 :: 1002 :: 1003 :: 1004 :: 1005 :: 1006 :: 1007 :: 1008 :: 1009 :: 1010 :: 1011 :: 1012 :: 1013 :: 1014 :: 1015 :: 1016 :: 1017 :: 1018 :: 1019 :: 1020 :: 1021 :: 1022 :: 1023 :: 1024 :: 1025 :: 1026 :: 1027 :: 1028 :: 1029 :: 1030 :: 1031 :: 1032 :: 1033 :: 1034 :: 1035 :: 1036 :: 1037 :: 1038 :: 1039 :: 1040 :: 1041 :: 1042 :: 1043 :: 1044 :: 1045 :: 1046 :: 1047 :: []
theorem sup_low : ∀ x ∈ sup, 1000 ≤ x := by decide
theorem sup_asc : sup.Pairwise (· < ·) := by decide
/-- a call that only reckons -/
def Pure (P : Program) (ng : Nat) (k : FuncId) (args : List Value) (Q : Value → Prop) : Prop := Spec P ng k args [] sup fun v _ _ => Q v ∧ clean v = true
theorem Pure.mono {P : Program} {ng k : Nat} {args : List Value} {Q Q' : Value → Prop} (h : Pure P ng k args Q) (hq : ∀ v, Q v → Q' v) : Pure P ng k args Q' :=
  fun f w args' hb ha => (h f w args' hb ha).mono fun e w' ⟨v, v', h', ns', g, h1, h2, h3⟩ => ⟨v, v', h', ns', g, h1, ⟨hq v h2.1, h2.2⟩, h3⟩
theorem Pure.spec {P : Program} {ng k : Nat} (hng : ng ≤ 1000) {args : List Value} {Q : Value → Prop} (s : Pure P ng k args Q) (hc : cleanA2 args = true) {h : List (Nat × Obj)} {ns : List Nat} {K : Value → List (Nat × Obj) → List Nat → Prop}
    (hK : ∀ v, Q v → K v h ns) : Spec P ng k args h ns K := by
  intro f w args' hB hA
  let f0 : NM := fun g => if g < ng then some g else none
  have hf0 : ∀ n b, f0 n = some b → f n = some b ∧ n < ng := by
    intro n b hn
    simp only [f0] at hn
    split at hn
    · rename_i hlt; cases hn; exact ⟨hB.glob n hlt, hlt⟩
    · cases hn
  have hB0 : Before ng f0 [] sup w := by
    refine ⟨fun n m b h1 h2 => hB.inj n m b (hf0 n b h1).1 (hf0 m b h2).1, fun n b h1 => hB.lt n b (hf0 n b h1).1, fun g hg => by simp [f0, hg], fun x hx m hm => ?_, sup_asc, fun n o ho => by cases ho⟩
    have := sup_low x hx
    simp only [f0]
    rw [if_neg (by omega)]
  refine (s f0 w args' hB0 (cleanA2_AR hc hA)).mono ?_
  rintro e w' ⟨v, v', h', ns', g, rfl, ⟨hq, hcv⟩, hAf⟩
  have hfar : ∀ b, b < w.heap.size → w'.heap[b]? = w.heap[b]? := fun b hb => hAf.far b hb (fun n o ho => by cases ho)
  refine ⟨v, v', h, ns, f, rfl, hK v hq, { le := NM.le.refl f, inj := hB.inj, lt := fun n b h1 => Nat.lt_of_lt_of_le (hB.lt n b h1) hAf.grow, val := ?_, sees := ?_, own := fun n o b h1 h2 => Or.inl ⟨n, o, h1, h2⟩, new := fun n b h1 => Or.inl h1, far := fun b hb _ => hfar b hb, top := hB.top, asc := hB.asc, low := fun x hx => ⟨x, hx, Nat.le_refl _⟩, grow := hAf.grow, os := hAf.os, tape := hAf.tape, out := hAf.out }⟩
  · rw [clean_eq hcv hAf.val]; exact clean_VR f hcv
  · intro n o ho
    obtain ⟨b, o', h1, h2, h3⟩ := hB.sees n o ho
    exact ⟨b, o', h1, by rw [hfar b (hB.lt n b h1)]; exact h2, h3⟩
theorem CallG.pure {P : Program} {ng k : Nat} {args : List Value} {Q : Value → Prop} {h : List (Nat × Obj)} {ns : List Nat} {K : Value → List (Nat × Obj) → List Nat → Prop}
    (s : Pure P ng k args Q) (hp : Plain P k) (hc : cleanA2 args = true) (hng : ng ≤ 1000) (hK : ∀ v, Q v → K v h ns) : CallG P ng k args h ns K := .mk hp (s.spec hng hc hK)
theorem CallG.val {P : Program} {ng k : Nat} {args : List Value} {V : Value} {h : List (Nat × Obj)} {ns : List Nat} {K : Value → List (Nat × Obj) → List Nat → Prop}
    (s : Pure P ng k args (· = V)) (hp : Plain P k) (hc : cleanA2 args = true) (hng : ng ≤ 1000) (hK : K V h ns) : CallG P ng k args h ns K := .pure s hp hc hng fun v hv => by subst hv; exact hK
theorem CallG.body {P : Program} {tt : List (Nat × TK)} (hT : TKok P tt) (hm : P.follows .mixedOrders = true) {ng k lo : Nat} {fn : Func} {code : Code} (hf : P.funcs[k]? = some fn) (hname : (fn.name == "runtime.NumGoroutine") = false) (hb : fn.body = some code)
    {args : List Value} {h : List (Nat × Obj)} {ns : List Nat} {K : Value → List (Nat × Obj) → List Nat → Prop} (hn : args.length ≤ fn.ntmps)
    (H : startG args fun t => wpG P fn.ntmps ng lo tt code (retG tt fn.results.toList K) ⟨t, h, lo :: ns⟩) : CallG P ng k args h (lo :: ns) K := .mk ⟨fn, hf, hname, by rw [hb]; rfl⟩ (Spec.of_body hT hm hf hb hn H)
theorem Pure.body {P : Program} {tt : List (Nat × TK)} (hT : TKok P tt) (hm : P.follows .mixedOrders = true) {ng k : Nat} {fn : Func} {code : Code} (hf : P.funcs[k]? = some fn) (hb : fn.body = some code)
    {args : List Value} {Q : Value → Prop} (hn : args.length ≤ fn.ntmps)
    (H : startG args fun t => wpG P fn.ntmps ng 1000 tt code (retG tt fn.results.toList fun v _ _ => Q v ∧ clean v = true) ⟨t, [], sup⟩) : Pure P ng k args Q := Spec.of_body hT hm hf hb hn H
theorem Plain.of {P : Program} {k : Nat} {fn : Func} {code : Code} (hf : P.funcs[k]? = some fn) (h1 : (fn.name == "runtime.NumGoroutine") = false) (hb : fn.body = some code) : Plain P k := ⟨fn, hf, h1, by rw [hb]; rfl⟩
theorem Pure.calls {P : Program} {k : Nat} {args : List Value} {V : Value} (s : Pure P 0 k args (· = V)) (hc : cleanA2 args = true) (w : World) :
    Calls P k ⟨args⟩ w fun e w' => e = .returned V ∧ Go.RowKit.Below w.heap.size w w' := by
  have hB : Before 0 (fun _ => none) [] sup w := ⟨fun n m b h => (by cases h), fun n b h => (by cases h), fun g hg => (by omega), fun x hx m hm => rfl, sup_asc, fun n o h => (by cases h)⟩
  have hA : AR (fun _ => none) ⟨args⟩ ⟨args⟩ := by
    refine ⟨rfl, fun i v v' a b => ?_⟩
    rw [a] at b; cases b
    exact clean_VR _ (cleanA2_mem hc v (by have := Array.mem_of_getElem? a; simpa using this))
  refine (s _ w _ hB hA).mono ?_
  rintro e w' ⟨v, v', h', ns', g, rfl, ⟨rfl, hcv⟩, hAf⟩
  exact ⟨by rw [clean_eq hcv hAf.val], ⟨hAf.os, hAf.tape, hAf.out, hAf.grow, fun b hb => hAf.far b hb (fun n o ho => (by cases ho))⟩⟩
theorem both_intro {A B : Prop} (a : A) (b : B) : both A B := ⟨a, b⟩
end Go.Proofs.Ytkoabiahebakjaa

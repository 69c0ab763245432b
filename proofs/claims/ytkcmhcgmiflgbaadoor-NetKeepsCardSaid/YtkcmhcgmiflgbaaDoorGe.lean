/- Runs over a small memory with names: code, loops, calls. -/
import Derived.Test.YtkcmhcgmiflgbaaDoorGd
import Derived.LoopN
namespace Go.Proofs.YtkcmhcgmiflgbaaDoor
open Go

/-- whoever stands in another's way waits for it -/
def upto : Nat → Nat → List Nat
  | 0, _ => []
  | n + 1, i => i :: upto n (i + 1)
theorem upto_mem {n : Nat} : ∀ {i j : Nat}, j ∈ upto n i ↔ i ≤ j ∧ j < i + n := by
  induction n with
  | zero => intro i j; simp only [upto, List.not_mem_nil, false_iff]; omega
  | succ n ih => intro i j; simp only [upto, List.mem_cons, ih]; omega
theorem upto_nodup {n : Nat} : ∀ {i : Nat}, (upto n i).Nodup := by
  induction n with
  | zero => intro i; simp [upto]
  | succ n ih => intro i; simp only [upto, List.nodup_cons]; exact ⟨fun h => by have := (upto_mem.1 h).1; omega, ih⟩
def chkAll (ops : Array Oper) : Bool := chkPairs ops

/-- less is known, by other names -/
def Wk (lo : Nat) (S S' : St) : Prop := ∀ c f a w, c.lo = lo → c.ng ≤ lo → Sat c f S a w → ∃ f', Sat c f' S' a w ∧ ∀ b, f.ow b = none → f'.ow b = none
theorem Wk.refl (lo : Nat) (S : St) : Wk lo S S := fun _ f _ _ _ _ h => ⟨f, h, fun _ h => h⟩
theorem Wk.trans {lo : Nat} {S S' S'' : St} (h : Wk lo S S') (k : Wk lo S' S'') : Wk lo S S'' := fun c f a w hl hg hs => by
  obtain ⟨f', h1, o1⟩ := h c f a w hl hg hs
  obtain ⟨f2, h2, o2⟩ := k c f' a w hl hg h1
  exact ⟨f2, h2, fun b hb => o2 b (o1 b hb)⟩

/-- so many rounds -/
def roundsG (body : (Exit → St → Prop) → St → Prop) (Q : Exit → St → Prop) : Nat → St → Prop
  | 0, _ => False
  | n + 1, S => body (fun e S' => match e with
    | .normal => roundsG body Q n S'
    | e => Q e S') S
inductive LoopG (lo : Nat) (body : (Exit → St → Prop) → St → Prop) (Q : Exit → St → Prop) (S : St) : Prop
  | mk {ι : Type} (st : ι → St) (μ : ι → Nat) (i0 : ι) : Wk lo S (st i0) →
      (∀ i, body (fun e S' => match e with | .normal => ∃ j, μ j < μ i ∧ Wk lo S' (st j) | e => Q e S') (st i)) → LoopG lo body Q S
  | unroll (n : Nat) : roundsG body Q n S → LoopG lo body Q S

structure Tag (id : Nat) (p : Prop) : Prop where
  out : p
/-- a region: as it is, or ways that come together again -/
inductive JoinG (lo id : Nat) (reg : (St → Prop) → St → Prop) (K : St → Prop) (S : St) : Prop
  | direct : reg K S → JoinG lo id reg K S
  | join (S1 : St) : (∀ T : St → Prop, (∀ S', Wk lo S' S1 → T S') → reg (fun S' => Tag id (T S')) S) → K S1 → JoinG lo id reg K S
def hasG : List Oper → Bool
  | [] => false
  | o :: r => match o.guard with
    | some _ => true
    | none => hasG r
section defs
variable (P : Program) (N ng lo : Nat) (tt : List (Nat × TK))
def wpG : Code → (Exit → St → Prop) → St → Prop
  | .skip, Q, S => Q .normal S
  | .region id ops dr, Q, S => match dr with
    | false => match hasG ops.toList with
      | true => JoinG lo id (regionG P N ng tt ops.toList ops.toList) (fun S' => Q .normal S') S
      | false => regionG P N ng tt ops.toList ops.toList (fun S' => Q .normal S') S
    | true => chkAll ops = true ∧ JoinG lo id (regionD P N ng tt ops.toList ops.size [] (upto ops.size 0) []) (fun S' => Q .normal S') S
  | .seq a b, Q, S => wpG a (fun e S' => match e with | .normal => wpG b Q S' | e => Q e S') S
  | .cond c a b, Q, S => match evalG ng S c with
    | some (.bool t) => bif2 t (wpG a Q S) (wpG b Q S)
    | _ => False
  | .block i c, Q, S => wpG c (fun e S' => match e with
    | .exit j => match Nat.beq j i with
      | true => Q .normal S'
      | false => Q (.exit j) S'
    | e => Q e S') S
  | .loop c, Q, S => LoopG lo (wpG c) Q S
  | .exit i, Q, S => Q (.exit i) S
  | .label _, Q, S => Q .normal S
  | .ret, Q, S => Q .ret S
  | _, _, _ => False
end defs
theorem wpG_mono {_ : Program} {_ _ _ : Nat} {_ : List (Nat × TK)} : True := trivial
def LiftQ (c : Cx) (Q : Exit → St → Prop) (e : Exit) (a : Act) (w : World) : Prop := ∃ S f, Q e S ∧ Sat c f S a w
theorem wpG_sound {P : Program} {tt : List (Nat × TK)} (hT : TKok P tt) (hm : P.follows .mixedOrders = true) {c : Cx} (hng : c.ng ≤ c.lo) : ∀ (code : Code) (Q : Exit → St → Prop) (S : St) (f : NM) (a : Act) (w : World),
    Sat c f S a w → wpG P c.N c.ng c.lo tt code Q S → code.wp P (LiftQ c Q) a w := by
  intro code
  induction code with
  | skip => intro Q S f a w H h; exact wp_skip ⟨S, f, h, H⟩
  | region id ops dr =>
    intro Q S f a w H h
    cases dr with
    | false =>
      have go : ∀ K : St → Prop, (∀ a w, Lift c K a w → LiftQ c Q .normal a w) → regionG P c.N c.ng tt ops.toList ops.toList K S → (Code.region id ops false).wp P (LiftQ c Q) a w := fun K hK h =>
        wp_region_list (regionG_sound hT (ops := ops) (K := K) (Q := LiftQ c Q) hK ops.toList H h)
      simp only [wpG] at h
      split at h
      · cases h with
        | direct h2 => exact go _ (fun a w hl => hl) h2
        | join S1 h2 h3 =>
          refine go _ ?_ (h2 (fun S' => Wk c.lo S' S1) fun _ h => h)
          rintro a' w' ⟨S', f', q1, q2⟩
          obtain ⟨f2, q3, _⟩ := q1.out c f' a' w' rfl hng q2
          exact ⟨S1, f2, h3, q3⟩
      · exact go _ (fun a w hl => hl) h
    | true =>
      obtain ⟨h1, h2⟩ := h
      refine wp_region_any hm ?_
      have hs := H.drawn (w.drawn + 1) (Nat.le_succ _)
      have go : ∀ K : St → Prop, (∀ a w, Lift c K a w → LiftQ c Q .normal a w) → regionD P c.N c.ng tt ops.toList ops.size [] (upto ops.size 0) [] K S →
          wpAny P .any ops (LiftQ c Q) ops.size (Array.replicate ops.size false) a { w with drawn := w.drawn + 1 } := by
        intro K hK h2
        refine regionD_any hT h1 (K := K) (Q := LiftQ c Q) hK ops.size ops.size (upto ops.size 0) [] [] S f _ a _ ?_ trivial ?_ (fun i hi => by cases hi) (fun i _ hi => by cases hi) upto_nodup h2 ?_
        · refine ⟨{ hs with tms := fun k v h => (by cases h) }, fun k v hk _ => hs.tms k v hk, by simp, fun i hi h => ?_, fun i hi => (by cases hi), fun i hi => (by cases hi)⟩
          simp [Array.getD_eq_getD_getElem?, hi] at h
        · intro i hi
          right
          exact upto_mem.2 ⟨Nat.zero_le _, by omega⟩
        · unfold unl
          refine Nat.le_trans (List.length_filter_le _ _) ?_
          simp
      cases h2 with
      | direct h2 => exact go _ (fun a w hl => hl) h2
      | join S1 h2 h3 =>
        refine go _ ?_ (h2 (fun S' => Wk c.lo S' S1) fun _ h => h)
        rintro a' w' ⟨S', f', q1, q2⟩
        obtain ⟨f2, q3, _⟩ := q1.out c f' a' w' rfl hng q2
        exact ⟨S1, f2, h3, q3⟩
  | seq x y ihx ihy =>
    intro Q S f a w H h
    refine wp_seq (Code.wp_mono ?_ (ihx _ S f a w H h))
    rintro e a' w' ⟨S', f', h1, h2⟩
    cases e with
    | normal => exact ihy Q S' f' a' w' h2 h1
    | _ => exact ⟨S', f', h1, h2⟩
  | cond x p q ihp ihq =>
    intro Q S f a w H h
    simp only [wpG] at h
    split at h
    · rename_i t ht
      have h0 := H.ev.eval ht
      have h1 : a.eval x = .bool t := by
        generalize a.eval x = z at h0
        cases h0; rfl
      cases t with
      | true => exact wp_cond_true h1 (ihp Q S f a w H h)
      | false => exact wp_cond_false h1 (ihq Q S f a w H h)
    · exact h.elim
  | block id b ih =>
    intro Q S f a w H h
    refine wp_block (Code.wp_mono ?_ (ih _ S f a w H h))
    rintro e a' w' ⟨S', f', h1, h2⟩
    cases e with
    | exit j =>
      simp only at h1
      simp only [Exit.inBlock]
      split at h1
      · rename_i e; rw [if_pos (Nat.eq_of_beq_eq_true e)]; exact ⟨S', f', h1, h2⟩
      · rename_i e
        rw [if_neg (fun hh => by rw [hh] at e; simp at e)]; exact ⟨S', f', h1, h2⟩
    | _ => exact ⟨S', f', h1, h2⟩
  | loop b ih =>
    intro Q S f a w H h
    cases h with
    | mk st μ i0 h0 hround =>
      obtain ⟨f0, hs0, _⟩ := h0 c f a w rfl hng H
      have key : ∀ n i f a w, μ i < n → Sat c f (st i) a w → Code.rounds P b (LiftQ c Q) n a w := by
        intro n
        induction n with
        | zero => intro i f a w hn; omega
        | succ n ihn =>
          intro i f a w hn hs
          rw [rounds_succ]
          refine Code.wp_mono ?_ (ih _ (st i) f a w hs (hround i))
          rintro e a' w' ⟨S', f', h1, h2⟩
          cases e with
          | normal =>
            obtain ⟨j, h3, h4⟩ := h1
            obtain ⟨f2, h5, _⟩ := h4 c f' a' w' rfl hng h2
            exact ihn j f2 a' w' (by omega) h5
          | _ => exact ⟨S', f', h1, h2⟩
      exact wp_loop_rounds _ (key (μ i0 + 1) i0 f0 a w (by omega) hs0)
    | unroll n hr =>
      have key : ∀ n S f a w, Sat c f S a w → roundsG (wpG P c.N c.ng c.lo tt b) Q n S → Code.rounds P b (LiftQ c Q) n a w := by
        intro n
        induction n with
        | zero => intro S f a w hs h; exact h.elim
        | succ n ihn =>
          intro S f a w hs h
          rw [rounds_succ]
          refine Code.wp_mono ?_ (ih _ S f a w hs h)
          rintro e a' w' ⟨S', f', h1, h2⟩
          cases e with
          | normal => exact ihn S' f' a' w' h2 h1
          | _ => exact ⟨S', f', h1, h2⟩
      exact wp_loop_rounds n (key n S f a w H hr)
  | exit id => intro Q S f a w H h; exact wp_exit ⟨S, f, h, H⟩
  | label l => intro Q S f a w H h; exact wp_label ⟨S, f, h, H⟩
  | ret => intro Q S f a w H h; exact wp_ret ⟨S, f, h, H⟩
  | rangeFunc => intro Q S f a w H h; exact h.elim
  | scope => intro Q S f a w H h; exact h.elim
  | goto => intro Q S f a w H h; exact h.elim
  | refuse => intro Q S f a w H h; exact h.elim
end Go.Proofs.YtkcmhcgmiflgbaaDoor
namespace Go.Proofs.YtkcmhcgmiflgbaaDoor
open Go

/-- what is known of types, row by row -/
def TK1 (P : Program) (t : Nat) (i : TK) : Prop :=
  P.underlying t = some i.desc ∧ (P.info? t).map (fun j => (j.size, j.bytes, j.zero)) = some (i.size, i.bytes, some i.zero) ∧
    (i.ks = [] ∨ (leaves P 6 t = some i.ks ∧ named P 6 t = true ∧ aggT P t = true ∧ P.eqGuardType P.depth t = false))
theorem TKok.nil (P : Program) : TKok P [] := fun t i h => by cases h
theorem TKok.cons {P : Program} {t : Nat} {i : TK} {r : List (Nat × TK)} (h : TK1 P t i) (hr : TKok P r) : TKok P ((t, i) :: r) := by
  intro u j hu
  rw [look_cons] at hu
  by_cases e : t = u
  · subst e
    rw [if_pos rfl] at hu; cases hu
    obtain ⟨h1, h2, h3⟩ := h
    refine ⟨h1, ?_, ?_⟩
    · cases hi : P.info? t with
      | none => rw [hi] at h2; simp at h2
      | some k =>
        rw [hi] at h2
        simp only [Option.map_some, Option.some.injEq, Prod.mk.injEq] at h2
        exact ⟨k, rfl, h2.1, h2.2.1, h2.2.2⟩
    · intro hne
      rcases h3 with h3 | h3
      · exact absurd h3 hne
      · exact h3
  · rw [if_neg e] at hu; exact hr u j hu

/-- the slots of a call's arguments -/
def argT : Nat → List Value → List (Nat × Value)
  | _, [] => []
  | k, v :: r => (k, v) :: argT (k + 1) r
def startG (l : List Value) (K : List (Nat × Value) → Prop) : Prop := match l with
  | [] => K []
  | [a] => K [(0, a)]
  | [a, b] => K [(0, a), (1, b)]
  | [a, b, c] => K [(0, a), (1, b), (2, c)]
  | [a, b, c, d] => K [(0, a), (1, b), (2, c), (3, d)]
  | [a, b, c, d, e] => K [(0, a), (1, b), (2, c), (3, d), (4, e)]
  | [a, b, c, d, e, f] => K [(0, a), (1, b), (2, c), (3, d), (4, e), (5, f)]
  | [a, b, c, d, e, f, g] => K [(0, a), (1, b), (2, c), (3, d), (4, e), (5, f), (6, g)]
  | l => K (argT 0 l)
theorem startG_eq (l : List Value) (K : List (Nat × Value) → Prop) : startG l K = K (argT 0 l) := by
  unfold startG
  split <;> rfl
theorem argT_look : ∀ (l : List Value) (k n : Nat) (v : Value), look (argT k l) n = some v → k ≤ n ∧ l[n - k]? = some v := by
  intro l
  induction l with
  | nil => intro k n v h; cases h
  | cons x l ih =>
    intro k n v h
    simp only [argT, look_cons] at h
    by_cases e : k = n
    · subst e; rw [if_pos rfl] at h; cases h; simp
    · rw [if_neg e] at h
      obtain ⟨h1, h2⟩ := ih (k + 1) n v h
      refine ⟨by omega, ?_⟩
      rw [show n - k = (n - (k + 1)) + 1 by omega]
      simpa using h2

/-- what is handed back -/
def resV (tt : List (Nat × TK)) (S : St) : List ResultVar → Option (List Value)
  | [] => some []
  | .tmp t :: r => match look S.t t with
    | some v => match resV tt S r with
      | some l => some (v :: l)
      | none => none
    | none => none
  | .cell x ty :: r => match look S.t x, look tt ty with
    | some (.pointer (some ⟨n, off, none⟩)), some i => match look S.h n with
      | some (.rw (.cells c _ _)) => match partG i c off with
        | some v => match resV tt S r with
          | some l => some (v :: l)
          | none => none
        | none => none
      | _ => none
    | _, _ => none
def packV : List Value → Value
  | [v] => v
  | l => .tuple ⟨l⟩
def retG (tt : List (Nat × TK)) (rs : List ResultVar) (K : Value → List (Nat × GO) → List Nat → Prop) (e : Exit) (S : St) : Prop :=
  match e, S with
  | .ret, ⟨t, h, n⟩ => match resV tt ⟨t, h, n⟩ rs with
    | some [v] => K v h n
    | some l => K (.tuple ⟨l⟩) h n
    | none => False
  | .normal, ⟨t, h, n⟩ => match resV tt ⟨t, h, n⟩ rs with
    | some [v] => K v h n
    | some l => K (.tuple ⟨l⟩) h n
    | none => False
  | _, _ => False
def resOne (a : Array Value) : ResultVar → Sem Value
  | .tmp t => pure (a.getD t undef)
  | .cell x t => do loadVar t (← asAddr (a.getD x undef))
theorem results_eq (fn : Func) (a : Array Value) : results fn a = (do
    let vs ← fn.results.mapM (resOne a)
    pure (if h : vs.size = 1 then vs[0] else .tuple vs)) := by
  unfold results
  congr 1
theorem resV_ok {P : Program} {tt : List (Nat × TK)} (hT : TKok P tt) {c : Cx} {f : NM} {S : St} {a : Act} {w : World} (H : Sat c f S a w) : ∀ (rs : List ResultVar) (l : List Value), resV tt S rs = some l →
    ∃ l' : List Value, AR f ⟨l⟩ ⟨l'⟩ ∧ (rs.mapM (m := Sem) (resOne a.tmps)).run P w = .ok l' w := by
  intro rs
  induction rs with
  | nil => intro l h; cases h; exact ⟨[], AR.nil f, rfl⟩
  | cons r rs ih =>
    intro l h
    have fin : ∀ {v v' : Value} {l : List Value} {x : Sem Value}, VR f v v' → x.run P w = .ok v' w → resV tt S rs = some l → ∃ l' : List Value, AR f ⟨v :: l⟩ ⟨l'⟩ ∧ (x >>= fun y => (rs.mapM (m := Sem) (resOne a.tmps)) >>= fun ys => pure (y :: ys)).run P w = .ok l' w := by
      intro v v' l x hv hx hl
      obtain ⟨l', h1, h2⟩ := ih l hl
      refine ⟨v' :: l', ?_, ?_⟩
      · have := (AR.one hv).append h1
        simpa using this
      · simp only [Sem.run_bind, hx, Result.andThen_ok]
        rw [h2]
        rfl
    cases r with
    | tmp t =>
      simp only [resV] at h
      split at h
      · rename_i v hv
        split at h
        · rename_i l0 hl0
          cases h
          obtain ⟨v', h1, h2⟩ := H.tms t v hv
          rw [List.mapM_cons]
          exact fin h2 (by simp [resOne, Array.getD_eq_getD_getElem?, h1]) hl0
        · cases h
      · cases h
    | cell x ty =>
      simp only [resV] at h
      split at h
      · rename_i n off i hx hi
        split at h
        · rename_i cs ct cf hn
          split at h
          · rename_i v hv
            split at h
            · rename_i l0 hl0
              cases h
              obtain ⟨x', h1, h2⟩ := H.tms x _ hx
              cases h2 with
              | ptr hf =>
                rename_i b
                obtain ⟨o', _, g2, g3⟩ := H.sees n _ hn b hf
                obtain ⟨v', k1, k2⟩ := (loadAcc_ok hT hi (v := .pointer (some ⟨n, off, none⟩)) rfl (.ptr hf)).2 b _ o' w v hf g2 g3 hv
                rw [List.mapM_cons]
                refine fin k1 ?_ hl0
                simp only [Instr.loadAt, Instr.sureAddr, pure_bind] at k2
                simp [resOne, Array.getD_eq_getD_getElem?, h1, asAddr, k2]
            · cases h
          · cases h
        · cases h
      · cases h
theorem packV_ok {f : NM} {l l' : List Value} (h : AR f ⟨l⟩ ⟨l'⟩) : VR f (packV l) (if h : (⟨l'⟩ : Array Value).size = 1 then (⟨l'⟩ : Array Value)[0] else .tuple ⟨l'⟩) := by
  have hl : l.length = l'.length := by have := h.1; simpa using this
  match l, l', hl, h with
  | [], [], _, h => exact h.tuple
  | [x], [y], _, h => exact h.2 0 x y (by simp) (by simp)
  | a :: b :: r, a' :: b' :: r', _, h =>
    rw [dif_neg (by simp)]
    exact h.tuple

/-- a call's contract out of its body -/
theorem Spec.of_body {P : Program} {tt : List (Nat × TK)} (hT : TKok P tt) (hm : P.follows .mixedOrders = true) {ng k lo : Nat} {fn : Func} {code : Code} (hf : P.funcs[k]? = some fn) (hb : fn.body = some code)
    {args : List Value} {h : List (Nat × GO)} {ns : List Nat} {K : Value → List (Nat × GO) → List Nat → Prop} (hn : args.length ≤ fn.ntmps)
    (H : startG args fun t => wpG P fn.ntmps ng lo tt code (retG tt fn.results.toList K) ⟨t, h, lo :: ns⟩) : Spec P ng k args h (lo :: ns) K := by
  rw [startG_eq] at H
  intro f w args' hB hA
  refine calls_of_wp hf hb ?_
  have hlen : args'.size = args.length := by have := hA.1; simpa using this.symm
  let c : Cx := ⟨f, w, fn.ntmps, ng, lo, []⟩
  have hS : Sat c f ⟨argT 0 args, h, lo :: ns⟩ { tmps := args' ++ Array.replicate (fn.ntmps - args'.size) undef, defers := [] } w := by
    refine { lt := hB.lt, glob := hB.glob, top := hB.top, asc := hB.asc, low := ?_, f0lo := fun m hm => hB.top lo (by simp) m hm, sees := hB.sees, owx := fun b n h1 => ⟨Or.inl ⟨n, h1, Nat.le_refl _⟩, hB.owx b n h1⟩, kp := fun _ n h => ⟨n, h, Nat.le_refl _⟩, ol := hB.ol, olo := fun b n h1 => hB.ol b n h1 lo (by simp), tms := ?_, size := ?_, defers := rfl, ext := NM.le.refl f, new := fun n b h => Or.inl ⟨n, h⟩, far := fun _ _ _ => rfl, grow := Nat.le_refl _, os := rfl, tape := rfl, out := rfl, dr := Nat.le_refl _ }
    · intro x hx
      rcases List.mem_cons.1 hx with rfl | hx
      · exact Nat.le_refl _
      · exact Nat.le_of_lt ((List.pairwise_cons.1 hB.asc).1 x hx)
    · intro k v hk
      obtain ⟨_, h2⟩ := argT_look args 0 k v hk
      obtain ⟨v', h3, h4⟩ := hA.get (i := k) (v := v) (by simpa using h2)
      refine ⟨v', ?_, h4⟩
      rw [Array.getElem?_append_left (Array.getElem?_eq_some_iff.1 h3).1]
      exact h3
    · simp only [Array.size_append, Array.size_replicate]
      show args'.size + (fn.ntmps - args'.size) = fn.ntmps
      omega
  have hng : c.ng ≤ c.lo := by
    rcases Nat.lt_or_ge lo ng with h | h
    · have h1 := hB.glob lo h
      rw [hB.top lo (by simp) lo (Nat.le_refl _)] at h1; cases h1
    · exact h
  refine Code.wp_mono ?_ (wpG_sound hT hm (c := c) hng code _ _ f _ w hS H)
  rintro e a' w' ⟨S', g, hR, hs⟩
  have fin : ∀ l : List Value, resV tt S' fn.results.toList = some l → K (packV l) S'.h S'.n → a'.defers = [] ∧ ∃ v, (results fn a'.tmps).run P w' = .ok v w' ∧ ∃ v₁ v' h' ns' g, Ending.returned v = .returned v' ∧ K v₁ h' ns' ∧ After f h (lo :: ns) w g v₁ v' h' ns' w' := by
    intro l hl hK
    obtain ⟨l', h1, h2⟩ := resV_ok hT hs fn.results.toList l hl
    refine ⟨hs.defers, (if h : (⟨l'⟩ : Array Value).size = 1 then (⟨l'⟩ : Array Value)[0] else .tuple ⟨l'⟩), ?_, packV l, _, S'.h, S'.n, g, rfl, hK, ?_⟩
    · rw [results_eq, Array.mapM_eq_mapM_toList]
      simp only [Sem.run_bind, Sem.run_map, h2, Result.andThen_ok, Sem.run_pure]
    · exact { le := hs.ext, lt := hs.lt, val := packV_ok h1, sees := hs.sees, owx := hs.owx, kp := hs.kp, ol := hs.ol,
              new := hs.new, far := hs.far, top := hs.top, asc := hs.asc, low := fun x hx => ⟨lo, by simp, hs.low x hx⟩, grow := hs.grow, os := hs.os, tape := hs.tape, out := hs.out, dr := hs.dr }
  cases e with
  | ret =>
    obtain ⟨t, hh, n⟩ := S'
    simp only [retG] at hR
    split at hR
    · rename_i v hl; exact fin [v] hl hR
    · rename_i l hne hl
      refine fin l hl ?_
      have e : packV l = .tuple ⟨l⟩ := by
        unfold packV
        split
        · rename_i v; exact absurd rfl (hne v)
        · rfl
      rw [e]; exact hR
    · exact hR.elim
  | normal =>
    obtain ⟨t, hh, n⟩ := S'
    simp only [retG] at hR
    split at hR
    · rename_i v hl; exact fin [v] hl hR
    · rename_i l hne hl
      refine fin l hl ?_
      have e : packV l = .tuple ⟨l⟩ := by
        unfold packV
        split
        · rename_i v; exact absurd rfl (hne v)
        · rfl
      rw [e]; exact hR
    · exact hR.elim
  | _ => exact hR.elim
end Go.Proofs.YtkcmhcgmiflgbaaDoor
namespace Go.Proofs.YtkcmhcgmiflgbaaDoor
open Go

theorem clean1_eq {v v' : Value} {f : NM} (h : clean1 v = true) (hv : VR f v v') : v' = v := by
  cases hv with
  | @func k x x' y y' a _ b _ =>
    obtain ⟨x⟩ := x
    obtain ⟨y⟩ := y
    cases x <;> cases y <;> simp [clean1] at h
    have e1 : x' = #[] := Array.eq_empty_of_size_eq_zero (by simpa using a.symm)
    have e2 : y' = #[] := Array.eq_empty_of_size_eq_zero (by simpa using b.symm)
    rw [e1, e2]
  | _ => first | rfl | (simp [clean1] at h)
theorem cleanL_eq {f : NM} {l : List Value} {c : Array Value} (h : cleanL l = true) (hv : AR f ⟨l⟩ c) : c = ⟨l⟩ := by
  apply Array.ext_getElem?
  intro i
  cases hi : c[i]? with
  | none =>
    have : c.size ≤ i := by simpa using hi
    have h2 := hv.1
    rw [Array.getElem?_eq_none (by rw [h2]; exact this)]
  | some u =>
    obtain ⟨v, h1, h2⟩ := hv.get' hi
    have hm : v ∈ l := by have := Array.mem_of_getElem? h1; simpa using this
    rw [clean1_eq (cleanL_all h v hm) h2, h1]
theorem cleanE_eq {v v' : Value} {f : NM} (h : cleanE v = true) (hv : VR f v v') : v' = v := by
  cases hv with
  | agg a b =>
    rename_i x x'
    obtain ⟨x⟩ := x
    rw [cleanL_eq (by simpa [cleanE] using h) ⟨a, b⟩]
  | _ => exact clean1_eq (f := f) (by simpa [cleanE] using h) (by constructor <;> assumption)
theorem cleanT_eq {f : NM} {l : List Value} {c : Array Value} (h : cleanT l = true) (hv : AR f ⟨l⟩ c) : c = ⟨l⟩ := by
  apply Array.ext_getElem?
  intro i
  cases hi : c[i]? with
  | none =>
    have : c.size ≤ i := by simpa using hi
    have h2 := hv.1
    rw [Array.getElem?_eq_none (by rw [h2]; exact this)]
  | some u =>
    obtain ⟨v, h1, h2⟩ := hv.get' hi
    have hm : v ∈ l := by have := Array.mem_of_getElem? h1; simpa using this
    rw [cleanE_eq (cleanT_all h v hm) h2, h1]
theorem clean_eq {v v' : Value} {f : NM} (h : clean v = true) (hv : VR f v v') : v' = v := by
  cases hv with
  | tuple a b =>
    rename_i x x'
    obtain ⟨x⟩ := x
    rw [cleanT_eq (by simpa [clean] using h) ⟨a, b⟩]
  | _ => exact cleanE_eq (f := f) (by simpa [clean] using h) (by constructor <;> assumption)
/-- values that are structs or arrays of plain values, too -/
def cleanA2 : List Value → Bool
  | [] => true
  | v :: r => match clean v with
    | true => cleanA2 r
    | false => false
theorem cleanA2_mem {l : List Value} (h : cleanA2 l = true) : ∀ v ∈ l, clean v = true := by
  induction l with
  | nil => intro v hv; cases hv
  | cons x l ih =>
    intro v hv
    cases e : clean x with
    | false => simp [cleanA2, e] at h
    | true =>
      simp [cleanA2, e] at h
      rcases List.mem_cons.1 hv with rfl | h'
      · exact e
      · exact ih h v h'
theorem cleanA2_AR {f g : NM} {l : List Value} {c : Array Value} (h : cleanA2 l = true) (hv : AR f ⟨l⟩ c) : AR g ⟨l⟩ c := by
  refine ⟨hv.1, fun i v v' a b => ?_⟩
  have hm : v ∈ l := by have := Array.mem_of_getElem? a; simpa using this
  have hc := cleanA2_mem h v hm
  rw [clean_eq hc (hv.2 i v v' a b)]
  exact clean_VR g hc

def sup : List Nat := 1000 :: 1001 :: 1002 :: 1003 :: 1004 :: 1005 :: 1006 :: 1007 :: 1008 :: 1009 :: 1010 :: 1011 :: 1012 :: 1013 :: 1014 :: 1015 :: 1016 :: 1017 :: 1018 :: 1019 :: 1020 :: 1021 :: 1022 :: 1023 :: 1024 :: 1025 :: 1026 :: 1027 :: 1028 :: 1029 :: 1030 :: 1031 :: 1032 :: 1033 :: 1034 :: 1035 :: 1036 :: 1037 :: 1038 :: 1039 :: 1040 :: 1041 :: 1042 :: 1043 :: 1044 :: 1045 :: 1046 :: 1047 :: 1048 :: 1049 :: 1050 :: 1051 :: 1052 :: 1053 :: 1054 :: 1055 :: 1056 :: 1057 :: 1058 :: 1059 :: 1060 :: 1061 :: 1062 :: 1063 :: 1064 :: 1065 :: 1066 :: 1067 :: 1068 :: 1069 :: 1070 :: 1071 :: 1072 :: 1073 :: 1074 :: 1075 :: 1076 :: 1077 :: 1078 :: 1079 :: 1080 :: 1081 :: 1082 :: 1083 :: 1084 :: 1085 :: 1086 :: 1087 :: 1088 :: 1089 :: 1090 :: 1091 :: 1092 :: 1093 :: 1094 :: 1095 :: 1096 :: 1097 :: 1098 :: 1099 :: 1100 :: 1101 :: 1102 :: 1103 :: 1104 :: 1105 :: 1106 :: 1107 :: 1108 :: 1109 :: 1110 :: 1111 :: 1112 :: 1113 :: 1114 :: 1115 :: 1116 :: 1117 :: 1118 :: 1119 :: []
theorem sup_low : ∀ x ∈ sup, 1000 ≤ x := by decide
theorem sup_asc : sup.Pairwise (· < ·) := by decide
/-- a call that only reckons -/
def Pure (P : Program) (ng : Nat) (k : FuncId) (args : List Value) (Q : Value → Prop) : Prop := Spec P ng k args [] sup fun v _ _ => Q v ∧ clean v = true
theorem Pure.mono {P : Program} {ng k : Nat} {args : List Value} {Q Q' : Value → Prop} (h : Pure P ng k args Q) (hq : ∀ v, Q v → Q' v) : Pure P ng k args Q' :=
  fun f w args' hb ha => (h f w args' hb ha).mono fun _ _ ⟨v, v', h', ns', g, h1, h2, h3⟩ => ⟨v, v', h', ns', g, h1, ⟨hq v h2.1, h2.2⟩, h3⟩
/-- where nothing that was there is turned -/
theorem Holds.kept {f : NM} {w w' : World} {n : Nat} {g : GO} (h : Holds f w n g) (hlt : ∀ n b, f n = some b → b < w.heap.size) (how : ∀ b n, f.ow b = some n → b < w.heap.size) (hfar : ∀ b, b < w.heap.size → w'.heap[b]? = w.heap[b]?) (hg : w.heap.size ≤ w'.heap.size) : Holds f w' n g := by
  cases g with
  | rw o => intro b hb; obtain ⟨o', h2, h3, h4⟩ := h b hb; exact ⟨o', h2, by rw [hfar b (hlt n b hb)]; exact h3, h4⟩
  | ro o => intro b hb; obtain ⟨o', h2, h3, h4⟩ := h b hb; exact ⟨o', h2, by rw [hfar b (hlt n b hb)]; exact h3, h4⟩
  | abs R => obtain ⟨b, F, h1, h2, h3⟩ := h; exact ⟨b, F, h1, h2, R.keeps w w' b F h3 (fun k hk => hfar k (how k n (h2 k hk))) hg⟩
theorem Pure.spec {P : Program} {ng k : Nat} (hng : ng ≤ 1000) {args : List Value} {Q : Value → Prop} (s : Pure P ng k args Q) (hc : cleanA2 args = true) {h : List (Nat × GO)} {ns : List Nat} {K : Value → List (Nat × GO) → List Nat → Prop}
    (hK : ∀ v, Q v → K v h ns) : Spec P ng k args h ns K := by
  intro f w args' hB hA
  let f0 : NM := ⟨fun g => if g < ng then some g else none, fun _ => none⟩
  have hf0 : ∀ n b, f0 n = some b → f n = some b ∧ n < ng := by
    intro n b hn
    simp only [f0] at hn
    split at hn
    · rename_i hlt; cases hn; exact ⟨hB.glob n hlt, hlt⟩
    · cases hn
  have hB0 : Before ng f0 [] sup w := by
    refine ⟨fun n b h1 => hB.lt n b (hf0 n b h1).1, fun g hg => by simp [f0, hg], fun x hx m hm => ?_, sup_asc, fun n o ho => (by cases ho), fun b n h => (by cases h), fun b n h => (by cases h)⟩
    have := sup_low x hx
    simp only [f0]
    rw [if_neg (by omega)]
  refine (s f0 w args' hB0 (cleanA2_AR hc hA)).mono ?_
  rintro e w' ⟨v, v', h', ns', g, rfl, ⟨hq, hcv⟩, hAf⟩
  have hfar : ∀ b, b < w.heap.size → w'.heap[b]? = w.heap[b]? := fun b hb => hAf.far b hb rfl
  refine ⟨v, v', h, ns, f, rfl, hK v hq, { le := NM.le.refl f, lt := fun n b h1 => Nat.lt_of_lt_of_le (hB.lt n b h1) hAf.grow, val := ?_, sees := ?_, owx := fun b n h1 => ⟨Or.inl ⟨n, h1, Nat.le_refl _⟩, Nat.lt_of_lt_of_le (hB.owx b n h1) hAf.grow⟩, kp := fun _ n h => ⟨n, h, Nat.le_refl _⟩, ol := hB.ol, new := fun n b h1 => Or.inl ⟨n, h1⟩, far := fun b hb _ => hfar b hb, top := hB.top, asc := hB.asc, low := fun x hx => ⟨x, hx, Nat.le_refl _⟩, grow := hAf.grow, os := hAf.os, tape := hAf.tape, out := hAf.out, dr := hAf.dr }⟩
  · rw [clean_eq hcv hAf.val]; exact clean_VR f hcv
  · intro n o ho
    exact (hB.sees n o ho).kept hB.lt hB.owx hfar hAf.grow
theorem CallG.pure {P : Program} {ng k : Nat} {args : List Value} {Q : Value → Prop} {h : List (Nat × GO)} {ns : List Nat} {K : Value → List (Nat × GO) → List Nat → Prop}
    (s : Pure P ng k args Q) (hp : Plain P k) (hc : cleanA2 args = true) (hng : ng ≤ 1000) (hK : ∀ v, Q v → K v h ns) : CallG P ng k args h ns K := .mk hp (s.spec hng hc hK)
theorem CallG.val {P : Program} {ng k : Nat} {args : List Value} {V : Value} {h : List (Nat × GO)} {ns : List Nat} {K : Value → List (Nat × GO) → List Nat → Prop}
    (s : Pure P ng k args (· = V)) (hp : Plain P k) (hc : cleanA2 args = true) (hng : ng ≤ 1000) (hK : K V h ns) : CallG P ng k args h ns K := .pure s hp hc hng fun v hv => by subst hv; exact hK
theorem CallG.body {P : Program} {tt : List (Nat × TK)} (hT : TKok P tt) (hm : P.follows .mixedOrders = true) {ng k lo : Nat} {fn : Func} {code : Code} (hf : P.funcs[k]? = some fn) (hname : (fn.name == "runtime.NumGoroutine") = false) (hb : fn.body = some code)
    {args : List Value} {h : List (Nat × GO)} {ns : List Nat} {K : Value → List (Nat × GO) → List Nat → Prop} (hn : args.length ≤ fn.ntmps)
    (H : startG args fun t => wpG P fn.ntmps ng lo tt code (retG tt fn.results.toList K) ⟨t, h, lo :: ns⟩) : CallG P ng k args h (lo :: ns) K := .mk ⟨fn, hf, hname, by rw [hb]; rfl⟩ (Spec.of_body hT hm hf hb hn H)
theorem Pure.body {P : Program} {tt : List (Nat × TK)} (hT : TKok P tt) (hm : P.follows .mixedOrders = true) {ng k : Nat} {fn : Func} {code : Code} (hf : P.funcs[k]? = some fn) (hb : fn.body = some code)
    {args : List Value} {Q : Value → Prop} (hn : args.length ≤ fn.ntmps)
    (H : startG args fun t => wpG P fn.ntmps ng 1000 tt code (retG tt fn.results.toList fun v _ _ => Q v ∧ clean v = true) ⟨t, [], sup⟩) : Pure P ng k args Q := Spec.of_body hT hm hf hb hn H
theorem Plain.of {P : Program} {k : Nat} {fn : Func} {code : Code} (hf : P.funcs[k]? = some fn) (h1 : (fn.name == "runtime.NumGoroutine") = false) (hb : fn.body = some code) : Plain P k := ⟨fn, hf, h1, by rw [hb]; rfl⟩
theorem Pure.calls {P : Program} {k : Nat} {args : List Value} {V : Value} (s : Pure P 0 k args (· = V)) (hc : cleanA2 args = true) (w : World) :
    Calls P k ⟨args⟩ w fun e w' => e = .returned V ∧ Go.RowKit.Below w.heap.size w w' := by
  have hB : Before 0 ⟨fun _ => none, fun _ => none⟩ [] sup w := ⟨fun n b h => (by cases h), fun g hg => (by omega), fun x hx m hm => rfl, sup_asc, fun n o h => (by cases h), fun b n h => (by cases h), fun b n h => (by cases h)⟩
  have hA : AR ⟨fun _ => none, fun _ => none⟩ ⟨args⟩ ⟨args⟩ := by
    refine ⟨rfl, fun i v v' a b => ?_⟩
    rw [a] at b; cases b
    exact clean_VR _ (cleanA2_mem hc v (by have := Array.mem_of_getElem? a; simpa using this))
  refine (s _ w _ hB hA).mono ?_
  rintro e w' ⟨v, v', h', ns', g, rfl, ⟨rfl, hcv⟩, hAf⟩
  exact ⟨by rw [clean_eq hcv hAf.val], ⟨hAf.os, hAf.tape, hAf.out, hAf.grow, fun b hb => hAf.far b hb rfl⟩⟩
theorem both_intro {A B : Prop} (a : A) (b : B) : both A B := ⟨a, b⟩
end Go.Proofs.YtkcmhcgmiflgbaaDoor
namespace Go.Proofs.YtkcmhcgmiflgbaaDoor
open Go

/-- names of old under new ones -/
def NM.of (lo : Nat) (σ : List (Nat × Nat)) : NM := ⟨fun n => match Nat.blt n lo with
  | true => some n
  | false => look σ n, fun _ => none⟩
open Classical in
noncomputable def NM.comp (s f : NM) : NM := ⟨fun n => match s n with | some m => f m | none => none, fun b => match f.ow b with
  | some m => if h : ∃ n, s n = some m then some h.choose else none
  | none => none⟩
theorem NM.comp_some {s f : NM} {n m b : Nat} (h : s n = some m) (k : f m = some b) : NM.comp s f n = some b := by simp [NM.comp, h, k]
theorem NM.comp_of {s f : NM} {n b : Nat} (h : NM.comp s f n = some b) : ∃ m, s n = some m ∧ f m = some b := by
  simp only [NM.comp] at h
  cases e : s n with
  | none => rw [e] at h; cases h
  | some m => rw [e] at h; exact ⟨m, rfl, h⟩
theorem NM.comp_ow {s f : NM} {b n : Nat} (h : (NM.comp s f).ow b = some n) : ∃ m, s n = some m ∧ f.ow b = some m := by
  simp only [NM.comp] at h
  split at h
  · rename_i m e
    split at h
    · rename_i hex; cases h; exact ⟨m, hex.choose_spec, e⟩
    · cases h
  · cases h
theorem NM.ow_comp {s f : NM} (hi : ∀ n n' m, s n = some m → s n' = some m → n = n') {b n m : Nat} (h : s n = some m) (k : f.ow b = some m) : (NM.comp s f).ow b = some n := by
  have hex : ∃ n, s n = some m := ⟨n, h⟩
  simp only [NM.comp, k]
  rw [dif_pos hex]
  exact congrArg some (hi _ _ m hex.choose_spec h)
theorem NM.ow_none {s f : NM} {b : Nat} (k : f.ow b = none) : (NM.comp s f).ow b = none := by
  simp only [NM.comp, k]
/-- what stands for what, by other names -/
inductive GR (s : NM) : GO → GO → Prop where
  | rw {o p} : OR s o p → GR s (.rw o) (.rw p)
  | ro {o p} : OR s o p → GR s (.ro o) (.ro p)
  | abs {R R'} : R = R' → GR s (.abs R) (.abs R')
  | rwL {x x' : List Value} {r : List Value} {t fz} : s 500 = some 500 → s 599 = some 599 → AR s ⟨x⟩ ⟨x'⟩ → GR s (.rw (.cells ⟨x ++ r.map lit⟩ t fz)) (.rw (.cells ⟨x' ++ r.map lit⟩ t fz))
  | sem {o p} : (∀ (f : NM) (o' : Obj), (∀ n n' m, s n = some m → s n' = some m → n = n') → OR f p o' → OR (NM.comp s f) o o') → GR s (.rw o) (.rw p)
theorem comp_rows {s f : NM} {x x' : Array Value} {z : Array Value} (h1 : x.size = x'.size) (h2 : ∀ (i : Nat) (v v' : Value), x[i]? = some v → x'[i]? = some v' → ∀ w, VR f v' w → VR (NM.comp s f) v w)
    (k1 : x'.size = z.size) (k2 : ∀ (i : Nat) (v v' : Value), x'[i]? = some v → z[i]? = some v' → VR f v v') : x.size = z.size ∧ ∀ (i : Nat) (v v' : Value), x[i]? = some v → z[i]? = some v' → VR (NM.comp s f) v v' := by
  refine ⟨h1.trans k1, fun i v w hv hw => ?_⟩
  have hi : i < x'.size := by rw [← h1]; exact (Array.getElem?_eq_some_iff.1 hv).1
  exact h2 i v x'[i] hv (by simp [hi]) w (k2 i x'[i] w (by simp [hi]) hw)
theorem VR.comp {s f : NM} (hi : ∀ n n' m, s n = some m → s n' = some m → n = n') {v u w : Value} (h : VR s v u) : VR f u w → VR (NM.comp s f) v w := by
  intro k
  induction h generalizing w with
  | bool b => cases k; exact .bool b
  | int a b => cases k; exact .int a b
  | float a b => cases k; exact .float a b
  | string b => cases k; exact .string b
  | ptrN => cases k; exact .ptrN
  | ptr e => cases k with | ptr e2 => exact .ptr (NM.comp_some e e2)
  | sliceN a b => cases k; exact .sliceN a b
  | slice e => cases k with
    | slice e2 => exact .slice (NM.comp_some e e2)
    | sliceZ n o => exact .sliceZ _ _ _
  | any v => exact .any _
  | lit v h1 h2 => exact absurd (hi _ _ _ h1 h2) (by decide)
  | sliceZ n o A => cases k <;> exact .sliceZ _ _ _
  | mapN => cases k; exact .mapN
  | map e => cases k with | map e2 => exact .map (NM.comp_some e e2)
  | nilFunc => cases k; exact .nilFunc
  | nilIface => cases k; exact .nilIface
  | func a h1 h2 h3 h4 i2 i4 =>
    cases k with
    | func _ k1 k2 k3 k4 =>
      obtain ⟨p1, p2⟩ := comp_rows h1 (fun i v v' a b w hw => i2 i v v' a b hw) k1 k2
      obtain ⟨p3, p4⟩ := comp_rows h3 (fun i v v' a b w hw => i4 i v v' a b hw) k3 k4
      exact .func _ p1 p2 p3 p4
  | iface t _ ih => cases k with | iface _ k => exact .iface t (ih k)
  | agg h1 h2 i2 =>
    cases k with
    | agg k1 k2 =>
      obtain ⟨p1, p2⟩ := comp_rows h1 (fun i v v' a b w hw => i2 i v v' a b hw) k1 k2
      exact .agg p1 p2
  | tuple h1 h2 i2 =>
    cases k with
    | tuple k1 k2 =>
      obtain ⟨p1, p2⟩ := comp_rows h1 (fun i v v' a b w hw => i2 i v v' a b hw) k1 k2
      exact .tuple p1 p2
theorem AR.comp {s f : NM} (hi : ∀ n n' m, s n = some m → s n' = some m → n = n') {x y z : Array Value} (h : AR s x y) (k : AR f y z) : AR (NM.comp s f) x z :=
  comp_rows h.1 (fun i v v' a b _ hw => (h.2 i v v' a b).comp hi hw) k.1 k.2
theorem OR.comp {s f : NM} (hi : ∀ n n' m, s n = some m → s n' = some m → n = n') {x y z : Obj} (h : OR s x y) (k : OR f y z) : OR (NM.comp s f) x z := by
  cases h with
  | cells t fz a => cases k with | cells _ _ b => exact .cells t fz (a.comp hi b)
  | map ck a =>
    cases k with
    | map _ b =>
      rename_i x y z
      refine .map ck ⟨a.1.trans b.1, fun i e e' h1 h2 => ?_⟩
      have hi0 : i < y.size := by rw [← a.1]; exact (Array.getElem?_eq_some_iff.1 h1).1
      obtain ⟨p1, p2, p3⟩ := a.2 i e y[i] h1 (by simp [hi0])
      obtain ⟨q1, q2, q3⟩ := b.2 i y[i] e' (by simp [hi0]) h2
      exact ⟨p1.comp hi q1, p2.comp hi q2, p3.trans q3⟩
  | iter s e t a => cases k with | iter _ _ _ b => exact .iter s e t (NM.comp_some a b)
  | iterN s e t => cases k with | iterN => exact .iterN s e t

def nodupB : List Nat → Bool
  | [] => true
  | x :: r => !memL x r && nodupB r
def sndL : List (Nat × Nat) → List Nat
  | [] => []
  | (_, m) :: r => m :: sndL r
def renB (lo : Nat) : List (Nat × Nat) → Bool
  | [] => true
  | (_, m) :: r => Nat.ble lo m && renB lo r
def belowB (x : Nat) : List (Nat × Nat) → Bool
  | [] => true
  | (n, _) :: r => Nat.blt n x && belowB x r
/-- the supply stands behind all names -/
def supB (lo : Nat) (σ : List (Nat × Nat)) : List Nat → Bool
  | [] => true
  | x :: r => Nat.ble lo x && belowB x σ && (match r with | [] => true | y :: _ => Nat.blt x y) && supB lo σ r
theorem look_snd : ∀ {σ : List (Nat × Nat)} {n m : Nat}, look σ n = some m → m ∈ sndL σ := by
  intro σ
  induction σ with
  | nil => intro n m h; cases h
  | cons p r ih =>
    obtain ⟨a, b⟩ := p
    intro n m h
    rw [look_cons] at h
    by_cases e : a = n
    · rw [if_pos e] at h; cases h; simp [sndL]
    · rw [if_neg e] at h; simp only [sndL, List.mem_cons]; exact Or.inr (ih h)
theorem look_inj : ∀ {σ : List (Nat × Nat)}, nodupB (sndL σ) = true → ∀ {n n' m : Nat}, look σ n = some m → look σ n' = some m → n = n' := by
  intro σ
  induction σ with
  | nil => intro _ n n' m h; cases h
  | cons p r ih =>
    obtain ⟨a, b⟩ := p
    intro hd n n' m h h'
    simp only [sndL, nodupB, Bool.and_eq_true, Bool.not_eq_true'] at hd
    have hb : ∀ k, look r k ≠ some b := fun k hk => by
      have := memL_iff.2 (look_snd hk); rw [hd.1] at this; cases this
    rw [look_cons] at h h'
    by_cases e : a = n
    · rw [if_pos e] at h
      cases h
      by_cases e' : a = n'
      · exact e.symm.trans e'
      · rw [if_neg e'] at h'; exact absurd h' (hb n')
    · rw [if_neg e] at h
      by_cases e' : a = n'
      · rw [if_pos e'] at h'; cases h'; exact absurd h (hb n)
      · rw [if_neg e'] at h'; exact ih hd.2 h h'
theorem ren_lo {lo : Nat} : ∀ {σ : List (Nat × Nat)}, renB lo σ = true → ∀ {n m}, look σ n = some m → lo ≤ m := by
  intro σ
  induction σ with
  | nil => intro _ n m h; cases h
  | cons p r ih =>
    obtain ⟨a, b⟩ := p
    intro hd n m h
    simp only [renB, Bool.and_eq_true] at hd
    rw [look_cons] at h
    by_cases e : a = n
    · rw [if_pos e] at h; cases h; exact Nat.le_of_ble_eq_true hd.1
    · rw [if_neg e] at h; exact ih hd.2 h
theorem below_lt {x : Nat} : ∀ {σ : List (Nat × Nat)}, belowB x σ = true → ∀ {n m}, look σ n = some m → n < x := by
  intro σ
  induction σ with
  | nil => intro _ n m h; cases h
  | cons p r ih =>
    obtain ⟨a, b⟩ := p
    intro hd n m h
    simp only [belowB, Bool.and_eq_true, Nat.blt_eq] at hd
    rw [look_cons] at h
    by_cases e : a = n
    · subst e; exact hd.1
    · rw [if_neg e] at h; exact ih hd.2 h
theorem supB_all {lo : Nat} {σ : List (Nat × Nat)} : ∀ {l : List Nat}, supB lo σ l = true → (∀ x ∈ l, lo ≤ x ∧ belowB x σ = true) ∧ l.Pairwise (· < ·) := by
  intro l
  induction l with
  | nil => intro _; exact ⟨by simp, by simp⟩
  | cons x r ih =>
    intro h
    simp only [supB, Bool.and_eq_true] at h
    obtain ⟨⟨⟨h1, h2⟩, h3⟩, h4⟩ := h
    obtain ⟨i1, i2⟩ := ih h4
    refine ⟨fun y hy => ?_, List.pairwise_cons.2 ⟨fun y hy => ?_, i2⟩⟩
    · rcases List.mem_cons.1 hy with rfl | hy
      · exact ⟨Nat.le_of_ble_eq_true h1, h2⟩
      · exact i1 y hy
    · cases r with
      | nil => cases hy
      | cons z r =>
        simp only [Nat.blt_eq] at h3
        rcases List.mem_cons.1 hy with rfl | hy
        · exact h3
        · exact Nat.lt_trans h3 ((List.pairwise_cons.1 i2).1 y hy)
theorem Holds.comp {s f : NM} (hi : ∀ n n' m, s n = some m → s n' = some m → n = n') {w : World} {n m : Nat} (hs : s n = some m) {g p : GO} (hg : GR s g p) (h : Holds f w m p) : Holds (NM.comp s f) w n g := by
  cases hg with
  | rw ho =>
    intro b hb
    obtain ⟨m1, a1, a2⟩ := NM.comp_of hb
    rw [hs] at a1; cases a1
    obtain ⟨o', h2, h3, h4⟩ := h b a2
    exact ⟨o', NM.ow_comp hi hs h2, h3, ho.comp hi h4⟩
  | ro ho =>
    intro b hb
    obtain ⟨m1, a1, a2⟩ := NM.comp_of hb
    rw [hs] at a1; cases a1
    obtain ⟨o', h2, h3, h4⟩ := h b a2
    exact ⟨o', NM.ow_none h2, h3, ho.comp hi h4⟩
  | @rwL x x' r t fz hid5 hid9 ho =>
    have hcomp5 : ∀ b, f 500 = some b → NM.comp s f 500 = some b := fun b h => NM.comp_some hid5 h
    have hcomp9 : ∀ b, f 599 = some b → NM.comp s f 599 = some b := fun b h => NM.comp_some hid9 h
    intro b hb
    obtain ⟨m1, a1, a2⟩ := NM.comp_of hb
    rw [hs] at a1; cases a1
    obtain ⟨o', h2, h3, h4⟩ := h b a2
    refine ⟨o', NM.ow_comp hi hs h2, h3, ?_⟩
    cases h4 with
    | cells _ _ ha =>
      rename_i c
      refine .cells _ _ ⟨by have e1 := ha.1; have e2 := ho.1; simp at e1 e2 ⊢; omega, fun i v v' k1 k2 => ?_⟩
      have hl : x.length = x'.length := by have := ho.1; simpa using this
      simp only [List.getElem?_toArray] at k1
      rw [List.getElem?_append] at k1
      split at k1
      · rename_i hlt
        obtain ⟨u, p1, p2⟩ := ho.get (i := i) (v := v) (by simpa using k1)
        have p3 := ha.2 i u v' (by simp only [List.getElem?_toArray] at p1 ⊢; rw [List.getElem?_append_left (by omega)]; exact p1) k2
        exact p2.comp hi p3
      · rename_i hge
        rw [List.getElem?_map] at k1
        cases e : r[i - x.length]? with
        | none => rw [e] at k1; cases k1
        | some y =>
          rw [e] at k1
          cases k1
          have p3 := ha.2 i (lit y) v' (by simp only [List.getElem?_toArray]; rw [List.getElem?_append_right (by omega), List.getElem?_map, ← hl, e]; rfl) k2
          cases p3 with
          | lit _ q1 q2 => exact .lit _ (hcomp5 _ q1) (hcomp9 _ q2)
  | sem ho =>
    intro b hb
    obtain ⟨m1, a1, a2⟩ := NM.comp_of hb
    rw [hs] at a1; cases a1
    obtain ⟨o', h2, h3, h4⟩ := h b a2
    exact ⟨o', NM.ow_comp hi hs h2, h3, ho f o' hi h4⟩
  | abs e => subst e; obtain ⟨b, F, h1, h2, h3⟩ := h; exact ⟨b, F, NM.comp_some hs h1, fun k hk => NM.ow_comp hi hs (h2 k hk), h3⟩
/-- an own block, or one that stays, that nothing stands behind -/
def GO.idle : GO → Bool
  | .abs _ => false
  | _ => true
theorem Holds.idle {f : NM} {w : World} {n : Nat} {g : GO} (hg : g.idle = true) (hn : f n = none) : Holds f w n g := by
  cases g with
  | rw o => intro b hb; rw [hn] at hb; cases hb
  | ro o => intro b hb; rw [hn] at hb; cases hb
  | abs R => cases hg
theorem NM.comp_none {s f : NM} {n : Nat} (h : s n = none) : NM.comp s f n = none := by simp [NM.comp, h]
/-- less is known, by other names -/
theorem Wk.ren {lo : Nat} {S S' : St} (σ : List (Nat × Nat)) (h1 : renB lo σ = true) (h2 : nodupB (sndL σ) = true) (h3 : supB lo σ S'.n = true)
    (ht : ∀ k v, look S'.t k = some v → ∃ u, look S.t k = some u ∧ VR (NM.of lo σ) v u)
    (hh : ∀ n o, look S'.h n = some o → (NM.of lo σ n = none ∧ o.idle = true) ∨ ∃ m p, NM.of lo σ n = some m ∧ look S.h m = some p ∧ GR (NM.of lo σ) o p) : Wk lo S S' := by
  intro c f a w hlo hng H
  obtain ⟨s1, s2⟩ := supB_all h3
  have low : ∀ n m, NM.of lo σ n = some m → (n < lo ∧ m = n) ∨ (lo ≤ n ∧ look σ n = some m) := by
    intro n m h
    simp only [NM.of] at h
    split at h
    · rename_i e; cases h; exact Or.inl ⟨by simpa using e, rfl⟩
    · rename_i e; exact Or.inr ⟨(Nat.lt_or_ge n lo).elim (fun hl => by rw [show Nat.blt n lo = true from by simpa [Nat.blt_eq] using hl] at e; cases e) id, h⟩
  refine ⟨NM.comp (NM.of lo σ) f, ?_, fun b hb => by
    cases e : (NM.comp (NM.of lo σ) f).ow b with
    | none => rfl
    | some n => obtain ⟨m, _, b2⟩ := NM.comp_ow e; rw [hb] at b2; cases b2⟩
  have hinj : ∀ n n' m, NM.of lo σ n = some m → NM.of lo σ n' = some m → n = n' := by
    intro n n' m hn hm
    rcases low n m hn with ⟨c1, c2⟩ | ⟨c1, c2⟩ <;> rcases low n' m hm with ⟨d1, d2⟩ | ⟨d1, d2⟩
    · omega
    · have := ren_lo h1 d2; omega
    · have := ren_lo h1 c2; omega
    · exact look_inj h2 c2 d2
  refine { lt := ?_, glob := ?_, top := ?_, asc := s2, low := fun x hx => hlo ▸ (s1 x hx).1, f0lo := H.f0lo, sees := ?_, owx := ?_, kp := ?_, ol := ?_, olo := H.olo, tms := ?_, size := H.size, defers := H.defers, ext := ?_, new := ?_, far := H.far, grow := H.grow, os := H.os, tape := H.tape, out := H.out, dr := H.dr }
  · intro n b hn
    obtain ⟨n1, a1, a2⟩ := NM.comp_of hn
    exact H.lt n1 b a2
  · intro g hg
    refine NM.comp_some (m := g) ?_ (H.glob g hg)
    simp only [NM.of, show Nat.blt g lo = true from by simp [Nat.blt_eq]; omega]
  · intro x hx m hm
    cases e : NM.comp (NM.of lo σ) f m with
    | none => rfl
    | some b =>
      obtain ⟨n1, a1, a2⟩ := NM.comp_of e
      obtain ⟨x1, x2⟩ := s1 x hx
      rcases low m n1 a1 with ⟨c1, c2⟩ | ⟨c1, c2⟩
      · omega
      · have := below_lt x2 c2; omega
  · intro n o hn
    rcases hh n o hn with ⟨a1, a2⟩ | ⟨m, p, a1, a2, a3⟩
    · exact Holds.idle a2 (NM.comp_none a1)
    · exact (H.sees m p a2).comp hinj a1 a3
  · intro b n hb
    obtain ⟨m, b1, b2⟩ := NM.comp_ow hb
    obtain ⟨k1, k2⟩ := H.owx b m b2
    refine ⟨?_, k2⟩
    rcases k1 with ⟨n0, k1, k3⟩ | k1
    · have hm := H.olo b n0 k1
      rcases low n m b1 with ⟨c1, c2⟩ | ⟨c1, c2⟩
      · subst c2; exact Or.inl ⟨n0, k1, k3⟩
      · have := ren_lo h1 c2; omega
    · exact Or.inr k1
  · intro b n hb
    have hn := H.olo b n hb
    obtain ⟨n1, k1, k2⟩ := H.kp b n hb
    exact ⟨n1, NM.ow_comp hinj (by simp only [NM.of, show Nat.blt n1 lo = true from by simp [Nat.blt_eq]; omega]) k1, k2⟩
  · intro b n hb x hx
    obtain ⟨m, b1, b2⟩ := NM.comp_ow hb
    obtain ⟨x1, x2⟩ := s1 x hx
    rcases low n m b1 with ⟨c1, c2⟩ | ⟨c1, c2⟩
    · omega
    · exact below_lt x2 c2
  · intro k v hk
    obtain ⟨u, a1, a2⟩ := ht k v hk
    obtain ⟨v', b1, b2⟩ := H.tms k u a1
    exact ⟨v', b1, a2.comp hinj b2⟩
  · intro n b hn
    rcases Nat.lt_or_ge n lo with h | h
    · exact NM.comp_some (m := n) (by simp only [NM.of, show Nat.blt n lo = true from by simp [Nat.blt_eq]; omega]) (H.ext n b hn)
    · rw [H.f0lo n (hlo ▸ h)] at hn; cases hn
  · intro n b hn
    obtain ⟨n1, a1, a2⟩ := NM.comp_of hn
    exact H.new n1 b a2


/-! to show it -/
def tAll (p : Nat → Value → Prop) : List (Nat × Value) → Prop
  | [] => True
  | (k, v) :: r => both (p k v) (tAll p r)
theorem tAll_look {p : Nat → Value → Prop} : ∀ {l : List (Nat × Value)}, tAll p l → ∀ k v, look l k = some v → p k v := by
  intro l
  induction l with
  | nil => intro _ k v h; cases h
  | cons q r ih =>
    obtain ⟨a, b⟩ := q
    intro h k v hk
    rw [look_cons] at hk
    by_cases e : a = k
    · subst e; rw [if_pos rfl] at hk; cases hk; exact h.l
    · rw [if_neg e] at hk; exact ih h.r k v hk
def hAll (p : Nat → GO → Prop) : List (Nat × GO) → Prop
  | [] => True
  | (k, v) :: r => both (p k v) (hAll p r)
theorem hAll_look {p : Nat → GO → Prop} : ∀ {l : List (Nat × GO)}, hAll p l → ∀ k v, look l k = some v → p k v := by
  intro l
  induction l with
  | nil => intro _ k v h; cases h
  | cons q r ih =>
    obtain ⟨a, b⟩ := q
    intro h k v hk
    rw [look_cons] at hk
    by_cases e : a = k
    · subst e; rw [if_pos rfl] at hk; cases hk; exact h.l
    · rw [if_neg e] at hk; exact ih h.r k v hk
def seesT (s : NM) (t : List (Nat × Value)) (k : Nat) (v : Value) : Prop := match look t k with
  | some u => VR s v u
  | none => False
def seesH (s : NM) (h : List (Nat × GO)) (n : Nat) (o : GO) : Prop := match s n with
  | some m => match look h m with
    | some p => GR s o p
    | none => False
  | none => o.idle = true
theorem Wk.of {lo : Nat} {S S' : St} (σ : List (Nat × Nat)) (h0 : (renB lo σ && nodupB (sndL σ) && supB lo σ S'.n) = true)
    (ht : tAll (seesT (NM.of lo σ) S.t) S'.t) (hh : hAll (seesH (NM.of lo σ) S.h) S'.h) : Wk lo S S' := by
  simp only [Bool.and_eq_true] at h0
  refine Wk.ren σ h0.1.1 h0.1.2 h0.2 (fun k v hk => ?_) (fun n o hn => ?_)
  · have := tAll_look ht k v hk
    simp only [seesT] at this
    split at this
    · rename_i u e; exact ⟨u, e, this⟩
    · exact this.elim
  · have := hAll_look hh n o hn
    simp only [seesH] at this
    split at this
    · rename_i m e
      split at this
      · rename_i p e2; exact Or.inr ⟨m, p, e, e2, this⟩
      · exact this.elim
    · rename_i e; exact Or.inl ⟨e, this⟩
theorem VR.clean (f : NM) {v : Value} (h : clean1 v = true) : VR f v v := by
  have := cleanA f (c := #[v]) (by simp [cleanL, h])
  exact this.2 0 v v (by simp) (by simp)
theorem VR.aggOf {f : NM} {l l' : List Value} (h : AR f ⟨l⟩ ⟨l'⟩) : VR f (.agg ⟨l⟩) (.agg ⟨l'⟩) := .agg h.1 h.2
theorem OR.cellsOf {f : NM} {l l' : List Value} {t : Nat} {fz : Nat × Nat} (h : AR f ⟨l⟩ ⟨l'⟩) : OR f (.cells ⟨l⟩ t fz) (.cells ⟨l'⟩ t fz) := .cells t fz h
theorem AR.consOf {f : NM} {x x' : Value} {l l' : List Value} (h : VR f x x') (k : AR f ⟨l⟩ ⟨l'⟩) : AR f ⟨x :: l⟩ ⟨x' :: l'⟩ := by
  have := (AR.one h).append k
  simpa using this
theorem AR.same (f : NM) {l : List Value} (h : cleanL l = true) : AR f ⟨l⟩ ⟨l⟩ := cleanA f h
/-! where ways come together -/
def pruneT (t : List (Nat × Value)) : List Nat → List (Nat × Value)
  | [] => []
  | k :: r => match look t k with
    | some v => (k, v) :: pruneT t r
    | none => pruneT t r
def pruneH (h : List (Nat × GO)) : List Nat → List (Nat × GO)
  | [] => []
  | k :: r => match look h k with
    | some v => (k, v) :: pruneH h r
    | none => pruneH h r
def catP : List (Nat × Value) → List (Nat × Value) → List (Nat × Value)
  | [], y => y
  | p :: r, y => p :: catP r y
def lenL : List Nat → Nat
  | [] => 0
  | _ :: r => lenL r + 1
/-- only some slots, some of them anew, and only some blocks -/
def mkS (over : List (Nat × Value)) (live keep : List Nat) : St → St
  | ⟨t, h, n⟩ => ⟨catP over (pruneT t live), pruneH h keep, n⟩
def nameOf : Value → Option Nat
  | .pointer (some ⟨n, _, _⟩) => some n
  | .slice (some ⟨n, _, _⟩) _ _ => some n
  | .map (some n) => some n
  | _ => none
def addP (lo n m : Nat) (σ : List (Nat × Nat)) : List (Nat × Nat) := match Nat.blt n lo, look σ n with
  | false, none => (n, m) :: σ
  | _, _ => σ
def sigT (lo : Nat) (t t' : List (Nat × Value)) : List Nat → List (Nat × Nat) → List (Nat × Nat)
  | [], σ => σ
  | k :: r, σ => match look t' k, look t k with
    | some v, some u => match nameOf v, nameOf u with
      | some n, some m => sigT lo t t' r (addP lo n m σ)
      | _, _ => sigT lo t t' r σ
    | _, _ => sigT lo t t' r σ
def sigI (lo : Nat) (h h' : List (Nat × GO)) : List Nat → List (Nat × Nat) → List (Nat × Nat)
  | [], σ => σ
  | k :: r, σ => match look h k, look h' k with
    | some _, some _ => sigI lo h h' r (addP lo k k σ)
    | _, _ => sigI lo h h' r σ
def sig (lo : Nat) (live keep : List Nat) (S S' : St) : List (Nat × Nat) := sigI lo S.h S'.h keep (sigT lo S.t S'.t live [])
def ups : Nat → Nat → List Nat
  | 0, _ => []
  | n + 1, i => i :: ups n (i + 1)
/-- names ahead of the supply -/
theorem Wk.auto {lo : Nat} {S S' : St} (live keep : List Nat) (h0 : (renB lo (sig lo live keep S S') && nodupB (sndL (sig lo live keep S S')) && supB lo (sig lo live keep S S') S'.n) = true)
    (ht : tAll (seesT (NM.of lo (sig lo live keep S S')) S.t) S'.t) (hh : hAll (seesH (NM.of lo (sig lo live keep S S')) S.h) S'.h) : Wk lo S S' := Wk.of _ h0 ht hh
/-- the first way says where they meet -/
theorem Wk.first {lo : Nat} {S : St} (over : List (Nat × Value)) (live keep : List Nat)
    (h : Wk lo S (mkS over live keep S)) : Wk lo S (mkS over live keep S) := h
theorem VR.boolOf {f : NM} {a b : Bool} (h : b = a) : VR f (.bool a) (.bool b) := h ▸ VR.bool b
theorem VR.intOf {f : NM} {k : IntKind} {a b : Int} (h : b = a) : VR f (.int k a) (.int k b) := h ▸ VR.int k b
end Go.Proofs.YtkcmhcgmiflgbaaDoor
namespace Go.Proofs.YtkcmhcgmiflgbaaDoor
open Go
/-- some names change places -/
def NM.perm (σ : List (Nat × Nat)) : NM := ⟨fun n => match look σ n with
  | some m => some m
  | none => some n, fun _ => none⟩
def fstL : List (Nat × Nat) → List Nat
  | [] => []
  | (n, _) :: r => n :: fstL r
def allIn : List Nat → List Nat → Bool
  | [], _ => true
  | x :: r, l => memL x l && allIn r l
/-- the supply is no earlier than it was -/
def later : List Nat → List Nat → Bool
  | x :: _, y :: _ => Nat.ble x y
  | _, _ => false
def ascB : List Nat → Bool
  | [] => true
  | x :: r => (match r with | [] => true | y :: _ => Nat.blt x y) && ascB r
theorem ascB_all : ∀ {l : List Nat}, ascB l = true → l.Pairwise (· < ·) := by
  intro l
  induction l with
  | nil => intro _; simp
  | cons x r ih =>
    intro h
    simp only [ascB, Bool.and_eq_true] at h
    have i2 := ih h.2
    refine List.pairwise_cons.2 ⟨fun y hy => ?_, i2⟩
    cases r with
    | nil => cases hy
    | cons z r =>
      have h3 := h.1
      simp only [Nat.blt_eq] at h3
      rcases List.mem_cons.1 hy with rfl | hy
      · exact h3
      · exact Nat.lt_trans h3 ((List.pairwise_cons.1 i2).1 y hy)
theorem look_fst : ∀ {σ : List (Nat × Nat)} {n : Nat}, n ∈ fstL σ → ∃ m, look σ n = some m := by
  intro σ
  induction σ with
  | nil => intro n h; cases h
  | cons p r ih =>
    obtain ⟨a, b⟩ := p
    intro n h
    rw [look_cons]
    by_cases e : a = n
    · rw [if_pos e]; exact ⟨b, rfl⟩
    · rw [if_neg e]; rcases List.mem_cons.1 h with rfl | h
      · exact absurd rfl e
      · exact ih h
theorem allIn_mem {l : List Nat} : ∀ {s : List Nat}, allIn s l = true → ∀ x ∈ s, x ∈ l := by
  intro s
  induction s with
  | nil => intro _ x h; cases h
  | cons y r ih =>
    intro h x hx
    simp only [allIn, Bool.and_eq_true] at h
    rcases List.mem_cons.1 hx with rfl | hx
    · exact memL_iff.1 h.1
    · exact ih h.2 x hx
theorem Wk.perm {lo : Nat} {S S' : St} (σ : List (Nat × Nat)) (h1 : renB lo σ = true) (h2 : nodupB (sndL σ) = true) (h3 : allIn (sndL σ) (fstL σ) = true) (h4 : allIn (fstL σ) (sndL σ) = true)
    (h5 : later S.n S'.n = true) (h6 : ascB S'.n = true) (h7 : (match S'.n with | [] => false | x :: _ => belowB x σ) = true)
    (ht : ∀ k v, look S'.t k = some v → ∃ u, look S.t k = some u ∧ VR (NM.perm σ) v u)
    (hh : ∀ n o, look S'.h n = some o → ∃ m p, NM.perm σ n = some m ∧ look S.h m = some p ∧ GR (NM.perm σ) o p) : Wk lo S S' := by
  intro c f a w hlo hng H
  have cas : ∀ n m, NM.perm σ n = some m → (look σ n = none ∧ m = n) ∨ look σ n = some m := by
    intro n m h
    simp only [NM.perm] at h
    split at h
    · rename_i q e; cases h; exact Or.inr e
    · rename_i e; cases h; exact Or.inl ⟨e, rfl⟩
  have keyLo : ∀ n m, look σ n = some m → lo ≤ n ∧ lo ≤ m := by
    intro n m h
    refine ⟨?_, ren_lo h1 h⟩
    have : n ∈ fstL σ := by
      clear h1 h2 h3 h4 h7 ht hh cas
      induction σ with
      | nil => cases h
      | cons p r ih =>
        obtain ⟨a, b⟩ := p
        rw [look_cons] at h
        by_cases e : a = n
        · subst e; simp [fstL]
        · rw [if_neg e] at h; exact List.mem_cons_of_mem _ (ih h)
    have h8 := allIn_mem h4 n this
    have : ∀ (s : List (Nat × Nat)), renB lo s = true → ∀ x ∈ sndL s, lo ≤ x := by
      intro s
      induction s with
      | nil => intro _ x h; cases h
      | cons p r ih =>
        obtain ⟨a, b⟩ := p
        intro h x hx
        simp only [renB, Bool.and_eq_true] at h
        rcases List.mem_cons.1 hx with rfl | hx
        · exact Nat.le_of_ble_eq_true h.1
        · exact ih h.2 x hx
    exact this σ h1 n h8
  obtain ⟨x0, r0, e0⟩ : ∃ x r, S.n = x :: r := by
    cases e : S.n with
    | nil => rw [e] at h5; cases h5
    | cons x r => exact ⟨x, r, rfl⟩
  obtain ⟨y0, q0, e1⟩ : ∃ x r, S'.n = x :: r := by
    cases e : S'.n with
    | nil => rw [e] at h7; cases h7
    | cons x r => exact ⟨x, r, rfl⟩
  rw [e0, e1] at h5
  have hle : x0 ≤ y0 := Nat.le_of_ble_eq_true h5
  have h7' : belowB y0 σ = true := by rw [e1] at h7; exact h7
  have hasc := ascB_all h6
  have hy : ∀ x ∈ S'.n, y0 ≤ x := by
    intro x hx
    rw [e1] at hx hasc
    rcases List.mem_cons.1 hx with rfl | hx
    · exact Nat.le_refl _
    · exact Nat.le_of_lt ((List.pairwise_cons.1 hasc).1 x hx)
  have hx0 : x0 ∈ S.n := by rw [e0]; simp
  refine ⟨NM.comp (NM.perm σ) f, ?_, fun b hb => by
    cases e : (NM.comp (NM.perm σ) f).ow b with
    | none => rfl
    | some n => obtain ⟨m, _, b2⟩ := NM.comp_ow e; rw [hb] at b2; cases b2⟩
  have hinj : ∀ n n' m, NM.perm σ n = some m → NM.perm σ n' = some m → n = n' := by
    intro n m b hn hm
    rcases cas n b hn with ⟨c1, c2⟩ | c2 <;> rcases cas m b hm with ⟨d1, d2⟩ | d2
    · omega
    · subst c2
      obtain ⟨z, hz⟩ := look_fst (allIn_mem h3 _ (look_snd d2))
      rw [c1] at hz; cases hz
    · subst d2
      obtain ⟨z, hz⟩ := look_fst (allIn_mem h3 _ (look_snd c2))
      rw [d1] at hz; cases hz
    · exact look_inj h2 c2 d2
  refine { lt := ?_, glob := ?_, top := ?_, asc := hasc, low := ?_, f0lo := H.f0lo, sees := ?_, owx := ?_, kp := ?_, ol := ?_, olo := H.olo, tms := ?_, size := H.size, defers := H.defers, ext := ?_, new := ?_, far := H.far, grow := H.grow, os := H.os, tape := H.tape, out := H.out, dr := H.dr }
  · intro n b hn
    obtain ⟨n1, a1, a2⟩ := NM.comp_of hn
    exact H.lt n1 b a2
  · intro g hg
    refine NM.comp_some (m := g) ?_ (H.glob g hg)
    cases e : look σ g with
    | none => simp [NM.perm, e]
    | some m => have := (keyLo g m e).1; omega
  · intro x hx m hm
    cases e : NM.comp (NM.perm σ) f m with
    | none => rfl
    | some b =>
      obtain ⟨n1, a1, a2⟩ := NM.comp_of e
      have := hy x hx
      rcases cas m n1 a1 with ⟨c1, rfl⟩ | c2
      · rw [H.top x0 hx0 n1 (by omega)] at a2; cases a2
      · have := below_lt h7' c2; omega
  · intro x hx
    have := hy x hx
    have := H.low x0 hx0
    omega
  · intro n o hn
    obtain ⟨m, p, a1, a2, a3⟩ := hh n o hn
    exact (H.sees m p a2).comp hinj a1 a3
  · intro b n hb
    obtain ⟨m, b1, b2⟩ := NM.comp_ow hb
    obtain ⟨k1, k2⟩ := H.owx b m b2
    refine ⟨?_, k2⟩
    rcases k1 with ⟨n0, k1, k3⟩ | k1
    · have hm := H.olo b n0 k1
      rcases cas n m b1 with ⟨c1, rfl⟩ | c2
      · exact Or.inl ⟨n0, k1, k3⟩
      · have := (keyLo n m c2).2; omega
    · exact Or.inr k1
  · intro b n hb
    have hn := H.olo b n hb
    obtain ⟨n1, k1, k2⟩ := H.kp b n hb
    refine ⟨n1, NM.ow_comp hinj ?_ k1, k2⟩
    cases e : look σ n1 with
    | none => simp [NM.perm, e]
    | some m => have := (keyLo n1 m e).1; omega
  · intro b n hb x hx
    obtain ⟨m, b1, b2⟩ := NM.comp_ow hb
    have := hy x hx
    rcases cas n m b1 with ⟨c1, rfl⟩ | c2
    · have := H.ol b m b2 x0 hx0; omega
    · have := below_lt h7' c2; omega
  · intro k v hk
    obtain ⟨u, a1, a2⟩ := ht k v hk
    obtain ⟨v', b1, b2⟩ := H.tms k u a1
    exact ⟨v', b1, a2.comp hinj b2⟩
  · intro n b hn
    rcases Nat.lt_or_ge n c.lo with h | h
    · refine NM.comp_some (m := n) ?_ (H.ext n b hn)
      cases e : look σ n with
      | none => simp [NM.perm, e]
      | some m => have := (keyLo n m e).1; omega
    · rw [H.f0lo n h] at hn; cases hn
  · intro n b hn
    obtain ⟨n1, a1, a2⟩ := NM.comp_of hn
    exact H.new n1 b a2
def chk2 (lo : Nat) (σ : List (Nat × Nat)) (n n' : List Nat) : Bool :=
  renB lo σ && nodupB (sndL σ) && allIn (sndL σ) (fstL σ) && allIn (fstL σ) (sndL σ) && later n n' && ascB n' && (match n' with | [] => false | x :: _ => belowB x σ)
theorem Wk.auto2 {lo : Nat} {S S' : St} (live : List Nat) (h0 : chk2 lo (sigT lo S.t S'.t live []) S.n S'.n = true)
    (ht : tAll (seesT (NM.perm (sigT lo S.t S'.t live [])) S.t) S'.t) (hh : hAll (seesH (NM.perm (sigT lo S.t S'.t live [])) S.h) S'.h) : Wk lo S S' := by
  simp only [chk2, Bool.and_eq_true] at h0
  obtain ⟨⟨⟨⟨⟨⟨a1, a2⟩, a3⟩, a4⟩, a5⟩, a6⟩, a7⟩ := h0
  refine Wk.perm _ a1 a2 a3 a4 a5 a6 a7 (fun k v hk => ?_) (fun n o hn => ?_)
  · have := tAll_look ht k v hk
    simp only [seesT] at this
    split at this
    · rename_i u e; exact ⟨u, e, this⟩
    · exact this.elim
  · have := hAll_look hh n o hn
    simp only [seesH] at this
    split at this
    · rename_i m e
      split at this
      · rename_i p e2; exact ⟨m, p, e, e2, this⟩
      · exact this.elim
    · rename_i e
      simp only [NM.perm] at e
      split at e <;> cases e
end Go.Proofs.YtkcmhcgmiflgbaaDoor

/- A range over a function; a wheel in memory. -/
import Derived.Test.YtliaoaejmmkkjaaGg
import Derived.RangeFuncRecord
import Derived.Maps.RangeRun
import Derived.TacticsIn
import Derived.LoopNIn
namespace Go.Proofs.Ytliaoaejmmkkjaa
open Go
open Go.ChangeMaps (setBlock)

/-! a small walk over the memory as it is: each block by its own number -/
def fI : NM := ⟨fun n => some n, fun _ => none⟩
structure TS (N : Nat) (t u : List (Nat × Value)) (a : Act) : Prop where
  tms : ∀ k v, look t k = some v → ∃ v', a.tmps[k]? = some v' ∧ VR fI v v'
  raw : ∀ k v, look u k = some v → a.tmps[k]? = some v
  size : a.tmps.size = N
  defers : a.defers = []
theorem TS.ev {N : Nat} {t u : List (Nat × Value)} {a : Act} (H : TS N t u a) : Ev 0 fI ⟨t, [], []⟩ a := ⟨H.tms, fun g h => absurd h (Nat.not_lt_zero g)⟩
theorem TS.put {N : Nat} {t u : List (Nat × Value)} {a : Act} (H : TS N t u a) {d : Option Nat} (hd : dstOk N d = true) {v v' : Value} (hv : VR fI v v') (hu : ∀ k, d = some k → look u k = none) :
    TS N ((⟨t, [], []⟩ : St).put d v).t u (a.put d v') := by
  cases d with
  | none => exact { H with defers := H.defers }
  | some d =>
    have hlt : d < a.tmps.size := by rw [H.size]; simpa [dstOk, Nat.blt_eq] using hd
    refine ⟨fun k w hk => ?_, fun k w hk => ?_, by simp [Act.put, H.size], by simp [Act.put, H.defers]⟩
    · simp only [St.put, look_cons] at hk
      simp only [Act.put, Array.getElem?_setIfInBounds]
      by_cases e : d = k
      · subst e; rw [if_pos rfl] at hk; cases hk; exact ⟨v', by simp [hlt], hv⟩
      · rw [if_neg e] at hk; rw [if_neg e]; exact H.tms k w hk
    · have h1 := hu d rfl
      simp only [Act.put, Array.getElem?_setIfInBounds]
      by_cases e : d = k
      · subst e; rw [h1] at hk; cases hk
      · rw [if_neg e]; exact H.raw k w hk
theorem TS.putRaw {N : Nat} {t u : List (Nat × Value)} {a : Act} (H : TS N t u a) {d : Nat} (hd : dstOk N (some d) = true) (v : Value) :
    TS N ((d, hole) :: t) ((d, v) :: u) (a.put (some d) v) := by
  have hlt : d < a.tmps.size := by rw [H.size]; simpa [dstOk, Nat.blt_eq] using hd
  refine ⟨fun k w hk => ?_, fun k w hk => ?_, by simp [Act.put, H.size], by simp [Act.put, H.defers]⟩
  · simp only [look_cons] at hk
    simp only [Act.put, Array.getElem?_setIfInBounds]
    by_cases e : d = k
    · subst e; rw [if_pos rfl] at hk; cases hk; exact ⟨v, by simp [hlt], .any _⟩
    · rw [if_neg e] at hk; rw [if_neg e]; exact H.tms k w hk
  · simp only [look_cons] at hk
    simp only [Act.put, Array.getElem?_setIfInBounds]
    by_cases e : d = k
    · subst e; rw [if_pos rfl] at hk; cases hk; simp [hlt]
    · rw [if_neg e] at hk; rw [if_neg e]; exact H.raw k w hk
theorem TS.weak {N : Nat} {t t' u u' : List (Nat × Value)} {a : Act} (H : TS N t u a) (h1 : ∀ k v, look t' k = some v → look t k = some v) (h2 : ∀ k v, look u' k = some v → look u k = some v) : TS N t' u' a :=
  ⟨fun k v h => H.tms k v (h1 k v h), fun k v h => H.raw k v (h2 k v h), H.size, H.defers⟩

section walk
variable {n : Nat} {P : Program} {ops : Array Oper} {Q : Exit → Act → World → Prop} {N : Nat} {t u : List (Nat × Value)} {a : Act} {w : World} {o : Oper} {rest : List Oper}
abbrev WL (n : Nat) (P : Program) (ops : Array Oper) (Q : Exit → Act → World → Prop) := wpListIn Fence.wide n P ops Q
/-- an operation that runs so -/
theorem ts_run {x : Next} {v : Value} {w' : World} (hg : o.guard = none) (hr : (execOp a.eval o).run P w = .ok x w') (hx : Nx x v) (k : WL n P ops Q rest (a.put o.dst v) w') : WL n P ops Q (o :: rest) a w := by
  refine wpListIn_plain hg fun K hK => ⟨fun _ _ => trivial, ?_⟩
  show o.uponIn _ _ _ _ _ _ ((Oper.semAt none a.eval o).run P w)
  rw [Oper.semAt_none, hr]
  rcases hx with rfl | ⟨rfl, rfl⟩
  · exact hK _ _ k
  · exact hK _ _ k
theorem ts_val {tt : List (Nat × TK)} (hT : TKok P tt) (H : TS N t u a) {v : Value} (h : accG 0 tt ⟨t, [], []⟩ o.op = some (.val v)) (hg : o.guard = none) (hd : dstOk N o.dst = true) (hu : ∀ k, o.dst = some k → look u k = none)
    (k : ∀ a', TS N ((⟨t, [], []⟩ : St).put o.dst v).t u a' → WL n P ops Q rest a' w) : WL n P ops Q (o :: rest) a w := by
  obtain ⟨v', x, h1, h2, h3⟩ := acc_ok (P := P) (f := fI) (o := o) hT H.ev h
  exact ts_run hg (h3 w) h2 (k _ (H.put hd h1 hu))
theorem ts_need {tt : List (Nat × TK)} (hT : TKok P tt) (H : TS N t u a) {p : Prop} {v : Value} (h : accG 0 tt ⟨t, [], []⟩ o.op = some (.need p (.val v))) (hp : p) (hg : o.guard = none) (hd : dstOk N o.dst = true) (hu : ∀ k, o.dst = some k → look u k = none)
    (k : ∀ a', TS N ((⟨t, [], []⟩ : St).put o.dst v).t u a' → WL n P ops Q rest a' w) : WL n P ops Q (o :: rest) a w := by
  obtain ⟨v', x, h1, h2, h3⟩ := (acc_ok (P := P) (f := fI) (o := o) hT H.ev h) hp
  exact ts_run hg (h3 w) h2 (k _ (H.put hd h1 hu))
/-- a look into memory -/
theorem ts_rd {tt : List (Nat × TK)} (hT : TKok P tt) (H : TS N t u a) {b : Nat} {kk : Obj → Option Value} {ob ob' : Obj} {v : Value} (h : accG 0 tt ⟨t, [], []⟩ o.op = some (.rd b kk)) (hb : w.heap[b]? = some ob') (ho : OR fI ob ob') (hk : kk ob = some v)
    (hg : o.guard = none) (hd : dstOk N o.dst = true) (hu : ∀ k, o.dst = some k → look u k = none)
    (k : ∀ a', TS N ((⟨t, [], []⟩ : St).put o.dst v).t u a' → WL n P ops Q rest a' w) : WL n P ops Q (o :: rest) a w := by
  obtain ⟨v', x, h1, h2, h3⟩ := (acc_ok (P := P) (f := fI) (o := o) hT H.ev h).2 b ob ob' w v rfl hb ho hk
  exact ts_run hg h3 h2 (k _ (H.put hd h1 hu))
/-- a value of which nothing is known is handed on -/
theorem ts_raw (H : TS N t u a) {s d : Nat} {v : Value} (h : o.op = .move (.tmp s)) (hs : look u s = some v) (hg : o.guard = none) (hd : o.dst = some d) (hN : dstOk N (some d) = true)
    (k : ∀ a', TS N ((d, hole) :: t) ((d, v) :: u) a' → WL n P ops Q rest a' w) : WL n P ops Q (o :: rest) a w := by
  have h1 : a.eval (.tmp s) = v := by simp [Act.eval, Array.getD_eq_getD_getElem?, H.raw s v hs]
  have : (execOp a.eval o).run P w = .ok (.value v) w := by
    unfold execOp
    rw [h]
    show (pure (Next.value (a.eval (.tmp s))) : Sem Next).run P w = _
    rw [h1]; rfl
  refine ts_run hg this (Or.inl rfl) ?_
  rw [hd]; exact k _ (H.putRaw hN v)
/-- a call of yield -/
theorem ts_yield (H : TS N t u a) {s d l : Nat} {x : Operand} {ts : Array TypeId} {v : Value} (h : o.op = .call ⟨.value (.tmp s), #[x], ts⟩) (hs : look u s = some (.func (.yield l) #[] #[])) (hx : evalG 0 ⟨t, [], []⟩ x = some v) (hc : clean v = true)
    (hg : o.guard = none) (hd : o.dst = some d) (hN : dstOk N (some d) = true) (hu : look u d = none)
    {fn : FuncId} {tmps : Array Value} {as bo : Code} (hy : (Instr.yield l #[v]).run P w = .ok (.round l fn tmps as bo) w) {R : Ending → World → Prop} (hR : RoundIn Fence.wide (n - 1) P l fn tmps as bo w R)
    (k : ∀ e w', R e w' → e = .returned (.bool true) ∧ ∀ a', TS N ((d, .bool true) :: t) u a' → WL n P ops Q rest a' w') : WL n P ops Q (o :: rest) a w := by
  have h1 : a.eval (.tmp s) = .func (.yield l) #[] #[] := by simp [Act.eval, Array.getD_eq_getD_getElem?, H.raw s _ hs]
  have h2 : a.eval x = v := clean_eq hc (H.ev.eval hx)
  have hrun : (execOp a.eval o).run P w = .ok (.round l fn tmps as bo) w := by
    unfold execOp
    rw [h]
    simp only [resolve, h1, Deferred.ofValue, pure_bind, invoke, Sem.run_bind]
    simp only [List.map_toArray, List.map_cons, List.map_nil, h2]
    simpa using hy
  refine wpListIn_plain hg fun K hK => ⟨fun _ _ => trivial, ?_⟩
  show o.uponIn _ _ _ _ _ _ ((Oper.semAt none a.eval o).run P w)
  rw [Oper.semAt_none, hrun, Oper.uponIn_round]
  refine ⟨fun h => (by cases h), hR.mono ?_⟩
  intro e w' he
  obtain ⟨rfl, h3⟩ := k e w' he
  refine hK _ _ (h3 _ ?_)
  have := H.put (d := some d) hN (VR.bool (f := fI) true) (fun k e => by cases e; exact hu)
  rw [hd]; exact this
theorem ts_nil (h : Q .normal a w) : WL n P ops Q [] a w := h
theorem ts_region {id : Nat} {l : List Oper} (h : WL n P l.toArray Q l a w) : (Code.region id l.toArray false).wpIn Fence.wide n P Q a w := wpIn_region_lit h
theorem ts_seq {x y : Code} (h : x.wpIn Fence.wide n P (Exit.then (y.wpIn Fence.wide n P Q) Q) a w) : (Code.seq x y).wpIn Fence.wide n P Q a w := wpIn_seq h
theorem ts_cond (H : TS N t u a) {c : Operand} {x y : Code} {b : Bool} (hc : evalG 0 ⟨t, [], []⟩ c = some (.bool b)) (h : (if b then x else y).wpIn Fence.wide n P Q a w) : (Code.cond c x y).wpIn Fence.wide n P Q a w := by
  have h0 := H.ev.eval hc
  refine wpIn_cond (t := b) ?_ h
  generalize a.eval c = z at h0
  cases h0; rfl
/-- a loop -/
theorem ts_loop {c : Code} {ι : Type} (st : ι → Act → World → Prop) (μ : ι → Nat) (i0 : ι) (h0 : st i0 a w)
    (hr : ∀ i a w, st i a w → c.wpIn Fence.wide n P (Exit.then (fun a' w' => ∃ j, μ j < μ i ∧ st j a' w') Q) a w) : (Code.loop c).wpIn Fence.wide n P Q a w := by
  have key : ∀ m i a w, μ i < m → st i a w → Code.roundsIn Fence.wide n P c Q m a w := by
    intro m
    induction m with
    | zero => intro i a w hn; omega
    | succ m ih =>
      intro i a w hn hs
      rw [roundsIn_succ]
      refine wpIn_mono (hr i a w hs) ?_
      rintro e a' w' h
      cases e with
      | normal => obtain ⟨j, h1, h2⟩ := h; exact ih j a' w' (by omega) h2
      | _ => exact h
  exact wpIn_loop_rounds (μ i0 + 1) (key _ i0 a w (by omega) h0)
end walk
end Go.Proofs.Ytliaoaejmmkkjaa
namespace Go.Proofs.Ytliaoaejmmkkjaa
open Go
open Go.ChangeMaps (setBlock)

/-! maps of numbers to numbers, and what an iterator does between two rounds -/
abbrev MapW := List (Int × Int × Nat)
abbrev evZ (x : Int) : Value := .int .i64 x
abbrev prM (x : Int × Int × Nat) : Int × Int := (x.1, x.2.1)
abbrev tmV (x : Int × Int) : Value := .agg #[.int .i64 x.1, .int .i64 x.2]
structure Stp (B : Nat) (U U' : Nat → Prop) (W W' : World) : Prop where
  sub : ∀ b, U b → U' b
  new : ∀ b, U' b → U b ∨ (W.heap.size ≤ b ∧ b < W'.heap.size)
  chg : ∀ b, b < W.heap.size → (¬ U b ∨ b < B) → W'.heap[b]? = W.heap[b]?
  grow : W.heap.size ≤ W'.heap.size
  os : W'.os = W.os
  tape : W'.tape = W.tape
  out : W'.output = W.output
  dr : W.drawn ≤ W'.drawn
/-- a block is laid -/
theorem Stp.alloc (B : Nat) (U : Nat → Prop) (W : World) (o : Obj) : Stp B U (fun b => U b ∨ b = W.heap.size) W (W.alloc o) where
  sub := fun b h => Or.inl h
  new := fun b h => h.imp id fun e => by subst e; simp
  chg := fun b hb _ => heap_alloc_old W o hb
  grow := by simp
  os := rfl
  tape := rfl
  out := rfl
  dr := Nat.le_refl _
/-- a block of its own is turned -/
theorem Stp.turn {B : Nat} {U : Nat → Prop} {W W1 : World} (hw : W1 = W ∨ W1 = W.drew) {r : Nat} (o : Obj) (hr : U r) (hB : B ≤ r) : Stp B U U W (setBlock W1 r o) := by
  have e1 : W1.heap = W.heap := by rcases hw with rfl | rfl <;> rfl
  refine { sub := fun b h => h, new := fun b h => Or.inl h, chg := fun b hb h => ?_, grow := by simp [setBlock, e1], os := ?_, tape := ?_, out := ?_, dr := ?_ }
  · simp only [setBlock, Array.getElem?_setIfInBounds, e1]
    rw [if_neg]
    intro e; subst e
    rcases h with h | h
    · exact h hr
    · omega
  · rcases hw with rfl | rfl <;> rfl
  · rcases hw with rfl | rfl <;> rfl
  · rcases hw with rfl | rfl <;> rfl
  · rcases hw with rfl | rfl
    · exact Nat.le_refl _
    · exact Nat.le_succ _
/-- a slot of maps -/
def SlotOk (W : World) (U : Nat → Prop) (v : Value) (M : MapW) : Prop :=
  (v = .map none ∧ M = []) ∨ ∃ b ck, v = .map (some b) ∧ U b ∧ W.heap[b]? = some (.map ⟨encM evZ M⟩ ck) ∧ (∀ x ∈ M, x.2.2 < ck) ∧ (M.map (·.2.2)).Nodup
theorem SlotOk.keep {W W' : World} {U U' : Nat → Prop} {v : Value} {M : MapW} (h : SlotOk W U v M) (hk : ∀ b, U b → W'.heap[b]? = W.heap[b]?) (hu : ∀ b, U b → U' b) : SlotOk W' U' v M := by
  rcases h with h | ⟨b, ck, h1, h2, h3, h4, h5⟩
  · exact Or.inl h
  · exact Or.inr ⟨b, ck, h1, hu b h2, (hk b h2).trans h3, h4, h5⟩
theorem SlotOk.VR {W : World} {U : Nat → Prop} {v : Value} {M : MapW} (h : SlotOk W U v M) : Go.Proofs.Ytliaoaejmmkkjaa.VR fI v v := by
  rcases h with ⟨rfl, _⟩ | ⟨b, ck, rfl, _⟩
  · exact .mapN
  · exact .map rfl
theorem SlotOk.eq {W : World} {U : Nat → Prop} {v v' : Value} {M : MapW} (h : SlotOk W U v M) (hv : Go.Proofs.Ytliaoaejmmkkjaa.VR fI v v') : v' = v := by
  rcases h with ⟨rfl, _⟩ | ⟨b, ck, rfl, _⟩
  · cases hv; rfl
  · cases hv with
    | map e => cases e; rfl
abbrev entM (x : Int × Int × Nat) : MapEntry := ⟨.int .i64 x.1, .int .i64 x.2.1, x.2.2⟩
theorem encM_map (M : MapW) : encM evZ M = M.map entM := by
  induction M with
  | nil => rfl
  | cons x r ih => obtain ⟨a, b, c⟩ := x; simp [encM, ih]
def lfM (M : MapW) (seen : Array Nat) : MapW := M.filter fun x => !seen.contains x.2.2
theorem leftOf_enc (M : MapW) (seen : Array Nat) : leftOf ⟨encM evZ M⟩ seen = ⟨(lfM M seen).map entM⟩ := by
  unfold leftOf lfM
  rw [encM_map]
  simp only [List.filter_toArray]
  congr 1
  rw [List.filter_map]
  rfl
theorem lfM_nil (M : MapW) : lfM M #[] = M := by
  unfold lfM
  apply List.filter_eq_self.2
  intro x _
  simp
theorem lfM_push {M : MapW} {seen : Array Nat} {x : Int × Int × Nat} (hx : x ∈ lfM M seen) (hn : (M.map (·.2.2)).Nodup) : (lfM M seen).Perm (x :: lfM M (seen.push x.2.2)) := by
  have key : ∀ M : MapW, x ∈ M → (M.map (·.2.2)).Nodup → (!seen.contains x.2.2) = true → (M.filter fun y => !seen.contains y.2.2).Perm (x :: M.filter fun y => !(seen.push x.2.2).contains y.2.2) := by
    intro M
    induction M with
    | nil => intro h; cases h
    | cons y r ih =>
      intro h hn hs
      simp only [List.map_cons, List.nodup_cons] at hn
      rcases List.mem_cons.1 h with rfl | h
      · rw [List.filter_cons_of_pos (by simpa using hs), List.filter_cons_of_neg (by simp [Array.contains_push])]
        refine List.Perm.cons _ ?_
        refine List.Perm.of_eq (List.filter_congr fun y hy => ?_)
        have : (y.2.2 == x.2.2) = false := by
          cases e : y.2.2 == x.2.2 with
          | false => rfl
          | true => exact absurd (List.mem_map.2 ⟨y, hy, by simpa using e⟩) hn.1
        rw [Array.contains_push, this, Bool.or_false]
      · have hne : (y.2.2 == x.2.2) = false := by
          cases e : y.2.2 == x.2.2 with
          | false => rfl
          | true => exact absurd (List.mem_map.2 ⟨x, h, by have := beq_iff_eq.1 e; exact this.symm⟩) hn.1
        have ih2 := ih h hn.2 hs
        by_cases hy : (!seen.contains y.2.2) = true
        · rw [List.filter_cons_of_pos (by simpa using hy), List.filter_cons_of_pos (by rw [Array.contains_push, hne, Bool.or_false]; simpa using hy)]
          exact (List.Perm.cons y ih2).trans (List.Perm.swap x y _)
        · rw [List.filter_cons_of_neg (by simpa using hy), List.filter_cons_of_neg (by rw [Array.contains_push, hne, Bool.or_false]; simpa using hy)]
          exact ih2
  have h1 := List.mem_filter.1 hx
  exact key M h1.1 hn h1.2
def entsU (M : Nat → MapW) : Nat → List (Int × Int)
  | 0 => []
  | k + 1 => entsU M k ++ (M k).map prM
section
variable {P : Program}
theorem next_nil (W : World) (ty : TypeId) {r a b : Nat} {s : Array Nat} (hr : W.heap[r]? = some (.mapIter none a s b)) :
    (Instr.next (.pointer (some ⟨r, 0, none⟩)) false ty).run P W = .ok (.tuple #[.bool false]) W := by
  simp only [Instr.next, getObj, Sem.run_bind, Sem.run, hr, Result.andThen]
  rfl
theorem next_at (W : World) (ty : TypeId) {r bm ck : Nat} {seen : Array Nat} {M : MapW} (hr : W.heap[r]? = some (.mapIter (some bm) ck seen ck)) (hb : W.heap[bm]? = some (.map ⟨encM evZ M⟩ ck)) (hM : ∀ x ∈ M, x.2.2 < ck) :
    (lfM M seen = [] ∧ (Instr.next (.pointer (some ⟨r, 0, none⟩)) false ty).run P W = .ok (.tuple #[.bool false]) W) ∨
    ∃ x ∈ lfM M seen, ∃ W1 : World, (W1 = W ∨ W1 = W.drew) ∧ (Instr.next (.pointer (some ⟨r, 0, none⟩)) false ty).run P W = .ok (.tuple #[.bool true, .int .i64 x.1, .int .i64 x.2.1]) (setBlock W1 r (.mapIter (some bm) ck (seen.push x.2.2) ck)) := by
  rcases run_next_at (P := P) W ty r bm ck ck seen _ ck hr hb (fun x hx => by
    rw [encM_map] at hx
    obtain ⟨y, h1, rfl⟩ := List.mem_map.1 (show x ∈ M.map entM from hx)
    exact hM y h1) (Nat.le_refl _) with ⟨h1, h2⟩ | ⟨e, h1, W1, h2, h3⟩
  · left
    rw [leftOf_enc] at h1
    refine ⟨?_, h2⟩
    simpa using h1
  · right
    rw [leftOf_enc] at h1
    obtain ⟨x, h4, rfl⟩ := List.mem_map.1 h1
    exact ⟨x, h4, W1, h2, h3⟩
theorem entry_at (W : World) {r bm ck : Nat} {seen : Array Nat} {M : MapW} {x : Int × Int × Nat} (hr : W.heap[r]? = some (.mapIter (some bm) ck (seen.push x.2.2) ck)) (hb : W.heap[bm]? = some (.map ⟨encM evZ M⟩ ck)) (hx : x ∈ M) (hn : (M.map (·.2.2)).Nodup) :
    (Instr.entry (.pointer (some ⟨r, 0, none⟩))).run P W = .ok (.tuple #[.int .i64 x.1, .int .i64 x.2.1]) W := by
  refine run_entry_at (P := P) W r bm ck seen _ ck (entM x) hr hb ?_ ?_
  · rw [encM_map]; exact List.mem_map.2 ⟨x, hx, rfl⟩
  · rw [encM_map]; simpa [List.map_map, Function.comp_def] using hn
end
theorem exec_v {P : Program} {s : Sem Value} {v : Value} {w w' : World} (h : s.run P w = .ok v w') : ((do pure (Next.value (← s))) : Sem Next).run P w = .ok (.value v) w' := by
  simp only [Sem.run_bind, h, Result.andThen_ok, Sem.run_pure]
/-- what the rounds are owed, and owe -/
structure JOk (P : Program) (n l B : Nat) (E : List (Int × Int)) (J : (Nat → Prop) → List (Int × Int) → World → Prop) : Prop where
  stp : ∀ U U' pre W W', J U pre W → Stp B U U' W W' → J U' pre W'
  rnd : ∀ U pre x W, (∃ rest, (pre ++ x :: rest).Perm E) → J U pre W → ∃ fn tmps asg bo, (Instr.yield l #[tmV x]).run P W = .ok (.round l fn tmps asg bo) W ∧
    RoundIn Fence.wide (n - 1) P l fn tmps asg bo W fun e W' => e = .returned (.bool true) ∧ J U (pre ++ [x]) W' ∧ (∀ b, U b → W'.heap[b]? = W.heap[b]?) ∧ W.heap.size ≤ W'.heap.size
theorem TS.two (m : Nat) (x y : Value) (hy : Go.Proofs.Ytliaoaejmmkkjaa.VR fI y y) : TS (2 + m) [(1, y), (0, hole)] [(0, x)] { tmps := #[x, y] ++ Array.replicate m undef, defers := [] } := by
  refine ⟨fun k v h => ?_, fun k v h => ?_, by simp, rfl⟩
  · simp only [look_cons] at h
    split at h
    · rename_i e; subst e; cases h; exact ⟨y, by simp [Array.getElem?_append], hy⟩
    · split at h
      · rename_i e; subst e; cases h; exact ⟨x, by simp [Array.getElem?_append], .any _⟩
      · cases h
  · simp only [look_cons] at h
    split at h
    · rename_i e; subst e; cases h; simp [Array.getElem?_append]
    · cases h
end Go.Proofs.Ytliaoaejmmkkjaa
namespace Go.Proofs.Ytliaoaejmmkkjaa
open Go

/-! what runs, runs within a round too -/
section inround
variable {P : Program}
abbrev FW (l : Nat) : Fence := Fence.wide.inRound l
theorem upon_in {o : Oper} {a : Act} {next : Act → World → Prop} {Q : Exit → Act → World → Prop} (l n : Nat) {r : Result Next} (h : o.upon P a next Q r) : o.uponIn (FW l) n P a next Q r := by
  unfold Oper.upon at h
  split at h
  · exact h
  · exact h
  · exact h
  · exact ⟨fun h => (by cases h), callsIn_wide.2 h⟩
  · exact ⟨fun h => (by cases h), fun c cs _ => let ⟨v, w', r, s⟩ := h c cs; ⟨v, w', r, stepsIn_wide.2 s⟩⟩
  · exact h
  · exact h.elim
theorem wp_in {o : Oper} {a : Act} {w : World} {next : Act → World → Prop} {Q : Exit → Act → World → Prop} (l n : Nat) (hnd : ∀ c, o.op ≠ .defer c) (h : o.wp P a w next Q) : o.wpIn (FW l) n P a w next Q :=
  ⟨fun _ _ => trivial, by rw [Oper.semAt_eq _ _ _ hnd]; exact upon_in l n h⟩
theorem stepG_nd {N ng : Nat} {tt : List (Nat × TK)} {S : St} {o : Oper} {K : St → Prop} (h : stepG P N ng tt S o K) : ∀ c, o.op ≠ .defer c := by
  intro c e
  unfold stepG at h
  rw [e] at h
  split at h
  · exact h
  · exact h
variable {tt : List (Nat × TK)} (hT : TKok P tt) {c : Cx}
include hT in
theorem regionG_soundIn (l n : Nat) {ops : Array Oper} {Q : Exit → Act → World → Prop} {K : St → Prop} (hK : ∀ a w, Lift c K a w → Q .normal a w) : ∀ (lst : List Oper) {S : St} {a : Act} {w : World} {f : NM},
    Sat c f S a w → regionG P c.N c.ng tt ops.toList lst K S → wpListIn (FW l) n P ops Q lst a w := by
  intro lst
  induction lst with
  | nil => intro S a w f H h; exact hK _ _ ⟨S, f, h, H⟩
  | cons o lst ih =>
    intro S a w f H h
    have hnext : ∀ a w, Lift c (regionG P c.N c.ng tt ops.toList lst K) a w → wpListIn (FW l) n P ops Q lst a w := fun a w ⟨S', f', h1, h2⟩ => ih h2 h1
    have skip : ∀ {S : St}, Sat c f S a w → skipG c.N S o (regionG P c.N c.ng tt ops.toList lst K) → wpListIn (FW l) n P ops Q lst (a.put o.dst undef) w := by
      intro S H h
      unfold skipG at h
      split at h
      · rename_i hd; rw [putK_eq] at h; exact ih (H.put hd (VR.undef f)) h
      · exact h.elim
    simp only [regionG] at h
    unfold wpListIn
    split at h
    · rename_i hg
      rw [if_pos (by simp [Region.wanted, hg])]
      exact wp_in l n (stepG_nd h) (stepG_sound hT hnext H h)
    · rename_i j b hg
      split at h
      · rename_i d op ty ps af gu t hh n' hj
        have hj' : ops[j]? = some ⟨some d, op, ty, ps, af, gu⟩ := by simpa using hj
        split at h
        · rename_i y hy
          obtain ⟨v', h1, h2⟩ := H.tms d _ hy
          cases h2
          have hyl : yielded ops a.tmps j = some y := by simp [yielded, hj', h1]
          have hre : ∀ z, y = z → Sat c f ⟨(d, .bool z) :: t, hh, n'⟩ a w := by
            intro z hz
            subst hz
            refine { H with tms := fun k v hk => ?_ }
            rw [look_cons] at hk
            by_cases e : d = k
            · subst e; rw [if_pos rfl] at hk; cases hk; exact H.tms d _ hy
            · rw [if_neg e] at hk; exact H.tms k v hk
          split at h
          · cases y with
            | true =>
              rw [if_pos (by simp [Region.wanted, hg, hyl])]
              exact wp_in l n (stepG_nd h) (stepG_sound hT hnext (hre true rfl) h)
            | false =>
              rw [if_neg (by simp [Region.wanted, hg, hyl])]
              exact ⟨fun _ _ => trivial, skip (hre false rfl) h⟩
          · cases y with
            | true =>
              rw [if_neg (by simp [Region.wanted, hg, hyl])]
              exact ⟨fun _ _ => trivial, skip (hre true rfl) h⟩
            | false =>
              rw [if_pos (by simp [Region.wanted, hg, hyl])]
              exact wp_in l n (stepG_nd h) (stepG_sound hT hnext (hre false rfl) h)
        · rename_i tv hy
          obtain ⟨v', h1, h2⟩ := H.tms d _ hy
          cases h2
          have hyl : yielded ops a.tmps j = none := by simp [yielded, hj', h1]
          rw [if_neg (by simp [Region.wanted, hg, hyl])]
          exact ⟨fun _ _ => trivial, skip H h⟩
        · exact h.elim
      · exact h.elim
/-- no loop, and no order that is drawn -/
def calm : Code → Bool
  | .skip | .exit _ | .label _ | .ret => true
  | .region _ _ dr => !dr
  | .seq a b => calm a && calm b
  | .cond _ a b => calm a && calm b
  | .block _ c => calm c
  | _ => false
include hT in
theorem wpG_soundIn (l n : Nat) (hng : c.ng ≤ c.lo) : ∀ (code : Code) (Q : Exit → St → Prop) (S : St) (f : NM) (a : Act) (w : World), calm code = true →
    Sat c f S a w → wpG P c.N c.ng c.lo tt code Q S → code.wpIn (FW l) n P (LiftQ c Q) a w := by
  intro code
  induction code with
  | skip => intro Q S f a w _ H h; exact wpIn_skip ⟨S, f, h, H⟩
  | region id ops dr =>
    intro Q S f a w hc H h
    cases dr with
    | false =>
      have go : ∀ K : St → Prop, (∀ a w, Lift c K a w → LiftQ c Q .normal a w) → regionG P c.N c.ng tt ops.toList ops.toList K S → (Code.region id ops false).wpIn (FW l) n P (LiftQ c Q) a w := fun K hK h =>
        wpIn_region_list (regionG_soundIn hT l n (ops := ops) (K := K) (Q := LiftQ c Q) hK ops.toList H h)
      simp only [wpG] at h
      split at h
      · cases h with
        | direct h2 => exact go _ (fun a w hl => hl) h2
        | join S1 h2 h3 =>
          refine go _ ?_ (h2 (fun S' => Wk c.lo S' S1) fun _ h => h)
          rintro a' w' ⟨S', f', q1, q2⟩
          obtain ⟨f2, q3, _⟩ := q1.out c f' a' w' rfl hng q2
          exact ⟨S1, f2, h3, q3⟩
      · exact go _ (fun a w hl => hl) h
    | true => cases hc
  | seq x y ihx ihy =>
    intro Q S f a w hc H h
    simp only [calm, Bool.and_eq_true] at hc
    refine wpIn_seq (wpIn_mono (ihx _ S f a w hc.1 H h) ?_)
    rintro e a' w' ⟨S', f', h1, h2⟩
    cases e with
    | normal => exact ihy Q S' f' a' w' hc.2 h2 h1
    | _ => exact ⟨S', f', h1, h2⟩
  | cond x p q ihp ihq =>
    intro Q S f a w hc H h
    simp only [calm, Bool.and_eq_true] at hc
    simp only [wpG] at h
    split at h
    · rename_i t ht
      have h0 := H.ev.eval ht
      have h1 : a.eval x = .bool t := by
        generalize a.eval x = z at h0
        cases h0; rfl
      cases t with
      | true => exact wpIn_cond_true h1 (ihp Q S f a w hc.1 H h)
      | false => exact wpIn_cond_false h1 (ihq Q S f a w hc.2 H h)
    · exact h.elim
  | block id b ih =>
    intro Q S f a w hc H h
    refine wpIn_block (wpIn_mono (ih _ S f a w hc H h) ?_)
    rintro e a' w' ⟨S', f', h1, h2⟩
    cases e with
    | exit j =>
      simp only at h1
      simp only [Exit.inBlock]
      split at h1
      · rename_i e; rw [if_pos (Nat.eq_of_beq_eq_true e)]; exact ⟨S', f', h1, h2⟩
      · rename_i e
        rw [if_neg (fun hh => by rw [hh] at e; simp at e)]; exact ⟨S', f', h1, h2⟩
    | _ => exact ⟨S', f', h1, h2⟩
  | exit id => intro Q S f a w _ H h; exact wpIn_exit ⟨S, f, h, H⟩
  | label l => intro Q S f a w _ H h; exact wpIn_label ⟨S, f, h, H⟩
  | ret => intro Q S f a w _ H h; exact wpIn_ret ⟨S, f, h, H⟩
  | loop b ih => intro Q S f a w hc H h; cases hc
  | rangeFunc => intro Q S f a w hc H h; cases hc
  | scope => intro Q S f a w hc H h; cases hc
  | goto => intro Q S f a w hc H h; cases hc
  | refuse => intro Q S f a w hc H h; cases hc
end inround

/-! how two worlds hang together -/
structure Lk (f : NM) (w : World) (X : Nat → Prop) (g : NM) (w' : World) : Prop where
  le : NM.le f g
  owx : ∀ b n, g.ow b = some n → (∃ n0, f.ow b = some n0 ∧ n ≤ n0) ∨ w.heap.size ≤ b
  kp : ∀ b n, f.ow b = some n → ∃ n', g.ow b = some n' ∧ n' ≤ n
  new : ∀ n b, g n = some b → (∃ m, f m = some b) ∨ w.heap.size ≤ b
  far : ∀ b, b < w.heap.size → f.ow b = none → ¬ X b → w'.heap[b]? = w.heap[b]?
  grow : w.heap.size ≤ w'.heap.size
  os : w'.os = w.os
  tape : w'.tape = w.tape
  out : w'.output = w.output
  dr : w.drawn ≤ w'.drawn
theorem Sat.lk {c : Cx} {f : NM} {S : St} {a : Act} {w : World} (H : Sat c f S a w) : Lk c.f0 c.w0 (fun _ => False) f w :=
  { le := H.ext, owx := fun b n h => (H.owx b n h).1, kp := H.kp, new := H.new, far := fun b h1 h2 _ => H.far b h1 h2, grow := H.grow, os := H.os, tape := H.tape, out := H.out, dr := H.dr }
theorem Lk.trans {f g h : NM} {w w' w'' : World} {X : Nat → Prop} (p : Lk f w X g w') (q : Lk g w' X h w'') : Lk f w X h w'' where
  le := p.le.trans q.le
  owx := fun b n e => by
    rcases q.owx b n e with ⟨n1, h1, h2⟩ | h1
    · rcases p.owx b n1 h1 with ⟨n2, h3, h4⟩ | h3
      · exact Or.inl ⟨n2, h3, Nat.le_trans h2 h4⟩
      · exact Or.inr h3
    · exact Or.inr (Nat.le_trans p.grow h1)
  kp := fun b n e => by
    obtain ⟨n1, h1, h2⟩ := p.kp b n e
    obtain ⟨n2, h3, h4⟩ := q.kp b n1 h1
    exact ⟨n2, h3, Nat.le_trans h4 h2⟩
  new := fun n b e => by
    rcases q.new n b e with ⟨m, h1⟩ | h1
    · exact p.new m b h1
    · exact Or.inr (Nat.le_trans p.grow h1)
  far := fun b h1 h2 h3 => by
    rw [q.far b (Nat.lt_of_lt_of_le h1 p.grow) (by
      cases e : g.ow b with
      | none => rfl
      | some n =>
        rcases p.owx b n e with ⟨n0, h4, _⟩ | h4
        · rw [h2] at h4; cases h4
        · omega) h3]
    exact p.far b h1 h2 h3
  grow := Nat.le_trans p.grow q.grow
  os := q.os.trans p.os
  tape := q.tape.trans p.tape
  out := q.out.trans p.out
  dr := Nat.le_trans p.dr q.dr
theorem Lk.mono {f g : NM} {w w' : World} {X Y : Nat → Prop} (p : Lk f w X g w') (h : ∀ b, b < w.heap.size → f.ow b = none → X b → Y b ∨ w'.heap[b]? = w.heap[b]?) : Lk f w Y g w' := by
  refine { p with far := ?_ }
  intro b h1 h2 h3
  by_cases e : X b
  · exact (h b h1 h2 e).resolve_left h3
  · exact p.far b h1 h2 e
theorem Lk.free {f g : NM} {w w' : World} {X : Nat → Prop} (p : Lk f w X g w') {b : Nat} (h1 : b < w.heap.size) (h2 : f.ow b = none) : g.ow b = none := by
  cases e : g.ow b with
  | none => rfl
  | some n =>
    rcases p.owx b n e with ⟨n0, h4, _⟩ | h4
    · rw [h2] at h4; cases h4
    · omega
theorem Lk.put (f : NM) (w : World) (D : Nat) (o : Obj) : Lk f w (fun b => b = D) f (w.putObj D o) where
  le := NM.le.refl f
  owx := fun b n h => Or.inl ⟨n, h, Nat.le_refl _⟩
  kp := fun b n h => ⟨n, h, Nat.le_refl _⟩
  new := fun n b h => Or.inl ⟨n, h⟩
  far := fun b _ _ h => World.putObj_heap_other h
  grow := by simp
  os := rfl
  tape := rfl
  out := rfl
  dr := Nat.le_refl _
/-- the loop's record, and the block of its deferred calls -/
def bare : Obj → Bool
  | .loop _ => true
  | .deferred _ => true
  | _ => false
theorem Holds.turn {f : NM} {w : World} {n : Nat} {g : GO} {D : Nat} {o o' : Obj} (h : Holds f w n g) (hD : w.heap[D]? = some o) (ho : bare o = true) (how : f.ow D = none) : Holds f (w.putObj D o') n g := by
  cases g with
  | rw p =>
    intro b hb
    obtain ⟨q, h1, h2, h3⟩ := h b hb
    refine ⟨q, h1, ?_, h3⟩
    rw [World.putObj_heap_other (fun e => by subst e; rw [how] at h1; cases h1)]; exact h2
  | ro p =>
    intro b hb
    obtain ⟨q, h1, h2, h3⟩ := h b hb
    refine ⟨q, h1, ?_, h3⟩
    rw [World.putObj_heap_other (fun e => by subst e; rw [hD] at h2; cases h2; cases h3 <;> cases ho)]; exact h2
  | abs R =>
    obtain ⟨b, F, h1, h2, h3⟩ := h
    exact ⟨b, F, h1, h2, R.keeps w _ b F h3 (fun k hk => World.putObj_heap_other (fun e => by subst e; rw [h2 _ hk] at how; cases how)) (by simp)⟩
theorem Before.turn {ng : Nat} {f : NM} {h : List (Nat × GO)} {ns : List Nat} {w : World} (B : Before ng f h ns w) {D : Nat} {o o' : Obj} (hD : w.heap[D]? = some o) (ho : bare o = true) (how : f.ow D = none) : Before ng f h ns (w.putObj D o') :=
  { B with lt := fun n b e => by simpa using B.lt n b e, sees := fun n g e => (B.sees n g e).turn hD ho how, owx := fun b n e => by simpa using B.owx b n e }
/-- a state, as it is, is where a new stretch begins -/
theorem Before.start {ng : Nat} {f : NM} {S : St} {w : World} {N lo : Nat} {r : List Nat} {a : Act} (B : Before ng f S.h S.n w) (hn : S.n = lo :: r) (htm : ∀ k v, look S.t k = some v → ∃ v', a.tmps[k]? = some v' ∧ VR f v v') (hs : a.tmps.size = N) :
    Sat ⟨f, w, N, ng, lo, a.defers⟩ f S a w where
  lt := B.lt
  glob := B.glob
  top := B.top
  asc := B.asc
  low := fun x hx => by
    have := B.asc
    rw [hn] at hx this
    rcases List.mem_cons.1 hx with rfl | hx
    · exact Nat.le_refl _
    · exact Nat.le_of_lt ((List.pairwise_cons.1 this).1 x hx)
  f0lo := fun m hm => B.top lo (by rw [hn]; simp) m hm
  sees := B.sees
  owx := fun b n h => ⟨Or.inl ⟨n, h, Nat.le_refl _⟩, B.owx b n h⟩
  kp := fun b n h => ⟨n, h, Nat.le_refl _⟩
  ol := B.ol
  olo := fun b n h => B.ol b n h lo (by rw [hn]; simp)
  tms := htm
  size := hs
  defers := rfl
  ext := NM.le.refl f
  new := fun n b h => Or.inl ⟨n, h⟩
  far := fun b _ _ => rfl
  grow := Nat.le_refl _
  os := rfl
  tape := rfl
  out := rfl
  dr := Nat.le_refl _
/-- a state out of what is known here, and how it hangs together with where the stretch began -/
theorem Sat.of_lk {c : Cx} {f : NM} {S : St} {a : Act} {w : World} (B : Before c.ng f S.h S.n w) (L : Lk c.f0 c.w0 (fun _ => False) f w) (low : ∀ x, x ∈ S.n → c.lo ≤ x) (f0lo : ∀ m, c.lo ≤ m → c.f0 m = none) (olo : ∀ b n, c.f0.ow b = some n → n < c.lo)
    (tms : ∀ k v, look S.t k = some v → ∃ v', a.tmps[k]? = some v' ∧ VR f v v') (size : a.tmps.size = c.N) (defers : a.defers = c.ds) : Sat c f S a w :=
  { lt := B.lt, glob := B.glob, top := B.top, asc := B.asc, low := low, f0lo := f0lo, sees := B.sees, owx := fun b n h => ⟨L.owx b n h, B.owx b n h⟩, kp := L.kp, ol := B.ol, olo := olo, tms := tms, size := size, defers := defers, ext := L.le, new := L.new, far := fun b h1 h2 => L.far b h1 h2 id, grow := L.grow, os := L.os, tape := L.tape, out := L.out, dr := L.dr }
/-- an iterator's step plays no part -/
def noRo : List (Nat × GO) → Bool
  | [] => true
  | (_, .ro _) :: _ => false
  | _ :: r => noRo r
theorem noRo_look {h : List (Nat × GO)} (hh : noRo h = true) {n : Nat} {o : Obj} : look h n ≠ some (.ro o) := by
  induction h with
  | nil => intro e; cases e
  | cons x r ih =>
    obtain ⟨m, g⟩ := x
    intro e
    rw [look_cons] at e
    split at e
    · cases e; cases hh
    · refine ih ?_ e
      cases g with
      | ro o => cases hh
      | rw o => exact hh
      | abs R => exact hh
theorem Sat.stp {c : Cx} {f : NM} {S : St} {a : Act} {w w' : World} (H : Sat c f S a w) (hro : noRo S.h = true) {U U' : Nat → Prop} (hU : ∀ b, U b → f.ow b = none) (s : Stp c.w0.heap.size U U' w w') : Sat c f S a w' where
  lt := fun n b h => Nat.lt_of_lt_of_le (H.lt n b h) s.grow
  glob := H.glob
  top := H.top
  asc := H.asc
  low := H.low
  f0lo := H.f0lo
  sees := fun n g hg => by
    have h0 := H.sees n g hg
    have key : ∀ b m, f.ow b = some m → w'.heap[b]? = w.heap[b]? := fun b m hb => s.chg b (H.owx b m hb).2 (Or.inl fun hu => by rw [hU b hu] at hb; cases hb)
    cases g with
    | rw o =>
      intro b hb
      obtain ⟨q, h1, h2, h3⟩ := h0 b hb
      exact ⟨q, h1, (key b n h1).trans h2, h3⟩
    | ro o => exact absurd hg (noRo_look hro)
    | abs R =>
      obtain ⟨b, F, h1, h2, h3⟩ := h0
      exact ⟨b, F, h1, h2, R.keeps w w' b F h3 (fun k hk => key k n (h2 k hk)) s.grow⟩
  owx := fun b n h => ⟨(H.owx b n h).1, Nat.lt_of_lt_of_le (H.owx b n h).2 s.grow⟩
  kp := H.kp
  ol := H.ol
  olo := H.olo
  tms := H.tms
  size := H.size
  defers := H.defers
  ext := H.ext
  new := H.new
  far := fun b h1 h2 => by rw [s.chg b (Nat.lt_of_lt_of_le h1 H.grow) (Or.inr h1)]; exact H.far b h1 h2
  grow := Nat.le_trans H.grow s.grow
  os := s.os.trans H.os
  tape := s.tape.trans H.tape
  out := s.out.trans H.out
  dr := Nat.le_trans H.dr s.dr
end Go.Proofs.Ytliaoaejmmkkjaa
namespace Go.Proofs.Ytliaoaejmmkkjaa
open Go

/-! a range over a function -/
def keepN (N : List Nat) : List (Nat × GO) → List (Nat × GO)
  | [] => []
  | (n, g) :: r => match memL n N with
    | true => (n, g) :: keepN N r
    | false => keepN N r
theorem look_keepN {N : List Nat} {h : List (Nat × GO)} {n : Nat} {g : GO} (e : look (keepN N h) n = some g) : memL n N = true ∧ look h n = some g := by
  induction h with
  | nil => cases e
  | cons x r ih =>
    obtain ⟨m, p⟩ := x
    simp only [keepN] at e
    cases hm : memL m N with
    | false =>
      rw [hm] at e
      obtain ⟨h1, h2⟩ := ih e
      refine ⟨h1, ?_⟩
      rw [look_cons, if_neg (fun e2 => by subst e2; rw [hm] at h1; cases h1)]
      exact h2
    | true =>
      rw [hm] at e
      simp only at e
      rw [look_cons] at e ⊢
      split at e
      · rename_i e2; subst e2; rw [if_pos rfl]; exact ⟨hm, e⟩
      · rename_i e2; rw [if_neg e2]; exact ih e
theorem look_append {α : Type} {x y : List (Nat × α)} {n : Nat} {g : α} (e : look (x ++ y) n = some g) : look x n = some g ∨ look y n = some g := by
  induction x with
  | nil => exact Or.inr e
  | cons z r ih =>
    obtain ⟨m, p⟩ := z
    rw [List.cons_append, look_cons] at e
    rw [look_cons]
    split at e
    · rename_i e2; rw [if_pos e2]; exact Or.inl e
    · rename_i e2; rw [if_neg e2]; exact ih e
def onlyN (f : NM) (N : List Nat) : NM := ⟨f.m, fun q => match f.ow q with
  | some m => match memL m N with
    | true => some m
    | false => none
  | none => none⟩
theorem onlyN_ow {f : NM} {N : List Nat} {b n : Nat} : (onlyN f N).ow b = some n ↔ f.ow b = some n ∧ memL n N = true := by
  show (match f.ow b with | some m => (match memL m N with | true => some m | false => none) | none => none) = some n ↔ _
  cases e : f.ow b with
  | none => simp
  | some m =>
    show (match memL m N with | true => some m | false => none) = some n ↔ some m = some n ∧ _
    cases e2 : memL m N with
    | true =>
      constructor
      · intro h; cases h; exact ⟨rfl, e2⟩
      · rintro ⟨h, _⟩; cases h; rfl
    | false =>
      constructor
      · intro h; cases h
      · rintro ⟨h, h2⟩; cases h; rw [e2] at h2; cases h2
def backN (f g : NM) (N : List Nat) : NM := ⟨g.m, fun q => match g.ow q with
  | some n => some n
  | none => match f.ow q with
    | some m => match memL m N with
      | true => none
      | false => some m
    | none => none⟩
theorem backN_ow {f g : NM} {N : List Nat} {b n : Nat} (h : (backN f g N).ow b = some n) : g.ow b = some n ∨ (g.ow b = none ∧ f.ow b = some n ∧ memL n N = false) := by
  have h : (match g.ow b with | some n => some n | none => (match f.ow b with | some m => (match memL m N with | true => none | false => some m) | none => none)) = some n := h
  cases e : g.ow b with
  | some m => rw [e] at h; exact Or.inl h
  | none =>
    rw [e] at h
    cases e1 : f.ow b with
    | none => rw [e1] at h; cases h
    | some m =>
      rw [e1] at h
      cases e2 : memL m N with
      | true => simp [e2] at h
      | false => simp [e2] at h; subst h; exact Or.inr ⟨rfl, rfl, e2⟩
theorem backN_1 {f g : NM} {N : List Nat} {b n : Nat} (h : g.ow b = some n) : (backN f g N).ow b = some n := by
  show (match g.ow b with | some n => some n | none => (match f.ow b with | some m => (match memL m N with | true => none | false => some m) | none => none)) = some n
  rw [h]
theorem backN_2 {f g : NM} {N : List Nat} {b n : Nat} (h : g.ow b = none) (h1 : f.ow b = some n) (h2 : memL n N = false) : (backN f g N).ow b = some n := by
  show (match g.ow b with | some n => some n | none => (match f.ow b with | some m => (match memL m N with | true => none | false => some m) | none => none)) = some n
  rw [h]; simp only [h1]; rw [h2]
theorem backN_3 {f g : NM} {N : List Nat} {b : Nat} (h : g.ow b = none) (h1 : f.ow b = none) : (backN f g N).ow b = none := by
  cases e : (backN f g N).ow b with
  | none => rfl
  | some n =>
    rcases backN_ow e with h2 | ⟨_, h2, _⟩
    · rw [h] at h2; cases h2
    · rw [h1] at h2; cases h2

/-- what an iterator comes to -/
def IterAt (P : Program) (n k : Nat) (lb : Array Value) (F : Nat → Prop) (E : List (Int × Int)) (w : World) : Prop :=
  ∀ (l : Nat) (J : (Nat → Prop) → List (Int × Int) → World → Prop) (W0 : World) (U0 : Nat → Prop), (∀ b, F b → U0 b) → (∀ b, U0 b → b < W0.heap.size) → (∀ b, F b → W0.heap[b]? = w.heap[b]?) →
    JOk P n l W0.heap.size E J → J U0 [] W0 → CallsIn Fence.wide n P k (#[.func (.yield l) #[] #[]] ++ lb) W0 fun e W' => (∃ v, e = .returned v) ∧ ∃ xs U, xs.Perm E ∧ J U xs W'

inductive EndK {κ : Type} (lo1 : Nat) (st : κ → List (Nat × GO)) (I : κ → List (Int × Int) → Prop) (n2 : List Nat) (pre : List (Int × Int)) : Exit → St → Prop
  | mk (k : κ) {t : List (Nat × Value)} {h : List (Nat × GO)} {n : List Nat} : I k pre → Wk lo1 ⟨[], h, n⟩ ⟨[], st k, n2⟩ → EndK lo1 st I n2 pre .normal ⟨t, h, n⟩
section
variable (P : Program) (N ng : Nat) (tt : List (Nat × TK))
def RoundQ (body : Code) (QE : Exit → St → Prop) (e : Exit) (S1 : St) : Prop := match e, S1 with
  | .normal, ⟨t1, h1, lo3 :: r3⟩ => wpG P N ng lo3 tt body QE ⟨t1, h1, lo3 :: r3⟩
  | _, _ => False
end
abbrev markD (D : Nat) : List Deferred := [{ target := .collected D, args := #[] }]
theorem plain_call {P : Program} {k : Nat} (hp : Plain P k) (args : Array Value) (w : World) : (callFunc k args).run P w = .ok (.enter k args) w := by
  obtain ⟨fn, q1, q2, q3⟩ := hp
  simp only [callFunc, Sem.run_bind, run_program, Result.andThen_ok, q1]
  rw [if_neg (by simp [q2]), if_neg (by simp [q3])]
  simp
theorem range_sound {P : Program} {tt : List (Nat × TK)} (hT : TKok P tt) {c : Cx} (hds : c.ds = []) (hng : c.ng ≤ c.lo) {f : NM} {t : List (Nat × Value)} {h : List (Nat × GO)} {ns : List Nat} {a : Act} {w : World} (H : Sat c f ⟨t, h, ns⟩ a w)
    {n k p : Nat} {g : Operand} {assign body : Code} {lb : Array Value} (hg : a.eval g = .func (.func k) #[] lb) (hk : Plain P k) (hp : dstOk c.N (some p) = true)
    (N1 : List Nat) {nb bx : Nat} (hnb : f nb = some bx) (hdr : ∀ m p, look (dropN N1 h) m = some p → (∃ R, p = .abs R) ∨ m = nb) {lo1 lo2 : Nat} {r1 r2 : List Nat} (hn1 : ns = lo1 :: r1) {κ : Type} (st : κ → List (Nat × GO)) (I : κ → List (Int × Int) → Prop) (k0 : κ) (hk0 : I k0 []) (E : List (Int × Int)) (F : Nat → Prop)
    (hro : ∀ k, noRo (st k) = true) (h0 : Wk lo1 ⟨t, keepN N1 h, ns⟩ ⟨t, st k0, lo2 :: r2⟩) (ha : calm assign = true) (hb : calm body = true)
    (hrd : ∀ k pre x, I k pre → (∃ rest, (pre ++ x :: rest).Perm E) → wpG P c.N c.ng lo2 tt assign (RoundQ P c.N c.ng tt body (EndK lo1 st I (lo2 :: r2) (pre ++ [x]))) ⟨(p, tmV x) :: t, st k, lo2 :: r2⟩)
    (hF : ∀ b, F b → b < w.heap.size ∧ (onlyN f N1).ow b = none) (hit : IterAt P (n - 1) k lb F E w) {Q : Exit → Act → World → Prop}
    (hQ : ∀ k xs g' W D, I k xs → xs.Perm E → Sat ⟨c.f0, c.w0, c.N, c.ng, c.lo, markD D⟩ g' ⟨t, st k ++ dropN N1 h, lo2 :: r2⟩ { a with defers := markD D } W → g'.ow D = none → W.heap[D]? = some (.deferred (some [])) → c.w0.heap.size ≤ D → Q .normal { a with defers := markD D } W) :
    (Code.rangeFunc g #[p] assign body).wpIn Fence.wide n P Q a w := by
  have had : a.defers = [] := H.defers.trans hds
  refine wpIn_rangeFunc ?_
  intro fn _
  obtain ⟨rec, hrec⟩ : ∃ rec : LoopState → Option Code → Loop, rec = fun s pe => { state := s, pending := pe, fn, tmps := a.tmps, params := #[p], assign, body, defers := w.heap.size } := ⟨_, rfl⟩
  obtain ⟨W1, hW1⟩ : ∃ W1, (w.alloc (.deferred (some []))).alloc (.loop (rec .ready none)) = W1 := ⟨_, rfl⟩
  have hsz : W1.heap.size = w.heap.size + 2 := by rw [← hW1]; simp
  have hold : ∀ b, b < w.heap.size → W1.heap[b]? = w.heap[b]? := fun b hb => by
    rw [← hW1, heap_alloc_old _ _ (by simp; omega), heap_alloc_old _ _ hb]
  have hL1 : W1.heap[w.heap.size + 1]? = some (.loop (rec .ready none)) := by
    rw [← hW1]; have := World.alloc_heap_new (w.alloc (.deferred (some []))) (.loop (rec .ready none)); rwa [World.size_alloc] at this
  have hD1 : W1.heap[w.heap.size]? = some (.deferred (some [])) := by
    rw [← hW1, heap_alloc_old _ _ (by simp)]; exact World.alloc_heap_new w _
  have hW1r : W1.os = w.os ∧ W1.tape = w.tape ∧ W1.output = w.output ∧ W1.drawn = w.drawn := by rw [← hW1]; exact ⟨rfl, rfl, rfl, rfl⟩
  -- the loop's own stretch
  obtain ⟨f1, hf1⟩ : ∃ f1, onlyN f N1 = f1 := ⟨_, rfl⟩
  have f1m : ∀ m, f1 m = f m := fun m => by rw [← hf1]; rfl
  have f1o : ∀ b m, f1.ow b = some m → f.ow b = some m := fun b m e => by rw [← hf1] at e; exact (onlyN_ow.1 e).1
  have f1n : ∀ b, f.ow b = none → f1.ow b = none := fun b e => by
    cases e1 : f1.ow b with
    | none => rfl
    | some m => have := f1o b m e1; rw [e] at this; cases this
  have B1 : Before c.ng f1 (keepN N1 h) ns W1 := by
    refine { lt := fun m b e => ?_, glob := fun g hg => (f1m g).trans (H.glob g hg), top := fun x hx m hm => (f1m m).trans (H.top x hx m hm), asc := H.asc, sees := fun m p e => ?_, owx := fun b m e => ?_, ol := fun b m e => H.ol b m (f1o b m e) }
    · rw [f1m] at e; have := H.lt m b e; omega
    · obtain ⟨e1, e2⟩ := look_keepN e
      have h1 := H.sees m p e2
      have hle : NM.le f f1 := fun m b e => (f1m m).trans e
      cases p with
      | rw o =>
        intro b hb
        rw [f1m] at hb
        obtain ⟨o', k1, k2, k3⟩ := h1 b hb
        exact ⟨o', by rw [← hf1]; exact onlyN_ow.2 ⟨k1, e1⟩, (hold b (H.lt m b hb)).trans k2, k3.mono hle⟩
      | ro o =>
        intro b hb
        rw [f1m] at hb
        obtain ⟨o', k1, k2, k3⟩ := h1 b hb
        exact ⟨o', f1n b k1, (hold b (H.lt m b hb)).trans k2, k3.mono hle⟩
      | abs R =>
        obtain ⟨b, G, k1, k2, k3⟩ := h1
        exact ⟨b, G, hle _ _ k1, fun q hq => (by rw [← hf1]; exact onlyN_ow.2 ⟨k2 q hq, e1⟩), R.keeps w W1 b G k3 (fun q hq => hold q (H.owx q m (k2 q hq)).2) (by omega)⟩
    · have := (H.owx b m (f1o b m e)).2; omega
  have hfl : f1.ow (w.heap.size + 1) = none := by
    cases e : f1.ow (w.heap.size + 1) with
    | none => rfl
    | some m => have := (H.owx _ m (f1o _ m e)).2; omega
  have hfD : f.ow w.heap.size = none := by
    cases e : f.ow w.heap.size with
    | none => rfl
    | some m => have := (H.owx _ m e).2; omega
  obtain ⟨c1, hc1⟩ : ∃ c1 : Cx, c1 = ⟨f1, W1, c.N, c.ng, lo1, []⟩ := ⟨_, rfl⟩
  have S0 : Sat c1 f1 ⟨t, keepN N1 h, ns⟩ a W1 := by
    have := Before.start (S := ⟨t, keepN N1 h, ns⟩) (a := a) B1 hn1 (fun k v hk => by
      obtain ⟨v', q1, q2⟩ := H.tms k v hk
      exact ⟨v', q1, q2.mono fun m b e => (f1m m).trans e⟩) H.size
    rw [had] at this
    rw [hc1]; exact this
  have hlo1 : c.lo ≤ lo1 := H.low lo1 (by rw [hn1]; simp)
  have hng1 : c1.ng ≤ lo1 := by rw [hc1]; exact Nat.le_trans hng hlo1
  obtain ⟨f2, S2, o2⟩ := h0 c1 f1 a W1 (by rw [hc1]) hng1 S0
  let J : (Nat → Prop) → List (Int × Int) → World → Prop := fun U pre W => ∃ kk fj, I kk pre ∧ Sat c1 fj ⟨t, st kk, lo2 :: r2⟩ a W ∧ ∀ b, U b → fj.ow b = none ∧ b < W.heap.size
  have hJ : JOk P (n - 1) (w.heap.size + 1) W1.heap.size E J := by
    refine ⟨?_, ?_⟩
    · rintro U U' pre W W' ⟨kk, fj, q0, q1, q2⟩ s
      refine ⟨kk, fj, q0, q1.stp (hro kk) (U := U) (U' := U') (fun b hb => (q2 b hb).1) (by rw [hc1]; exact s), fun b hb => ?_⟩
      rcases s.new b hb with h1 | ⟨h1, h2⟩
      · exact ⟨(q2 b h1).1, Nat.lt_of_lt_of_le (q2 b h1).2 s.grow⟩
      · refine ⟨?_, h2⟩
        cases e : fj.ow b with
        | none => rfl
        | some m => have := (q1.owx b m e).2; omega
    · rintro U pre x W hE ⟨kk, fj, q0, q1, q2⟩
      have hf0 : c1.f0 = f1 := by rw [hc1]
      have hw0 : c1.w0 = W1 := by rw [hc1]
      have hlk := q1.lk
      rw [hf0, hw0] at hlk
      have hlj : fj.ow (w.heap.size + 1) = none := hlk.free (by omega) hfl
      have hLW : W.heap[w.heap.size + 1]? = some (.loop (rec .ready none)) := (hlk.far _ (by omega) hfl id).trans hL1
      have hlW : w.heap.size + 1 < W.heap.size := (Array.getElem?_eq_some_iff.1 hLW).1
      have hy := run_yield (P := P) (args := #[tmV x]) hLW (by rw [hrec]; rfl)
      rw [hrec] at hy
      refine ⟨fn, _, assign, body, hy, roundIn_of_wpIn trivial ?_⟩
      -- the assignment
      have hfold : ((#[p] : Array Nat).zip #[tmV x]).foldl (fun t (p, v) => t.setIfInBounds p v) a.tmps = a.tmps.setIfInBounds p (tmV x) := by simp
      show assign.wpIn (FW _) _ P _ { tmps := ((#[p] : Array Nat).zip #[tmV x]).foldl (fun t (p, v) => t.setIfInBounds p v) a.tmps, defers := [] } W
      rw [hfold]
      have hcx : ∃ cr : Cx, cr = ⟨fj, W, c.N, c.ng, lo2, []⟩ := ⟨_, rfl⟩
      obtain ⟨cr, hcr⟩ := hcx
      have hngr : c1.ng = c.ng := by rw [hc1]
      have hNr : c1.N = c.N := by rw [hc1]
      have Sr : Sat cr fj ⟨(p, tmV x) :: t, st kk, lo2 :: r2⟩ { tmps := a.tmps.setIfInBounds p (tmV x), defers := [] } W := by
        have B := q1.before
        rw [hngr] at B
        have := Before.start (S := ⟨t, st kk, lo2 :: r2⟩) (a := { a with defers := [] }) B rfl q1.tms (q1.size.trans hNr)
        have := this.put (d := some p) hp (clean_VR fj (v := tmV x) rfl)
        rw [hcr]; exact this
      have hcrN : cr.N = c.N := by rw [hcr]
      have hcrg : cr.ng = c.ng := by rw [hcr]
      have hcrl : cr.lo = lo2 := by rw [hcr]
      have hlo2 : lo1 ≤ lo2 := by have := q1.low lo2 (by simp); rw [hc1] at this; exact this
      have hw := wpG_soundIn hT (c := cr) (w.heap.size + 1) (n - 1 - 1) (by rw [hcrg, hcrl]; exact Nat.le_trans hng (Nat.le_trans hlo1 hlo2)) assign _ _ fj _ W ha Sr (by rw [hcrN, hcrg, hcrl]; exact hrd kk pre x q0 hE)
      refine wpIn_mono hw ?_
      rintro e a1 w1 ⟨T1, g1, hq1, s1⟩
      cases e with
      | normal =>
        obtain ⟨t1, h1, n1⟩ := T1
        cases n1 with
        | nil => exact hq1.elim
        | cons lo3 r3 =>
        have L1 := s1.lk
        rw [show cr.f0 = fj by rw [hcr], show cr.w0 = W by rw [hcr]] at L1
        have hl1 : g1.ow (w.heap.size + 1) = none := L1.free hlW hlj
        have hLw1 : w1.heap[w.heap.size + 1]? = some (.loop (rec .ready none)) := (L1.far _ hlW hlj id).trans hLW
        refine ⟨_, run_beginRound hLw1 (by rw [hrec]), ?_⟩
        obtain ⟨o1, ho1⟩ : ∃ o1, o1 = Obj.loop { rec .ready none with state := .busy } := ⟨_, rfl⟩
        rw [← ho1]
        have hlt1 : w.heap.size + 1 < w1.heap.size := (Array.getElem?_eq_some_iff.1 hLw1).1
        have B3 : Before c.ng g1 h1 (lo3 :: r3) (w1.putObj (w.heap.size + 1) o1) := by
          have := s1.before; rw [hcrg] at this
          exact this.turn hLw1 rfl hl1
        have hlo3 : lo2 ≤ lo3 := by have := s1.low lo3 (by simp); rw [hcr] at this; exact this
        obtain ⟨c3, hc3⟩ : ∃ c3 : Cx, c3 = ⟨g1, w1.putObj (w.heap.size + 1) o1, c.N, c.ng, lo3, a1.defers⟩ := ⟨_, rfl⟩
        have s3 : Sat c3 g1 ⟨t1, h1, lo3 :: r3⟩ a1 (w1.putObj (w.heap.size + 1) o1) := by
          rw [hc3]; exact Before.start (S := ⟨t1, h1, lo3 :: r3⟩) B3 rfl s1.tms (s1.size.trans hcrN)
        have hwb := wpG_soundIn hT (c := c3) (w.heap.size + 1) (n - 1 - 1) (by rw [hc3]; exact Nat.le_trans hng (Nat.le_trans hlo1 (Nat.le_trans hlo2 hlo3))) body _ _ g1 _ _ hb s3 (by rw [hc3]; exact hq1)
        refine wpIn_mono hwb ?_
        rintro e a2 w3 ⟨T2, g2, hq2, s2⟩
        cases hq2 with
        | mk k2 hI2 hq2 =>
          rename_i t2 h2 n2
          have L3 := s2.lk
          rw [show c3.f0 = g1 by rw [hc3], show c3.w0 = w1.putObj (w.heap.size + 1) o1 by rw [hc3]] at L3
          have hl2 : (w.heap.size + 1) < (w1.putObj (w.heap.size + 1) o1).heap.size := by simpa using hlt1
          have hLw3 : w3.heap[w.heap.size + 1]? = some o1 := (L3.far _ hl2 hl1 id).trans (World.putObj_heap_same hlt1)
          have hg2 : g2.ow (w.heap.size + 1) = none := L3.free hl2 hl1
          have hlt3 : w.heap.size + 1 < w3.heap.size := (Array.getElem?_eq_some_iff.1 hLw3).1
          have hend := run_endRound (P := P) none (by rw [ho1] at hLw3; exact hLw3)
          have heo : Obj.loop { { rec .ready none with state := .busy } with state := if (none : Option Code).isNone then .ready else .done, pending := none } = .loop (rec .ready none) := by rw [hrec]; rfl
          rw [heo] at hend
          refine ⟨_, _, hend, rfl, ?_⟩
          obtain ⟨w4, hw4⟩ : ∃ w4, w4 = w3.putObj (w.heap.size + 1) (.loop (rec .ready none)) := ⟨_, rfl⟩
          rw [← hw4]
          have L : Lk fj W (fun _ => False) g2 w4 := by
            have k1 := (L1.mono (Y := fun b => b = w.heap.size + 1) fun b _ _ h => h.elim).trans ((Lk.put g1 w1 (w.heap.size + 1) o1).trans ((L3.mono (Y := fun b => b = w.heap.size + 1) fun b _ _ h => h.elim).trans (Lk.put g2 w3 (w.heap.size + 1) (.loop (rec .ready none)))))
            rw [← hw4] at k1
            refine k1.mono fun b _ _ e => Or.inr ?_
            subst e
            rw [hLW, hw4]; exact World.putObj_heap_same hlt3
          have B4 : Before c.ng g2 h2 n2 w4 := by
            have := s2.before
            rw [show c3.ng = c.ng by rw [hc3]] at this
            rw [hw4]
            exact this.turn hLw3 (by rw [ho1]; rfl) hg2
          have S4 : Sat c1 g2 ⟨[], h2, n2⟩ a w4 := by
            refine Sat.of_lk (by rw [hngr]; exact B4) (q1.lk.trans L) (fun y hy => ?_) q1.f0lo q1.olo (fun k v hk => by cases hk) q1.size q1.defers
            have := s2.low y hy
            rw [hc3] at this
            rw [hc1]
            show lo1 ≤ y
            have : lo3 ≤ y := this
            omega
          obtain ⟨g5, S5, o5⟩ := hq2 c1 g2 a w4 (by rw [hc1]) hng1 S4
          have hUn : ∀ b, U b → g2.ow b = none := fun b hb => L.free (q2 b hb).2 (q2 b hb).1
          refine ⟨⟨k2, g5, hI2, { S5 with tms := fun k v hk => ?_ }, fun b hb => ⟨o5 b (hUn b hb), Nat.lt_of_lt_of_le (q2 b hb).2 L.grow⟩⟩, fun b hb => L.far b (q2 b hb).2 (q2 b hb).1 id, L.grow⟩
          obtain ⟨v', k1, k2⟩ := H.tms k v hk
          refine ⟨v', k1, k2.mono fun m b e => S5.ext m b ?_⟩
          rw [hf0]; exact (f1m m).trans e
      | _ => exact hq1.elim
  refine ⟨w.heap.size + 1, markD w.heap.size, W1, { target := .fn (.func k) lb, args := #[.func (.yield (w.heap.size + 1)) #[] #[]] }, W1, k, #[.func (.yield (w.heap.size + 1)) #[] #[]] ++ lb, W1, ?_, ?_, ?_, ?_, fun h => (by cases h), ?_⟩
  · rw [← hW1, hrec]; exact run_enterLoop_outer _ _ _ _ _
  · simp only [resolve, hg]
    simp [go_sem]
  · intro f' _; trivial
  · simp [invoke, go_sem, plain_call hk]
  refine (hit (w.heap.size + 1) J W1 (fun b => b < W1.heap.size ∧ f1.ow b = none) (fun b hb => ⟨by have := (hF b hb).1; omega, hf1 ▸ (hF b hb).2⟩) (fun b hb => hb.1) (fun b hb => hold b (hF b hb).1) hJ ⟨k0, f2, hk0, S2, fun b hb => ⟨o2 b hb.2, hb.1⟩⟩).mono ?_
  rintro e W3 ⟨⟨v, rfl⟩, xs, U, hxs, kx, g, hIx, Sg, _⟩
  have L := Sg.lk
  rw [show c1.f0 = f1 by rw [hc1], show c1.w0 = W1 by rw [hc1]] at L
  have hL3 : W3.heap[w.heap.size + 1]? = some (.loop (rec .ready none)) := (L.far _ (by omega) hfl id).trans hL1
  have hgl : g.ow (w.heap.size + 1) = none := L.free (by omega) hfl
  have hlt3 : w.heap.size + 1 < W3.heap.size := (Array.getElem?_eq_some_iff.1 hL3).1
  have hel := run_endLoop (P := P) hL3 (by rw [hrec]; simp)
  obtain ⟨o3, ho3⟩ : ∃ o3, o3 = Obj.loop { rec .ready none with state := .exhausted } := ⟨_, rfl⟩
  rw [← ho3] at hel
  refine ⟨none, W3.putObj (w.heap.size + 1) o3, by rw [hrec] at hel; exact hel, ?_⟩
  rw [had, List.append_nil]
  have hW4 : ∀ b, b ≠ w.heap.size + 1 → (W3.putObj (w.heap.size + 1) o3).heap[b]? = W3.heap[b]? := fun b hb => World.putObj_heap_other hb
  have hgn : ∀ b, b < w.heap.size → f1.ow b = none → g.ow b = none := fun b h1 h2 => L.free (by omega) h2
  have hsame : ∀ b, b < w.heap.size → f1.ow b = none → (W3.putObj (w.heap.size + 1) o3).heap[b]? = w.heap[b]? := fun b h1 h2 => by
    rw [hW4 b (by omega), L.far b (by omega) h2 id, hold b h1]
  have hnot : ∀ b m, f.ow b = some m → memL m N1 = false → f1.ow b = none := fun b m h1 h2 => by
    cases e : f1.ow b with
    | none => rfl
    | some m' =>
      rw [← hf1] at e
      obtain ⟨e1, e2⟩ := onlyN_ow.1 e
      rw [h1] at e1; cases e1; rw [h2] at e2; cases e2
  obtain ⟨g', hg'⟩ : ∃ g', g' = backN f g N1 := ⟨_, rfl⟩
  have gm : ∀ m, g' m = g m := fun m => by rw [hg']; rfl
  have hle : NM.le f g' := fun m b e => (gm m).trans (L.le m b ((f1m m).trans e))
  have hle2 : NM.le g g' := fun m b e => (gm m).trans e
  have Bg := Sg.before
  have hgD : g.ow w.heap.size = none := L.free (by omega) (f1n _ hfD)
  have LL : Lk f w (fun _ => False) g' (W3.putObj (w.heap.size + 1) o3) := by
    refine { le := hle, owx := fun b m e => ?_, kp := fun b m e => ?_, new := fun m b e => ?_, far := fun b h1 h2 _ => hsame b h1 (f1n b h2), grow := ?_, os := L.os.trans hW1r.1, tape := L.tape.trans hW1r.2.1, out := L.out.trans hW1r.2.2.1, dr := Nat.le_trans (Nat.le_of_eq hW1r.2.2.2.symm) L.dr }
    · rw [hg'] at e
      rcases backN_ow e with e | ⟨_, e, _⟩
      · rcases L.owx b m e with ⟨n0, h1, h2⟩ | h1
        · exact Or.inl ⟨n0, f1o b n0 h1, h2⟩
        · exact Or.inr (by omega)
      · exact Or.inl ⟨m, e, Nat.le_refl _⟩
    · cases e2 : memL m N1 with
      | true =>
        obtain ⟨n', h1, h2⟩ := L.kp b m (by rw [← hf1]; exact onlyN_ow.2 ⟨e, e2⟩)
        exact ⟨n', by rw [hg']; exact backN_1 h1, h2⟩
      | false => exact ⟨m, by rw [hg']; exact backN_2 (hgn b (H.owx b m e).2 (hnot b m e e2)) e e2, Nat.le_refl _⟩
    · rw [gm] at e
      rcases L.new m b e with ⟨m', h1⟩ | h1
      · exact Or.inl ⟨m', (f1m m').symm.trans h1⟩
      · exact Or.inr (by omega)
    · have := L.grow; simp; omega
  have BB : Before c.ng g' (st kx ++ dropN N1 h) (lo2 :: r2) (W3.putObj (w.heap.size + 1) o3) := by
    rw [show c1.ng = c.ng by rw [hc1]] at Bg
    have Bt := Bg.turn (o' := o3) hL3 rfl hgl
    refine { lt := fun m b e => Bt.lt m b ((gm m).symm.trans e), glob := fun q hq => (gm q).trans (Bt.glob q hq), top := fun x hx m hm => (gm m).trans (Bt.top x hx m hm), asc := Bt.asc, sees := fun m p e => ?_, owx := fun b m e => ?_, ol := fun b m e x hx => ?_ }
    · rcases look_append e with e | e
      · have h1 := Bt.sees m p e
        cases p with
        | rw o =>
          intro b hb
          rw [gm] at hb
          obtain ⟨o', k1, k2, k3⟩ := h1 b hb
          exact ⟨o', by rw [hg']; exact backN_1 k1, k2, k3.mono hle2⟩
        | ro o => exact absurd e (noRo_look (hro kx))
        | abs R =>
          obtain ⟨b, G, k1, k2, k3⟩ := h1
          exact ⟨b, G, hle2 _ _ k1, fun q hq => (by rw [hg']; exact backN_1 (k2 q hq)), k3⟩
      · obtain ⟨e1, e2⟩ := look_dropN e
        have h1 := H.sees m p e2
        cases p with
        | rw o =>
          intro b hb
          rw [gm] at hb
          have hfb : f m = some b := by
            rcases hdr m _ e with ⟨R, h2⟩ | h2
            · cases h2
            · subst h2
              have := L.le _ bx ((f1m _).trans hnb)
              rw [hb] at this; cases this; exact hnb
          obtain ⟨o', k1, k2, k3⟩ := h1 b hfb
          have hf1b := hnot b m k1 e1
          exact ⟨o', by rw [hg']; exact backN_2 (hgn b (H.lt m b hfb) hf1b) k1 e1, (hsame b (H.lt m b hfb) hf1b).trans k2, k3.mono hle⟩
        | ro o =>
          intro b hb
          rw [gm] at hb
          have hfb : f m = some b := by
            rcases hdr m _ e with ⟨R, h2⟩ | h2
            · cases h2
            · subst h2
              have := L.le _ bx ((f1m _).trans hnb)
              rw [hb] at this; cases this; exact hnb
          obtain ⟨o', k1, k2, k3⟩ := h1 b hfb
          exact ⟨o', by rw [hg']; exact backN_3 (hgn b (H.lt m b hfb) (f1n b k1)) k1, (hsame b (H.lt m b hfb) (f1n b k1)).trans k2, k3.mono hle⟩
        | abs R =>
          obtain ⟨b, G, k1, k2, k3⟩ := h1
          refine ⟨b, G, hle _ _ k1, fun q hq => ?_, R.keeps w _ b G k3 (fun q hq => hsame q (H.owx q m (k2 q hq)).2 (hnot q m (k2 q hq) e1)) LL.grow⟩
          rw [hg']; exact backN_2 (hgn q (H.owx q m (k2 q hq)).2 (hnot q m (k2 q hq) e1)) (k2 q hq) e1
    · rw [hg'] at e
      rcases backN_ow e with e | ⟨_, e, _⟩
      · exact Bt.owx b m e
      · have := (H.owx b m e).2; have := L.grow; simp; omega
    · rw [hg'] at e
      rcases backN_ow e with e | ⟨_, e, _⟩
      · exact Bt.ol b m e x hx
      · have h1 := H.ol b m e lo1 (by rw [hn1]; simp)
        have h2 := Sg.low x hx
        rw [hc1] at h2
        have : lo1 ≤ x := h2
        omega
  have hgf : g'.ow w.heap.size = none := by rw [hg']; exact backN_3 hgD hfD
  have hDD : (W3.putObj (w.heap.size + 1) o3).heap[w.heap.size]? = some (.deferred (some [])) := by
    rw [hW4 _ (by omega), L.far _ (by omega) (f1n _ hfD) id]; exact hD1
  refine hQ kx xs g' _ w.heap.size hIx hxs ?_ hgf hDD H.grow
  refine Sat.of_lk BB (H.lk.trans LL) (fun x hx => ?_) H.f0lo H.olo (fun k v hk => ?_) H.size rfl
  · have h2 := Sg.low x hx
    rw [hc1] at h2
    exact Nat.le_trans hlo1 h2
  · obtain ⟨v', q1, q2⟩ := H.tms k v hk
    exact ⟨v', q1, q2.mono hle⟩
end Go.Proofs.Ytliaoaejmmkkjaa
namespace Go.Proofs.Ytliaoaejmmkkjaa
open Go

/-! a function that ranges over a function, once, along its main road -/
theorem ret_out {tt : List (Nat × TK)} {rs : List ResultVar} {K : Value → List (Nat × GO) → List Nat → Prop} {e : Exit} {S : St} (h : retG tt rs K e S) : (e = .ret ∨ e = .normal) ∧ ∃ l, resV tt S rs = some l ∧ K (packV l) S.h S.n := by
  have key : ∀ (l : List Value) (t : List (Nat × Value)) (hh : List (Nat × GO)) (n : List Nat), (∀ v, l ≠ [v]) → K (.tuple ⟨l⟩) hh n → K (packV l) hh n := by
    intro l t hh n hne hk
    have e : packV l = .tuple ⟨l⟩ := by
      unfold packV
      split
      · rename_i v; exact absurd rfl (hne v)
      · rfl
    rw [e]; exact hk
  obtain ⟨t, hh, n⟩ := S
  cases e with
  | ret =>
    simp only [retG] at h
    split at h
    · rename_i v hl; exact ⟨Or.inl rfl, [v], hl, h⟩
    · rename_i l hne hl; exact ⟨Or.inl rfl, l, hl, key l t hh n hne h⟩
    · exact h.elim
  | normal =>
    simp only [retG] at h
    split at h
    · rename_i v hl; exact ⟨Or.inr rfl, [v], hl, h⟩
    · rename_i l hne hl; exact ⟨Or.inr rfl, l, hl, key l t hh n hne h⟩
    · exact h.elim
  | _ => exact h.elim
theorem res_run {P : Program} {tt : List (Nat × TK)} (hT : TKok P tt) {c : Cx} {f : NM} {S : St} {a : Act} {w : World} (H : Sat c f S a w) {fn : Func} {l : List Value} (h : resV tt S fn.results.toList = some l) :
    ∃ v', VR f (packV l) v' ∧ (results fn a.tmps).run P w = .ok v' w := by
  obtain ⟨l', h1, h2⟩ := resV_ok hT H fn.results.toList l h
  refine ⟨_, packV_ok h1, ?_⟩
  rw [results_eq, Array.mapM_eq_mapM_toList]
  simp only [Sem.run_bind, Sem.run_map, h2, Result.andThen_ok, Sem.run_pure]
theorem After.mk2 {ng : Nat} {f g : NM} {h h' : List (Nat × GO)} {ns ns' : List Nat} {w w' : World} {v v' : Value} (L : Lk f w (fun _ => False) g w') (B : Before ng g h' ns' w') (hv : VR g v v') (low : ∀ x, x ∈ ns' → ∃ z, z ∈ ns ∧ z ≤ x) : After f h ns w g v v' h' ns' w' :=
  { le := L.le, lt := B.lt, val := hv, sees := B.sees, owx := fun b n e => ⟨L.owx b n e, B.owx b n e⟩, kp := L.kp, ol := B.ol, new := L.new, far := fun b h1 h2 => L.far b h1 h2 id, top := B.top, asc := B.asc, low := low, grow := L.grow, os := L.os, tape := L.tape, out := L.out, dr := L.dr }
/-- the statement, in small -/
inductive RfG (P : Program) (N ng : Nat) (tt : List (Nat × TK)) (g : Operand) (p : Nat) (assign body rest : Code) (QR : Exit → St → Prop) : St → Prop
  | mk {t : List (Nat × Value)} {h : List (Nat × GO)} {lo1 : Nat} {r1 : List Nat} (k nb : Nat) (N1 : List Nat) (lo2 : Nat) (r2 : List Nat) {κ : Type} (st : κ → List (Nat × GO)) (I : κ → List (Int × Int) → Prop) (k0 : κ) (E : List (Int × Int)) :
      evalG ng ⟨t, h, lo1 :: r1⟩ g = some (.func (.func k) ⟨[]⟩ ⟨[.pointer (some ⟨nb, 0, none⟩)]⟩) → Plain P k → dstOk N (some p) = true → calm assign = true → calm body = true →
      (∀ m q, look (dropN N1 h) m = some q → (∃ R, q = .abs R) ∨ m = nb) →
      (∀ f w bx, Before ng f h (lo1 :: r1) w → f nb = some bx → ∃ F : Nat → Prop, (∀ b, F b → b < w.heap.size ∧ (onlyN f N1).ow b = none) ∧ ∀ n, IterAt P n k #[.pointer (some ⟨bx, 0, none⟩)] F E w) →
      I k0 [] → (∀ k, noRo (st k) = true) → Wk lo1 ⟨t, keepN N1 h, lo1 :: r1⟩ ⟨t, st k0, lo2 :: r2⟩ →
      (∀ k pre x, I k pre → (∃ rest, (pre ++ x :: rest).Perm E) → wpG P N ng lo2 tt assign (RoundQ P N ng tt body (EndK lo1 st I (lo2 :: r2) (pre ++ [x]))) ⟨(p, tmV x) :: t, st k, lo2 :: r2⟩) →
      (∀ k xs, I k xs → xs.Perm E → wpG P N ng lo2 tt rest QR ⟨t, st k ++ dropN N1 h, lo2 :: r2⟩) →
      RfG P N ng tt g p assign body rest QR ⟨t, h, lo1 :: r1⟩
def preQ (P : Program) (N ng : Nat) (tt : List (Nat × TK)) (g : Operand) (p : Nat) (assign body rest : Code) (QR : Exit → St → Prop) (e : Exit) (S : St) : Prop := match e with
  | .normal => RfG P N ng tt g p assign body rest QR S
  | e => QR e S
theorem Spec.of_bodyRF {P : Program} {tt : List (Nat × TK)} (hT : TKok P tt) (hm : P.follows .mixedOrders = true) {ng k lo : Nat} {fn : Func} {X1 X2 X3 X4 X5 assign body : Code} {i p : Nat} {g : Operand} (hf : P.funcs[k]? = some fn)
    (hb : fn.body = some (X1.seq (X2.seq (X3.seq ((X4.seq (.block i (.rangeFunc g #[p] assign body))).seq X5)))))
    {args : List Value} {h : List (Nat × GO)} {ns : List Nat} {K : Value → List (Nat × GO) → List Nat → Prop} (hn : args.length ≤ fn.ntmps)
    (H : startG args fun t => wpG P fn.ntmps ng lo tt (X1.seq (X2.seq (X3.seq X4))) (preQ P fn.ntmps ng tt g p assign body X5 (retG tt fn.results.toList K)) ⟨t, h, lo :: ns⟩) : Spec P ng k args h (lo :: ns) K := by
  rw [startG_eq] at H
  intro f w args' hB hA
  refine (callsIn_wide (n := 0)).1 (callsIn_of_wp_marks hf hb trivial ?_)
  have hlen : args'.size = args.length := by have := hA.1; simpa using this.symm
  obtain ⟨c, hc⟩ : ∃ c : Cx, c = ⟨f, w, fn.ntmps, ng, lo, []⟩ := ⟨_, rfl⟩
  have hS : Sat c f ⟨argT 0 args, h, lo :: ns⟩ { tmps := args' ++ Array.replicate (fn.ntmps - args'.size) undef, defers := [] } w := by
    rw [hc]
    refine Before.start (S := ⟨argT 0 args, h, lo :: ns⟩) (a := { tmps := args' ++ Array.replicate (fn.ntmps - args'.size) undef, defers := [] }) hB rfl ?_ ?_
    · intro k v hk
      obtain ⟨_, h2⟩ := argT_look args 0 k v hk
      obtain ⟨v', h3, h4⟩ := hA.get (i := k) (v := v) (by simpa using h2)
      refine ⟨v', ?_, h4⟩
      rw [Array.getElem?_append_left (Array.getElem?_eq_some_iff.1 h3).1]
      exact h3
    · simp only [Array.size_append, Array.size_replicate]
      omega
  have hng : ng ≤ lo := by
    rcases Nat.lt_or_ge lo ng with h | h
    · have h1 := hB.glob lo h
      rw [hB.top lo (by simp) lo (Nat.le_refl _)] at h1; cases h1
    · exact h
  have cN : c.N = fn.ntmps := by rw [hc]
  have cg : c.ng = ng := by rw [hc]
  have cl : c.lo = lo := by rw [hc]
  have cf : c.f0 = f := by rw [hc]
  have cw : c.w0 = w := by rw [hc]
  have cd : c.ds = [] := by rw [hc]
  -- the way out
  have fin0 : ∀ e S g a w', e ≠ .normal → preQ P fn.ntmps ng tt g p assign body X5 (retG tt fn.results.toList K) e S → ∀ g', Sat c g' S a w' → bodyPostM Fence.wide 0 P fn (fun e w'_1 => ∃ v v' h' ns' g, e = Ending.returned v' ∧ K v h' ns' ∧ After f h (lo :: ns) w g v v' h' ns' w'_1) e a w' := by
    intro e S g a w' hne hq g' hs
    have hq : retG tt fn.results.toList K e S := by
      cases e with
      | normal => exact absurd rfl hne
      | _ => exact hq
    obtain ⟨he, l, hl, hk⟩ := ret_out hq
    rcases he with rfl | rfl
    · obtain ⟨v', h1, h2⟩ := res_run hT hs hl
      show LeavesInM _ _ _ _ _ _ a.defers _ _
      rw [hs.defers, cd]
      refine ⟨v', h2, packV l, v', S.h, S.n, g', rfl, hk, ?_⟩
      have L := hs.lk
      rw [cf, cw] at L
      have B := hs.before
      rw [cg] at B
      exact After.mk2 L B h1 fun x hx => ⟨lo, by simp, by have := hs.low x hx; rwa [cl] at this⟩
    · exact absurd rfl hne
  have walk : ∀ (X : Code) (Q : Exit → St → Prop) (S : St) (f' : NM) (a : Act) (w' : World), Sat c f' S a w' → wpG P fn.ntmps ng lo tt X Q S → X.wpIn Fence.wide 0 P (LiftQ c Q) a w' := fun X Q S f' a w' hs hw =>
    wpIn_wide.2 (wpG_sound hT hm (c := c) (by rw [cg, cl]; exact hng) X Q S f' a w' hs (by rw [cN, cg, cl]; exact hw))
  refine wpIn_seq (wpIn_mono (walk X1 _ _ f _ w hS H) ?_)
  rintro e a1 w1 ⟨S1, f1, h1, s1⟩
  cases e with
  | normal =>
    refine wpIn_seq (wpIn_mono (walk X2 _ _ f1 _ w1 s1 h1) ?_)
    rintro e a1 w1 ⟨S1, f1, h1, s1⟩
    cases e with
    | normal =>
      refine wpIn_seq (wpIn_mono (walk X3 _ _ f1 _ w1 s1 h1) ?_)
      rintro e a1 w1 ⟨S1, f1, h1, s1⟩
      cases e with
      | normal =>
        refine wpIn_seq (wpIn_seq (wpIn_mono (walk X4 _ _ f1 _ w1 s1 h1) ?_))
        rintro e a1 w1 ⟨S1, f1, h1, s1⟩
        cases e with
        | normal =>
          have h1 : RfG P fn.ntmps ng tt g p assign body X5 (retG tt fn.results.toList K) S1 := h1
          cases h1 with
          | mk k' nb N1 lo2 r2 st I k0 E hg hpl hp ha hbo hdr hit hk0 hro h0 hrd hre =>
            rename_i t hh lo1 r1 κ
            have hgv := s1.ev.eval (x := g) (by rw [cg]; exact hg)
            obtain ⟨bx, hgx, hbx⟩ : ∃ bx, a1.eval g = .func (.func k') #[] #[.pointer (some ⟨bx, 0, none⟩)] ∧ f1 nb = some bx := by
              generalize a1.eval g = z at hgv
              cases hgv with
              | func _ q1 q2 q3 q4 =>
                rename_i x' y'
                obtain ⟨l', rfl⟩ : ∃ l', y' = ⟨l'⟩ := ⟨_, rfl⟩
                obtain ⟨m', rfl⟩ : ∃ l', x' = ⟨l'⟩ := ⟨_, rfl⟩
                match l', m', q1, q3, q4 with
                | [u], [], _, _, q4 =>
                  have := q4 0 _ u rfl rfl
                  cases this with
                  | ptr e => exact ⟨_, rfl, e⟩
            have B := s1.before
            rw [cg] at B
            obtain ⟨F, hF, hIt⟩ := hit f1 w1 bx B hbx
            refine wpIn_block (range_sound (n := 0) hT cd (by rw [cg, cl]; exact hng) s1 hgx hpl (by rw [cN]; exact hp) N1 hbx hdr (lo1 := lo1) rfl st I k0 hk0 E F hro h0 ha hbo (by rw [cN, cg]; exact hrd) hF (hIt _) ?_)
            intro kx xs g' W D hIx hxs hs hgD hD hcD
            show X5.wpIn _ _ _ _ _ _
            -- the rest
            have hDl : D < W.heap.size := (Array.getElem?_eq_some_iff.1 hD).1
            have B5 := hs.before
            obtain ⟨c5, hc5⟩ : ∃ c5 : Cx, c5 = ⟨g', W, fn.ntmps, ng, lo2, markD D⟩ := ⟨_, rfl⟩
            have s5 : Sat c5 g' ⟨t, st kx ++ dropN N1 hh, lo2 :: r2⟩ { a1 with defers := markD D } W := by
              rw [hc5]
              have B5 : Before ng g' (st kx ++ dropN N1 hh) (lo2 :: r2) W := by
                have := B5
                simp only [cg] at this
                exact this
              exact Before.start (S := ⟨t, st kx ++ dropN N1 hh, lo2 :: r2⟩) (a := { a1 with defers := markD D }) B5 rfl hs.tms (hs.size.trans cN)
            have hl2 : c.lo ≤ lo2 := hs.low lo2 (by simp)
            have hw5 := (wpIn_wide (n := 0)).2 (wpG_sound hT hm (c := c5) (by rw [hc5]; rw [cl] at hl2; exact Nat.le_trans hng hl2) X5 _ _ g' _ W s5 (by rw [hc5]; exact hre kx xs hIx hxs))
            refine wpIn_mono hw5 ?_
            rintro e a6 w6 ⟨S6, f6, h6, s6⟩
            obtain ⟨he, l, hl, hk⟩ := ret_out h6
            have L6 := s6.lk
            rw [show c5.f0 = g' by rw [hc5], show c5.w0 = W by rw [hc5]] at L6
            have hD6 : w6.heap[D]? = some (.deferred (some [])) := (L6.far D hDl hgD id).trans hD
            have hf6 : f6.ow D = none := L6.free hDl hgD
            have L0 := hs.lk
            have LL : Lk f w (fun _ => False) f6 (w6.putObj D (.deferred none)) := by
              have k0 : Lk f w (fun _ => False) g' W := by
                have := L0
                simp only [cf, cw] at this
                exact this
              have k1 := ((k0.mono (Y := fun b => b = D) fun b _ _ h => h.elim).trans (L6.mono (Y := fun b => b = D) fun b _ _ h => h.elim)).trans (Lk.put f6 w6 D (.deferred none))
              refine k1.mono fun b hb _ e => ?_
              subst e
              rw [cw] at hcD
              omega
            have B6 : Before ng f6 S6.h S6.n (w6.putObj D (.deferred none)) := by
              have := s6.before
              rw [show c5.ng = ng by rw [hc5]] at this
              exact this.turn hD6 rfl hf6
            have low6 : ∀ x, x ∈ S6.n → lo ≤ x := fun x hx => by
              have h1 := s6.low x hx
              rw [hc5] at h1
              have h1 : lo2 ≤ x := h1
              rw [cl] at hl2
              omega
            have s7 : Sat ⟨f, w, fn.ntmps, ng, lo, a6.defers⟩ f6 S6 a6 (w6.putObj D (.deferred none)) :=
              Sat.of_lk B6 LL low6 (by have := s1.f0lo; rw [cl, cf] at this; exact this) (by have := s1.olo; rw [cl, cf] at this; exact this) s6.tms (s6.size.trans (by rw [hc5])) rfl
            obtain ⟨v', q1, q2⟩ := res_run hT s7 hl
            have hdf : a6.defers = markD D := s6.defers.trans (by rw [hc5])
            have out : LeavesInM Fence.wide 0 P fn a6.tmps (fun e w' => ∃ v v' h' ns' g, e = Ending.returned v' ∧ K v h' ns' ∧ After f h (lo :: ns) w g v v' h' ns' w') a6.defers .returning w6 := by
              rw [hdf]
              refine ⟨(by simp), Or.inl ⟨D, _, rfl, run_takeDeferred hD6, ?_⟩⟩
              exact ⟨v', q2, packV l, v', S6.h, S6.n, f6, rfl, hk, After.mk2 LL B6 q1 fun x hx => ⟨lo, by simp, low6 x hx⟩⟩
            rcases he with rfl | rfl
            · exact out
            · exact out
        | _ => exact fin0 _ _ g _ _ (by simp) h1 f1 s1
      | _ => exact fin0 _ _ g _ _ (by simp) h1 f1 s1
    | _ => exact fin0 _ _ g _ _ (by simp) h1 f1 s1
  | _ => exact fin0 _ _ g _ _ (by simp) h1 f1 s1
end Go.Proofs.Ytliaoaejmmkkjaa
namespace Go.Proofs.Ytliaoaejmmkkjaa
open Go

/-! a contract out of what a call comes to -/
theorem Ct.of_spec {P : Program} {k : Nat}
    {R : Option ARes} {as : List AV} {Q : List AV → Option ARes → Prop}
    (H : ∀ (w : World) (b : Nat) (F : Nat → Prop), RecvR w R b F → ∃ f hb, UnpR w R b F f hb ∧
      bindR as hb argN fun l h ns => nonE ns (Spec P 0 k (recvG R 500 l) h sup fun v h' _ => Fin R Q h' v)) : Ct P k R as Q := by
  intro w U F b vs' hrec hFU hargs
  obtain ⟨f0, hb0, hun, hbind⟩ := H w b F hrec
  have f0nm : ∀ n q, f0 n = some q → 500 ≤ n ∧ n < 600 ∧ q < w.heap.size ∧ F q := by
    cases R with
    | none => obtain ⟨rfl, _⟩ := hun; intro n q h; cases h
    | some R => exact hun.nm
  have f0ow : ∀ q n, f0.ow q = some n → 500 ≤ n ∧ n < 600 ∧ F q := by
    cases R with
    | none => obtain ⟨rfl, _⟩ := hun; intro n q h; cases h
    | some R => exact hun.ow1
  have f0ow2 : ∀ q, F q → ∃ n, f0.ow q = some n := by
    cases R with
    | none => intro q hq; exact absurd hq (hrec q)
    | some R => exact hun.ow2
  have f0sees : Sees f0 hb0 w := by
    cases R with
    | none => obtain ⟨_, rfl⟩ := hun; intro n g h; cases h
    | some R => exact hun.sees
  have hFlt : ∀ q, F q → q < w.heap.size := by
    cases R with
    | none => intro q hq; exact absurd hq (hrec q)
    | some R => exact hrec.2.2
  have hBd : Bd f0 argN U w F (fun _ => none) 0 f0 hb0 argN := by
    refine { le := NM.le.refl _, lt := fun n q h => (f0nm n q h).2.2.1, sees := f0sees, owx := fun q n h => ⟨Or.inl h, hFlt q (f0ow q n h).2.2⟩, kp := fun _ _ h => h, ol := ?_, new := fun n q h => Or.inl ⟨n, h⟩, free := fun _ h _ => h, pend := fun q j h => (by cases h), rest := ?_, mo := fun n q j _ h => (by cases h), top := ?_, asc := (by decide), low := fun x hx => hx }
    · intro q n h x hx
      have := (f0ow q n h).2.1
      have : ∀ x ∈ argN, 600 ≤ x := by decide
      have := this x hx
      omega
    · intro q h1 h2 _
      cases e : f0.ow q with
      | none => rfl
      | some n => exact absurd (f0ow q n e).2.2 h2
    · intro x hx m hm
      have : ∀ x ∈ argN, 600 ≤ x := by decide
      have := this x hx
      cases e : f0 m with
      | none => rfl
      | some q => have := (f0nm m q e).2.1; omega
  have hres : ResR w (fun k => (False ∨ U k) ∧ ¬ F k ∧ (none : Option Nat) = none) (fun _ => none) 0 as vs' := by
    have : ∀ (i : Nat) (as : List AV) (vs' : List Value), All2 (AVR w U fun _ => False) as vs' → ResR w (fun k => (False ∨ U k) ∧ ¬ F k ∧ (none : Option Nat) = none) (fun _ => none) i as vs' := by
      intro i as vs' h
      induction h generalizing i with
      | nil => trivial
      | cons h1 _ ih =>
        refine ⟨?_, ih (i + 1)⟩
        rename_i a v _ _ _
        cases a with
        | v x => exact h1
        | rows L n =>
          obtain ⟨A, c, e, hn, hA⟩ := h1
          refine ⟨A, c, e, hn, ?_⟩
          rcases hA with hA | ⟨q, off, cs, t, fz, a1, a2, a3⟩
          · exact Or.inl hA
          · exact Or.inr ⟨q, off, cs, t, fz, a1, ⟨Or.inr a2, fun h => hFU q h a2, rfl⟩, a3⟩
        | obj R => obtain ⟨q, _, _, h2, _⟩ := h1; exact h2.elim
        | own C n c e =>
          obtain ⟨A, e1, h1⟩ := h1
          refine ⟨A, e1, ?_⟩
          rcases h1 with h1 | ⟨q, _, h2, _⟩
          · exact Or.inl h1
          · exact h2.elim
    exact this 0 as vs' hargs
  obtain ⟨l, f, h, ns, i', hB, hle, hgo, hAR⟩ := bindR_ok (V := U) (U := fun _ => False) (fun _ h => h.elim) (fun q n h hu => hFU q (f0ow q n h).2.2 hu) (fun q j h => by cases h) as vs' 0 f0 hb0 argN _ hBd hres hbind
  have hns : ∃ x r, ns = x :: r := by
    cases ns with
    | nil => exact hgo.elim
    | cons x r => exact ⟨x, r, rfl⟩
  obtain ⟨x0, r0, rfl⟩ := hns
  have hx0 : x0 ≤ 999 := by
    have h1 := hB.low x0 (by simp)
    have : ∀ x ∈ argN, x ≤ 999 := by decide
    exact this x0 h1
  have hbef : Before 0 f h sup w := by
    refine ⟨hB.lt, fun g hg => absurd hg (Nat.not_lt_zero _), fun x hx m hm => hB.top x0 (by simp) m ?_, sup_asc, hB.sees, fun q n hq => (hB.owx q n hq).2, fun q n hq x hx => ?_⟩
    · have := sup_low x hx; omega
    · have := sup_low x hx
      have := hB.ol q n hq x0 (by simp)
      omega
  have hargsV : AR f ⟨recvG R 500 l⟩ ⟨recvV R b vs'⟩ := by
    cases R with
    | none => exact hAR
    | some R =>
      have := (AR.one (ARes.val_VR R (hB.le _ _ hun.at_))).append hAR
      simpa [recvG, recvV] using this
  have hspec : Spec P 0 k (recvG R 500 l) h sup fun v h' _ => Fin R Q h' v := hgo
  refine (hspec f w _ hbef hargsV).mono ?_
  rintro e w' ⟨v, v', h', ns', g, rfl, hfin, hA⟩
  obtain ⟨rs, R', l', N, rfl, hout, hpack, hQ⟩ := hfin
  obtain ⟨us', rfl, hus⟩ := packV_inv hA.val (fun _ _ => trivial)
  have fow : ∀ q n, f.ow q = some n → f0.ow q = some n ∨ U q := fun q n h => (hB.owx q n h).1
  have fow' : ∀ q n, f.ow q = some n → f0.ow q = some n := by
    intro q n h
    rcases fow q n h with h1 | h1
    · exact h1
    · cases e : f0.ow q with
      | some m =>
        have := hB.kp q m e
        rw [h] at this; cases this; rfl
      | none =>
        have hnF : ¬ F q := fun hF => hFU q hF h1
        rw [hB.rest q h1 hnF rfl] at h; cases h
  have hf600 : ∀ q n, f.ow q = some n → n < 600 := fun q n h => (f0ow q n (fow' q n h)).2.1
  have hown : ∀ q n, g.ow q = some n → (∃ n0, f.ow q = some n0 ∧ n ≤ n0) ∨ w.heap.size ≤ q := fun q n h => (hA.owx q n h).1
  have hnew : ∀ n q, g n = some q → g.ow q = none → U q ∨ w.heap.size ≤ q := by
    intro n q h1 h2
    rcases hA.new n q h1 with ⟨m, h3⟩ | h3
    · rcases hB.new m q h3 with ⟨m2, h4⟩ | h4
      · have hF := (f0nm m2 q h4).2.2.2
        obtain ⟨n2, h5⟩ := f0ow2 q hF
        obtain ⟨n3, e3, _⟩ := hA.kp q n2 (hB.kp q n2 h5)
        rw [e3] at h2; cases h2
      · exact Or.inl h4
    · exact Or.inr h3
  let F' : Nat → Prop := fun q => ∃ n, memL n N = true ∧ g.ow q = some n
  have hF'own : ∀ q, F' q → F q ∨ w.heap.size ≤ q := by
    rintro q ⟨n, _, h2⟩
    rcases hown q n h2 with ⟨n0, h3, _⟩ | h3
    · exact Or.inl (f0ow q n0 (fow' q n0 h3)).2.2
    · exact Or.inr h3
  have hrec' : RecvR w' R' b F' := by
    cases R with
    | none =>
      cases R' with
      | none => intro q hq; obtain ⟨n, h1, _⟩ := hq; rw [show N = [] from hpack] at h1; cases h1
      | some R' => exact hpack.elim
    | some R =>
      cases R' with
      | none => exact hpack.elim
      | some R' =>
        have hb : g 500 = some b := hA.le _ _ (hB.le _ _ hun.at_)
        exact ⟨hpack g w' b hA.sees hb, hA.lt _ _ hb, fun q hq => by obtain ⟨n, _, h2⟩ := hq; exact (hA.owx q n h2).2⟩
  have hsome : R'.isSome = R.isSome := by
    cases R <;> cases R' <;> first | rfl | exact hpack.elim
  have hfar : ∀ q, q < w.heap.size → ¬ F q → w'.heap[q]? = w.heap[q]? := by
    intro q hq hn
    refine hA.far q hq ?_
    cases e : f.ow q with
    | none => rfl
    | some n => exact absurd (f0ow q n (fow' q n e)).2.2 hn
  cases hout with
  | plain hall =>
    refine ⟨rs, R', fun _ => none, F', us', hQ, hsome, rfl, hrec', ?_, ⟨hF'own, fun q j h => (by cases h), hfar, hA.grow, hA.os, hA.tape, hA.out, hA.dr⟩⟩
    exact all_read (N := N) (No := []) (O := fun _ => none) hA.sees hown hf600 hnew (fun _ _ => rfl) (fun n h => by cases h) (fun q h => h) 0 hall hus
  | obj No hN hpk hall =>
    rename_i nm l R2 rs
    obtain ⟨x', l2, e, hx, hl⟩ := AR.cons (x' := undef) hus
    cases e
    cases hx with
    | ptr hnm =>
      rename_i bo
      have hmem := newN_mem hN
      open Classical in
      let O : Nat → Option Nat := fun q => if ∃ n, memL n No = true ∧ g.ow q = some n then some 0 else none
      have hOs : ∀ q j, O q = some j → (∃ n, memL n No = true ∧ g.ow q = some n) ∧ j = 0 := by
        intro q j h
        simp only [O] at h
        split at h
        · cases h; exact ⟨by assumption, rfl⟩
        · cases h
      have hOeq : (fun q => O q = some 0) = fun q => ∃ n, memL n No = true ∧ g.ow q = some n := by
        funext q
        simp only [O]
        apply propext
        constructor
        · intro h
          split at h
          · assumption
          · cases h
        · intro h; rw [if_pos h]
      have hR2 := hpk g w' bo hA.sees hnm
      refine ⟨.obj R2 :: rs, R', O, F', .pointer (some ⟨bo, 0, none⟩) :: l2, hQ, hsome, rfl, hrec', ⟨⟨bo, rfl, hA.lt _ _ hnm, ?_, ?_⟩, ?_⟩, ⟨hF'own, ?_, hfar, hA.grow, hA.os, hA.tape, hA.out, hA.dr⟩⟩
      · have := R2.own _ _ _ hR2
        show O bo = some 0
        simp only [O]; rw [if_pos this]
      · rw [hOeq]; exact hR2
      · have := all_read (N := No ++ N) (U := U) (F := F') (No := No) (O := O) hA.sees hown hf600 hnew (fun q hq => by
          simp only [O]
          rw [if_neg]
          rintro ⟨n, h1, h2⟩
          rw [hq n h2] at h1; cases h1) (fun n h => by rw [memL_append, h]; rfl) (fun q h => by
          obtain ⟨n, h1, h2⟩ := h
          exact ⟨n, by rw [memL_append, h1]; simp, h2⟩) 1 hall hl
        exact this
      · intro q j h
        obtain ⟨⟨n, h1, h2⟩, _⟩ := hOs q j h
        obtain ⟨h3, h4⟩ := hmem n h1
        refine ⟨?_, ?_, (hA.owx q n h2).2⟩
        · rcases hown q n h2 with ⟨n0, h5, _⟩ | h5
          · have := hf600 q n0 h5; omega
          · exact h5
        · rintro ⟨n', h5, h6⟩
          rw [h2] at h6; cases h6
          rw [h4] at h5; cases h5
  | own hN hlk hC hall =>
    rename_i nm l C n c ty rs
    obtain ⟨x', l2, e, hx, hl⟩ := AR.cons (x' := undef) hus
    cases e
    cases hx with
    | sliceZ =>
      refine ⟨.own C 0 0 ty :: rs, R', fun _ => none, F', _ :: l2, hQ, hsome, rfl, hrec', ⟨⟨_, rfl, Or.inl ⟨rfl, rfl⟩⟩, ?_⟩, ⟨hF'own, fun q j h => (by cases h), hfar, hA.grow, hA.os, hA.tape, hA.out, hA.dr⟩⟩
      exact all_read (N := [nm] ++ N) (No := []) (O := fun _ => none) hA.sees hown hf600 hnew (fun _ _ => rfl) (fun n h => by cases h) (fun q h => by obtain ⟨n, h1, h2⟩ := h; exact ⟨n, by rw [memL_append, h1]; simp, h2⟩) 1 hall hl
    | slice hnm =>
      rename_i bo
      have hmem := newN_mem hN
      open Classical in
      let O : Nat → Option Nat := fun q => if ∃ n, memL n [nm] = true ∧ g.ow q = some n then some 0 else none
      have hOs : ∀ q j, O q = some j → (∃ n, memL n [nm] = true ∧ g.ow q = some n) ∧ j = 0 := by
        intro q j h
        simp only [O] at h
        split at h
        · cases h; exact ⟨by assumption, rfl⟩
        · cases h
      obtain ⟨o', k1, k2, k3⟩ := hA.sees _ _ hlk _ hnm
      have hOb : O bo = some 0 := by
        simp only [O]; rw [if_pos ⟨_, by simp [memL], k1⟩]
      refine ⟨.own C n c ty :: rs, R', O, F', .slice (some ⟨bo, 0, none⟩) n c :: l2, hQ, hsome, rfl, hrec', ⟨⟨_, rfl, Or.inr ⟨bo, rfl, hOb, ?_, hC⟩⟩, ?_⟩, ⟨hF'own, ?_, hfar, hA.grow, hA.os, hA.tape, hA.out, hA.dr⟩⟩
      · cases k3 with
        | cells _ _ ha => rw [k2, cleanL_eq hC ha]
      · have := all_read (N := [nm] ++ N) (U := U) (F := F') (No := [nm]) (O := O) hA.sees hown hf600 hnew (fun q hq => by
          simp only [O]
          rw [if_neg]
          rintro ⟨n, h1, h2⟩
          rw [hq n h2] at h1; cases h1) (fun n h => by rw [memL_append, h]; rfl) (fun q h => by
          obtain ⟨n, h1, h2⟩ := h
          exact ⟨n, by rw [memL_append, h1]; simp, h2⟩) 1 hall hl
        exact this
      · intro q j h
        obtain ⟨⟨n, h1, h2⟩, _⟩ := hOs q j h
        obtain ⟨h3, h4⟩ := hmem n h1
        refine ⟨?_, ?_, (hA.owx q n h2).2⟩
        · rcases hown q n h2 with ⟨n0, h5, _⟩ | h5
          · have := hf600 q n0 h5; omega
          · exact h5
        · rintro ⟨n', h5, h6⟩
          rw [h2] at h6; cases h6
          rw [h4] at h5; cases h5
  | ownN hall =>
    rename_i l C ty rs
    obtain ⟨x', l2, e, hx, hl⟩ := AR.cons (x' := undef) hus
    cases e
    cases hx
    refine ⟨.own C 0 0 ty :: rs, R', fun _ => none, F', _ :: l2, hQ, hsome, rfl, hrec', ⟨⟨_, rfl, Or.inl ⟨rfl, rfl⟩⟩, ?_⟩, ⟨hF'own, fun q j h => (by cases h), hfar, hA.grow, hA.os, hA.tape, hA.out, hA.dr⟩⟩
    exact all_read (N := N) (No := []) (O := fun _ => none) hA.sees hown hf600 hnew (fun _ _ => rfl) (fun n h => by cases h) (fun q h => h) 1 hall hl
/-- all these entries are there -/
def subL : List (Nat × GO) → List (Nat × GO) → Prop
  | [], _ => True
  | (n, g) :: r, h => look h n = some g ∧ subL r h
theorem subL_look {h2 h : List (Nat × GO)} (s : subL h2 h) {n : Nat} {g : GO} (e : look h2 n = some g) : look h n = some g := by
  induction h2 with
  | nil => cases e
  | cons x r ih =>
    obtain ⟨m, p⟩ := x
    rw [look_cons] at e
    split at e
    · rename_i e2; subst e2; cases e; exact s.1
    · exact ih s.2 e
theorem After.sub {f g : NM} {h h' h2 : List (Nat × GO)} {ns ns' : List Nat} {w w' : World} {v v' : Value} (A : After f h ns w g v v' h' ns' w') (s : subL h2 h') : After f h ns w g v v' h2 ns' w' :=
  { A with sees := fun n p e => A.sees n p (subL_look s e) }
theorem CallG.conv {P : Program} {ng k : Nat} {args : List Value} {h : List (Nat × GO)} {ns : List Nat} {K : Value → List (Nat × GO) → List Nat → Prop} (c : CallG P ng k args h ns fun v h' ns' => ∃ h2, subL h2 h' ∧ K v h2 ns') : CallG P ng k args h ns K := by
  cases c with
  | mk p s =>
    refine .mk p fun f w args' hB hA => (s f w args' hB hA).mono ?_
    rintro e w' ⟨v, v', h', ns', g, h1, ⟨h2, h3, h4⟩, h5⟩
    exact ⟨v, v', h2, ns', g, h1, h4, h5.sub h3⟩
def okD (nb : Nat) : List (Nat × GO) → Bool
  | [] => true
  | (_, .abs _) :: r => okD nb r
  | (n, _) :: r => Nat.beq n nb && okD nb r
theorem okD_all {nb : Nat} {h : List (Nat × GO)} (e : okD nb h = true) : ∀ m q, look h m = some q → (∃ R, q = .abs R) ∨ m = nb := by
  induction h with
  | nil => intro m q hq; cases hq
  | cons x r ih =>
    obtain ⟨n, g⟩ := x
    intro m q hq
    rw [look_cons] at hq
    cases g with
    | abs R =>
      split at hq
      · cases hq; exact Or.inl ⟨R, rfl⟩
      · exact ih e m q hq
    | rw o =>
      simp only [okD, Bool.and_eq_true] at e
      split at hq
      · rename_i e2; exact Or.inr (e2 ▸ Nat.eq_of_beq_eq_true e.1)
      · exact ih e.2 m q hq
    | ro o =>
      simp only [okD, Bool.and_eq_true] at e
      split at hq
      · rename_i e2; exact Or.inr (e2 ▸ Nat.eq_of_beq_eq_true e.1)
      · exact ih e.2 m q hq
theorem Wk.sub {lo : Nat} {t : List (Nat × Value)} {h h2 : List (Nat × GO)} {ns : List Nat} (s : subL h2 h) : Wk lo ⟨t, h, ns⟩ ⟨t, h2, ns⟩ :=
  fun c f a w _ _ H => ⟨f, { H with sees := fun n g e => H.sees n g (subL_look s e) }, fun _ h => h⟩
def ptrAt (o : Option GO) (i : Nat) : Option Nat := match o with
  | some (.rw (.cells c _ _)) => match c.toList[i]? with
    | some v => nameOf v
    | none => none
  | _ => none
/-- names behind the cells of blocks whose names stay -/
def sigD (lo : Nat) (h h' : List (Nat × GO)) : List (Nat × Nat) → List (Nat × Nat) → List (Nat × Nat)
  | [], σ => σ
  | (n, i) :: r, σ => match ptrAt (look h' n) i, ptrAt (look h n) i with
    | some a, some b => sigD lo h h' r (addP lo a b σ)
    | _, _ => sigD lo h h' r σ
def sigE (lo : Nat) (live : List Nat) (at_ : List (Nat × Nat)) (S S' : St) : List (Nat × Nat) := sigD lo S.h S'.h at_ (sigT lo S.t S'.t live [])
theorem Wk.autoD {lo : Nat} {S S' : St} (live : List Nat) (at_ : List (Nat × Nat)) (h0 : (renB lo (sigE lo live at_ S S') && nodupB (sndL (sigE lo live at_ S S')) && supB lo (sigE lo live at_ S S') S'.n) = true)
    (ht : tAll (seesT (NM.of lo (sigE lo live at_ S S')) S.t) S'.t) (hh : hAll (seesH (NM.of lo (sigE lo live at_ S S')) S.h) S'.h) : Wk lo S S' := Wk.of _ h0 ht hh
theorem VR.funcP {f : NM} {k : Nat} {v v' : Value} (h : VR f v v') : VR f (.func (.func k) ⟨[]⟩ ⟨[v]⟩) (.func (.func k) ⟨[]⟩ ⟨[v']⟩) :=
  .func k rfl (fun i v v' h => by simp at h) rfl (AR.one h).2
end Go.Proofs.Ytliaoaejmmkkjaa
namespace Go.Proofs.Ytliaoaejmmkkjaa
open Go

/-! a wheel in memory: sixteen maps and one more, behind a pointer -/
def partT (i : Nat) (T : List (Int × Int)) : List (Int × Int) := if i = 16 then T else T.filter fun x => decide (x.2.tmod 16 = (i : Int))
structure TOk (T : List (Int × Int)) : Prop where
  nd : (T.map (·.1)).Nodup
  rg : ∀ x ∈ T, 0 ≤ x.2 ∧ x.2 ≤ 1099511627776
def MapAt (w : World) (F : Nat → Prop) (ob : Option Nat) (M : MapW) (ck : Nat) : Prop := match ob with
  | none => M = []
  | some x => F x ∧ w.heap[x]? = some (.map ⟨encM evZ M⟩ ck)
def whC (o : Nat → Option Nat) (r : List Value) : List Value :=
  .map (o 0) :: .map (o 1) :: .map (o 2) :: .map (o 3) :: .map (o 4) :: .map (o 5) :: .map (o 6) :: .map (o 7) :: .map (o 8) :: .map (o 9) :: .map (o 10) :: .map (o 11) :: .map (o 12) :: .map (o 13) :: .map (o 14) :: .map (o 15) :: .map (o 16) :: r
theorem whC_eq (o : Nat → Option Nat) (r : List Value) : whC o r = ((List.range 17).map fun i => Value.map (o i)) ++ r := rfl
abbrev enM (Ms : Nat → MapW) (ck : Nat → Nat) (i : Nat) : GO := .rw (.map ⟨encM evZ (Ms i)⟩ (ck i))
def whM (nm : Nat → Nat) (Ms : Nat → MapW) (ck : Nat → Nat) : List (Nat × GO) :=
  [(nm 0, enM Ms ck 0), (nm 1, enM Ms ck 1), (nm 2, enM Ms ck 2), (nm 3, enM Ms ck 3), (nm 4, enM Ms ck 4), (nm 5, enM Ms ck 5), (nm 6, enM Ms ck 6), (nm 7, enM Ms ck 7), (nm 8, enM Ms ck 8), (nm 9, enM Ms ck 9), (nm 10, enM Ms ck 10), (nm 11, enM Ms ck 11),
   (nm 12, enM Ms ck 12), (nm 13, enM Ms ck 13), (nm 14, enM Ms ck 14), (nm 15, enM Ms ck 15), (nm 16, enM Ms ck 16)]
theorem whM_eq (nm : Nat → Nat) (Ms : Nat → MapW) (ck : Nat → Nat) : whM nm Ms ck = (List.range 17).map fun i => (nm i, enM Ms ck i) := rfl
theorem look_map {α : Type} {nm : Nat → Nat} {e : Nat → α} {l : List Nat} {n : Nat} {g : α} (h : look (l.map fun i => (nm i, e i)) n = some g) : ∃ i ∈ l, nm i = n ∧ g = e i := by
  induction l with
  | nil => cases h
  | cons i r ih =>
    rw [List.map_cons, look_cons] at h
    split at h
    · rename_i e; cases h; exact ⟨i, by simp, e, rfl⟩
    · obtain ⟨j, h1, h2⟩ := ih h; exact ⟨j, List.mem_cons_of_mem _ h1, h2⟩
theorem subL_mem {nm : Nat → Nat} {e : Nat → GO} {h : List (Nat × GO)} : ∀ {l : List Nat}, subL (l.map fun i => (nm i, e i)) h → ∀ i ∈ l, look h (nm i) = some (e i) := by
  intro l
  induction l with
  | nil => intro _ i hi; cases hi
  | cons j r ih =>
    intro s i hi
    rcases List.mem_cons.1 hi with rfl | hi
    · exact s.1
    · exact ih s.2 i hi
structure WhI (Ms : Nat → MapW) (ck : Nat → Nat) (T : List (Int × Int)) : Prop where
  lt : ∀ i, i < 17 → ∀ x ∈ Ms i, x.2.2 < ck i
  nd : ∀ i, i < 17 → ((Ms i).map (·.2.2)).Nodup
  pr : ∀ i, i < 17 → (Ms i).map prM = partT i T
  ok : TOk T
def WhP (t : TypeId) (rest : List Value) (T : List (Int × Int)) (w : World) (b : Nat) (F : Nat → Prop) : Prop :=
  ∃ (bk : Nat → Option Nat) (Ms : Nat → MapW) (ck : Nat → Nat), F b ∧ w.heap[b]? = some (.cells ⟨whC bk rest⟩ t (0, 0)) ∧ (∀ i, i < 17 → MapAt w F (bk i) (Ms i) (ck i)) ∧ (∀ i j x, i < 17 → j < 17 → bk i = some x → bk j = some x → i = j) ∧ WhI Ms ck T
def WheelR (t : TypeId) (rest : List Value) (T : List (Int × Int)) : ARes where
  P := WhP t rest T
  keeps := by
    rintro w w' b F ⟨bk, Ms, ck, h1, h2, h3, h4, h5⟩ hk _
    refine ⟨bk, Ms, ck, h1, (hk b h1).trans h2, fun i hi => ?_, h4, h5⟩
    have := h3 i hi
    unfold MapAt at this ⊢
    split at this
    · exact this
    · exact ⟨this.1, (hk _ this.1).trans this.2⟩
  up := by
    rintro w b F F' ⟨bk, Ms, ck, h1, h2, h3, h4, h5⟩ hs
    refine ⟨bk, Ms, ck, hs _ h1, h2, fun i hi => ?_, h4, h5⟩
    have := h3 i hi
    unfold MapAt at this ⊢
    split at this
    · exact this
    · exact ⟨hs _ this.1, this.2⟩
  own := by
    rintro w b F ⟨bk, Ms, ck, h1, _⟩
    exact h1
/-- where each map's name stands -/
structure WhO (o : Nat → Option Nat) (nm : Nat → Nat) (Ms : Nat → MapW) : Prop where
  sl : ∀ i, i < 17 → (o i = none ∧ Ms i = []) ∨ o i = some (nm i)
abbrev nm510 (i : Nat) : Nat := 510 + i
abbrev whH (o : Nat → Option Nat) (Ms : Nat → MapW) (ck : Nat → Nat) (t : TypeId) (rest : List Value) : List (Nat × GO) := (500, .rw (.cells ⟨whC o (rest.map lit)⟩ t)) :: whM nm510 Ms ck
open Classical in
noncomputable def whNM (b : Nat) (bk : Nat → Option Nat) (F : Nat → Prop) : NM := ⟨fun n => if n = 500 ∨ n = 599 then some b else if 510 ≤ n ∧ n < 527 then bk (n - 510) else none,
  fun q => match (List.range 17).find? (fun i => decide (bk i = some q)) with
    | some i => some (510 + i)
    | none => if F q then some 500 else none⟩
theorem AR.lits {f : NM} {b : Nat} (h1 : f 500 = some b) (h2 : f 599 = some b) (r : List Value) : AR f ⟨r.map lit⟩ ⟨r⟩ := by
  refine ⟨by simp, fun i v v' a c => ?_⟩
  simp only [List.getElem?_toArray, List.getElem?_map] at a c
  rw [c] at a
  simp at a
  subst a
  exact .lit v' h1 h2
theorem lit_inv {f : NM} {v v' : Value} (h : VR f (lit v) v') : v' = v := by
  cases h; rfl
theorem AR.lits_inv {f : NM} {r r' : List Value} (h : AR f ⟨r.map lit⟩ ⟨r'⟩) : r' = r := by
  apply List.ext_getElem?
  intro i
  have hs : r.length = r'.length := by simpa using h.1
  by_cases hi : i < r.length
  · have hi' : i < r'.length := by omega
    have := h.2 i (lit r[i]) r'[i] (by simp [hi]) (by simp [hi'])
    rw [List.getElem?_eq_getElem hi, List.getElem?_eq_getElem hi', lit_inv this]
  · rw [List.getElem?_eq_none (by omega), List.getElem?_eq_none (by omega)]
theorem AR.appL {f : NM} {x x' y y' : List Value} (h : AR f ⟨x⟩ ⟨x'⟩) (k : AR f ⟨y⟩ ⟨y'⟩) : AR f ⟨x ++ y⟩ ⟨x' ++ y'⟩ := by simpa using AR.append h k
theorem AR.splitL {f : NM} {x y : List Value} {c : Array Value} (h : AR f ⟨x ++ y⟩ c) : ∃ x' y', c = ⟨x' ++ y'⟩ ∧ AR f ⟨x⟩ ⟨x'⟩ ∧ AR f ⟨y⟩ ⟨y'⟩ := by
  obtain ⟨c⟩ := c
  have hl : x.length + y.length = c.length := by have := h.1; simpa using this
  refine ⟨c.take x.length, c.drop x.length, by simp, ⟨by simp; omega, fun i v v' h1 h2 => ?_⟩, ⟨by simp; omega, fun i v v' h1 h2 => ?_⟩⟩
  · simp only [List.getElem?_toArray] at h1 h2
    have hi : i < x.length := (List.getElem?_eq_some_iff.1 h1).1
    refine h.2 i v v' ?_ ?_
    · simp only [List.getElem?_toArray]; rw [List.getElem?_append_left hi]; exact h1
    · simp only [List.getElem?_toArray]; rw [List.getElem?_take, if_pos hi] at h2; exact h2
  · simp only [List.getElem?_toArray] at h1 h2
    refine h.2 (x.length + i) v v' ?_ ?_
    · simp only [List.getElem?_toArray]; rw [List.getElem?_append_right (by omega), Nat.add_sub_cancel_left]; exact h1
    · simp only [List.getElem?_toArray]; rw [List.getElem?_drop] at h2; exact h2
theorem evZ_clean : ∀ v : Int, clean (evZ v) = true := fun _ => rfl
/-- a wheel, taken apart -/
theorem unp_wheel {R : ARes} {t : TypeId} {rest : List Value} {T : List (Int × Int)} {w : World} {b : Nat} {F : Nat → Prop} (h : WhP t rest T w b F) (h3 : b < w.heap.size) (h4 : ∀ k, F k → k < w.heap.size) :
    ∃ (f : NM) (o : Nat → Option Nat) (Ms : Nat → MapW) (ck : Nat → Nat), WhI Ms ck T ∧ WhO o nm510 Ms ∧ UnpR w (some R) b F f (whH o Ms ck t rest) := by
  classical
  obtain ⟨bk, Ms, ck, f1, q1, q2, q3, q4⟩ := h
  have hM : ∀ i x, i < 17 → bk i = some x → F x ∧ w.heap[x]? = some (.map ⟨encM evZ (Ms i)⟩ (ck i)) := fun i x hi e => by
    have := q2 i hi
    unfold MapAt at this
    rw [e] at this; exact this
  have how : ∀ i x, i < 17 → bk i = some x → (whNM b bk F).ow x = some (510 + i) := by
    intro i x hi e
    show (match (List.range 17).find? (fun i => decide (bk i = some x)) with | some i => some (510 + i) | none => _) = _
    cases e2 : (List.range 17).find? (fun i => decide (bk i = some x)) with
    | none =>
      have := List.find?_eq_none.1 e2 i (List.mem_range.2 hi)
      simp [e] at this
    | some j =>
      have h1 := List.find?_some e2
      have h2 := List.mem_of_find?_eq_some e2
      simp only [decide_eq_true_eq] at h1
      rw [q3 i j x hi (List.mem_range.1 h2) e h1]
  have how2 : ∀ q n, (whNM b bk F).ow q = some n → (∃ i, i < 17 ∧ bk i = some q ∧ n = 510 + i) ∨ (F q ∧ n = 500 ∧ ∀ i, i < 17 → bk i ≠ some q) := by
    intro q n e
    have e : (match (List.range 17).find? (fun i => decide (bk i = some q)) with | some i => some (510 + i) | none => (if F q then some 500 else none)) = some n := e
    cases e2 : (List.range 17).find? (fun i => decide (bk i = some q)) with
    | none =>
      rw [e2] at e
      simp only at e
      split at e
      · rename_i hF
        cases e
        refine Or.inr ⟨hF, rfl, fun i hi e3 => ?_⟩
        have := List.find?_eq_none.1 e2 i (List.mem_range.2 hi)
        simp [e3] at this
      · cases e
    | some j =>
      rw [e2] at e
      cases e
      have h1 := List.find?_some e2
      simp only [decide_eq_true_eq] at h1
      exact Or.inl ⟨j, List.mem_range.1 (List.mem_of_find?_eq_some e2), h1, rfl⟩
  have hbw : (whNM b bk F).ow b = some 500 := by
    show (match (List.range 17).find? (fun i => decide (bk i = some b)) with | some i => some (510 + i) | none => (if F b then some 500 else none)) = _
    cases e2 : (List.range 17).find? (fun i => decide (bk i = some b)) with
    | none => simp [f1]
    | some j =>
      have h1 := List.find?_some e2
      simp only [decide_eq_true_eq] at h1
      have := (hM j b (List.mem_range.1 (List.mem_of_find?_eq_some e2)) h1).2
      rw [q1] at this; cases this
  have h500 : whNM b bk F 500 = some b := by simp [whNM]
  have h599 : whNM b bk F 599 = some b := by simp [whNM]
  have hnm : ∀ i, i < 17 → whNM b bk F (510 + i) = bk i := by
    intro i hi
    show (if 510 + i = 500 ∨ 510 + i = 599 then some b else if 510 ≤ 510 + i ∧ 510 + i < 527 then bk (510 + i - 510) else none) = bk i
    rw [if_neg (by omega), if_pos (by omega), Nat.add_sub_cancel_left]
  refine ⟨whNM b bk F, fun i => if (bk i).isSome then some (510 + i) else none, Ms, ck, q4, ⟨fun i hi => ?_⟩, { at_ := h500, nm := ?_, ow1 := ?_, ow2 := ?_, sees := ?_ }⟩
  · cases e : bk i with
    | none =>
      left
      have := q2 i hi
      unfold MapAt at this
      rw [e] at this
      exact ⟨by simp [e], this⟩
    | some x => right; simp [e]
  · intro n q hn
    have hn : (if n = 500 ∨ n = 599 then some b else if 510 ≤ n ∧ n < 527 then bk (n - 510) else none) = some q := hn
    split at hn
    · rename_i e; cases hn; exact ⟨by omega, by omega, h3, f1⟩
    · split at hn
      · rename_i e
        have := (hM (n - 510) q (by omega) hn).1
        exact ⟨by omega, by omega, h4 _ this, this⟩
      · cases hn
  · intro q n hn
    rcases how2 q n hn with ⟨i, h5, h6, rfl⟩ | ⟨h5, rfl, _⟩
    · exact ⟨by omega, by omega, (hM i q h5 h6).1⟩
    · exact ⟨by decide, by decide, h5⟩
  · intro q hq
    show ∃ n, (match (List.range 17).find? (fun i => decide (bk i = some q)) with | some i => some (510 + i) | none => (if F q then some 500 else none)) = some n
    split
    · exact ⟨_, rfl⟩
    · exact ⟨500, by simp [hq]⟩
  · intro n g hg
    rw [look_cons] at hg
    split at hg
    · rename_i e; subst e; cases hg
      intro b' hb
      rw [h500] at hb; cases hb
      refine ⟨_, hbw, q1, .cells _ _ ?_⟩
      rw [whC_eq, whC_eq]
      refine AR.appL ⟨by simp, fun i v v' e1 e2 => ?_⟩ (AR.lits h500 h599 rest)
      simp only [List.getElem?_toArray, List.getElem?_map] at e1 e2
      cases e3 : (List.range 17)[i]? with
      | none => rw [e3] at e1; cases e1
      | some j =>
        rw [e3] at e1 e2
        have hj : j < 17 := List.mem_range.1 (List.mem_of_getElem? e3)
        cases e1; cases e2
        show VR _ (.map (if (bk j).isSome then some (510 + j) else none)) (.map (bk j))
        cases e4 : bk j with
        | none => exact .mapN
        | some x => exact .map (by rw [hnm j hj]; exact e4)
    · rw [whM_eq] at hg
      obtain ⟨i, hi, rfl, rfl⟩ := look_map hg
      have hi := List.mem_range.1 hi
      intro b' hb
      rw [hnm i hi] at hb
      obtain ⟨_, h6⟩ := hM i b' hi hb
      exact ⟨_, how i b' hi hb, h6, OR.encM evZ_clean rfl rfl⟩
/-- blocks of these names are a wheel -/
theorem pack_wheel {h : List (Nat × GO)} {N : List Nat} {t : TypeId} {rest : List Value} {o : Nat → Option Nat} {nm : Nat → Nat} {Ms : Nat → MapW} {ck : Nat → Nat} {T : List (Int × Int)} {n0 : Nat}
    (hl : look h n0 = some (.rw (.cells ⟨whC o (rest.map lit)⟩ t))) (hm : subL (whM nm Ms ck) h) (hN0 : memL n0 N = true) (hN : ∀ i, i < 17 → memL (nm i) N = true) (hinj : ∀ i j, i < 17 → j < 17 → nm i = nm j → i = j) (ho : WhO o nm Ms) (hI : WhI Ms ck T) :
    Packs h n0 N (WheelR t rest T) := by
  intro g w b hs hb
  obtain ⟨o', k1, k2, k3⟩ := hs n0 _ hl b hb
  rw [whM_eq] at hm
  have hm := subL_mem hm
  cases k3 with
  | cells _ _ ha =>
    rw [whC_eq] at ha
    obtain ⟨x', y', rfl, r1, r2⟩ := AR.splitL ha
    have := AR.lits_inv r2; subst this
    obtain ⟨bk, hbk⟩ : ∃ bk : Nat → Option Nat, bk = fun i => match o i with | none => none | some n => g n := ⟨_, rfl⟩
    have key : ∀ i, i < 17 → x'[i]? = some (.map (bk i)) ∧ (∀ q, bk i = some q → o i = some (nm i) ∧ g (nm i) = some q) ∧ (bk i = none → o i = none) := by
      intro i hi
      have hx : i < x'.length := by have := r1.1; simp at this; omega
      have h1 := r1.2 i (.map (o i)) x'[i] (by simp [hi]) (by simp [hx])
      rw [List.getElem?_eq_getElem hx, hbk]
      generalize x'[i] = z at h1
      rcases ho.sl i hi with ⟨e, _⟩ | e
      · rw [e] at h1
        cases h1
        refine ⟨by simp [e], fun q hq => ?_, fun _ => e⟩
        simp [e] at hq
      · rw [e] at h1
        cases h1 with
        | map hq =>
          refine ⟨by simp [e, hq], fun q h2 => ⟨e, by simpa [e] using h2⟩, fun h2 => ?_⟩
          simp [e, hq] at h2
    have hx : x' = (List.range 17).map fun i => Value.map (bk i) := by
      apply List.ext_getElem?
      intro i
      by_cases hi : i < 17
      · rw [(key i hi).1]; simp [hi]
      · have hl : x'.length = 17 := by have := r1.1; simp at this; omega
        rw [List.getElem?_eq_none (by omega), List.getElem?_eq_none (by simp; omega)]
    refine ⟨bk, Ms, ck, ⟨n0, hN0, k1⟩, by rw [k2, hx, whC_eq], fun i hi => ?_, fun i j x hi hj e1 e2 => ?_, hI⟩
    · unfold MapAt
      cases e : bk i with
      | none =>
        rcases ho.sl i hi with ⟨_, h1⟩ | h1
        · exact h1
        · have := (key i hi).2.2 e; rw [h1] at this; cases this
      | some q =>
        obtain ⟨h1, h2⟩ := (key i hi).2.1 q e
        obtain ⟨o2, p1, p2, p3⟩ := hs (nm i) _ (hm i (List.mem_range.2 hi)) q h2
        refine ⟨⟨nm i, hN i hi, p1⟩, ?_⟩
        cases p3 with
        | map _ hh => rw [p2, ES.encM_eq evZ_clean hh]
    · obtain ⟨h1, h2⟩ := (key i hi).2.1 x e1
      obtain ⟨h3, h4⟩ := (key j hj).2.1 x e2
      obtain ⟨o2, p1, _, _⟩ := hs (nm i) _ (hm i (List.mem_range.2 hi)) x h2
      obtain ⟨o3, s1, _, _⟩ := hs (nm j) _ (hm j (List.mem_range.2 hj)) x h4
      rw [p1] at s1
      exact hinj i j hi hj (by simpa using s1)
end Go.Proofs.Ytliaoaejmmkkjaa
namespace Go.Proofs.Ytliaoaejmmkkjaa
open Go

/-! what is due, plainly -/
def lookT (id : Int) : List (Int × Int) → Option Int
  | [] => none
  | (a, v) :: r => if id = a then some v else lookT id r
def dropT (id : Int) (T : List (Int × Int)) : List (Int × Int) := T.filter fun x => decide (x.1 ≠ id)
theorem lookT_none {id : Int} {T : List (Int × Int)} (h : lookT id T = none) : ∀ x ∈ T, x.1 ≠ id := by
  induction T with
  | nil => intro x hx; cases hx
  | cons y r ih =>
    obtain ⟨a, v⟩ := y
    simp only [lookT] at h
    split at h
    · cases h
    · rename_i e
      intro x hx
      rcases List.mem_cons.1 hx with rfl | hx
      · exact fun h2 => e h2.symm
      · exact ih h x hx
theorem lookT_some {id v : Int} {T : List (Int × Int)} (h : lookT id T = some v) : (id, v) ∈ T := by
  induction T with
  | nil => cases h
  | cons y r ih =>
    obtain ⟨a, u⟩ := y
    simp only [lookT] at h
    split at h
    · rename_i e; cases h; subst e; simp
    · exact List.mem_cons_of_mem _ (ih h)
theorem lookT_mem {id v : Int} {T : List (Int × Int)} (hn : (T.map (·.1)).Nodup) (h : (id, v) ∈ T) : lookT id T = some v := by
  induction T with
  | nil => cases h
  | cons y r ih =>
    obtain ⟨a, u⟩ := y
    simp only [List.map_cons, List.nodup_cons] at hn
    simp only [lookT]
    rcases List.mem_cons.1 h with h | h
    · cases h; rw [if_pos rfl]
    · rw [if_neg (fun e => hn.1 (List.mem_map.2 ⟨_, h, e⟩))]
      exact ih hn.2 h
theorem dropT_none {id : Int} {T : List (Int × Int)} (h : lookT id T = none) : dropT id T = T := by
  apply List.filter_eq_self.2
  intro x hx
  simpa using lookT_none h x hx
theorem dropT_look (id : Int) (T : List (Int × Int)) : lookT id (dropT id T) = none := by
  cases e : lookT id (dropT id T) with
  | none => rfl
  | some v =>
    have := (List.mem_filter.1 (lookT_some e)).2
    simp at this
theorem lookT_append (id : Int) (T T' : List (Int × Int)) : lookT id (T ++ T') = (lookT id T).or (lookT id T') := by
  induction T with
  | nil => simp [lookT]
  | cons y r ih =>
    obtain ⟨a, v⟩ := y
    simp only [List.cons_append, lookT]
    split
    · simp
    · exact ih
theorem getM_prM (id : Int) (M : MapW) : getM M id = lookT id (M.map prM) := by
  induction M with
  | nil => rfl
  | cons y r ih =>
    obtain ⟨a, v, c⟩ := y
    simp only [getM, List.map_cons, lookT]
    split
    · rfl
    · exact ih
theorem delM_prM {id : Int} : ∀ {M : MapW}, ((M.map prM).map (·.1)).Nodup → (delM id M).map prM = dropT id (M.map prM) := by
  intro M
  induction M with
  | nil => intro _; rfl
  | cons y r ih =>
    obtain ⟨a, v, c⟩ := y
    intro hn
    simp only [List.map_cons, List.nodup_cons] at hn
    simp only [delM]
    split
    · rename_i e
      subst e
      simp only [List.map_cons, dropT]
      rw [List.filter_cons_of_neg (by simp)]
      symm
      apply List.filter_eq_self.2
      intro x hx
      simp only [decide_eq_true_eq]
      intro h2
      exact hn.1 (List.mem_map.2 ⟨x, hx, h2⟩)
    · rename_i e
      simp only [List.map_cons, dropT]
      rw [List.filter_cons_of_pos (by simp; exact fun h => e h.symm)]
      rw [ih hn.2]; rfl
theorem delM_sub (id : Int) : ∀ (M : MapW), (delM id M).Sublist M := by
  intro M
  induction M with
  | nil => exact .slnil
  | cons y r ih =>
    obtain ⟨a, v, c⟩ := y
    simp only [delM]
    split
    · exact List.sublist_cons_self _ _
    · exact ih.cons_cons _
theorem setM_new {ck : Nat} {id v : Int} : ∀ {M : MapW}, getM M id = none → setM ck id v M = M ++ [(id, v, ck)] := by
  intro M
  induction M with
  | nil => intro _; rfl
  | cons y r ih =>
    obtain ⟨a, u, c⟩ := y
    intro h
    simp only [getM] at h
    split at h
    · cases h
    · rename_i e; simp only [setM]; rw [if_neg e, ih h]; rfl
theorem TOk.sub {T T' : List (Int × Int)} (h : TOk T) (s : T'.Sublist T) : TOk T' := ⟨(s.map _).nodup h.nd, fun x hx => h.rg x (s.subset hx)⟩
theorem TOk.drop {T : List (Int × Int)} (h : TOk T) (id : Int) : TOk (dropT id T) := h.sub List.filter_sublist
theorem TOk.add {T : List (Int × Int)} (h : TOk T) {id v : Int} (hl : lookT id T = none) (hv : 0 ≤ v ∧ v ≤ 1099511627776) : TOk (T ++ [(id, v)]) where
  nd := by
    rw [List.map_append, List.nodup_append]
    refine ⟨h.nd, by simp, fun a ha b hb => ?_⟩
    obtain ⟨x, hx, rfl⟩ := List.mem_map.1 ha
    simp at hb
    subst hb
    exact lookT_none hl x hx
  rg := fun x hx => by
    rcases List.mem_append.1 hx with hx | hx
    · exact h.rg x hx
    · simp at hx; subst hx; exact hv
theorem TOk.perm {T T' : List (Int × Int)} (h : TOk T) (p : T.Perm T') : TOk T' := ⟨(p.map _).nodup_iff.1 h.nd, fun x hx => h.rg x (p.mem_iff.2 hx)⟩
theorem partT_16 (T : List (Int × Int)) : partT 16 T = T := by simp [partT]
theorem partT_sub (i : Nat) (T : List (Int × Int)) : (partT i T).Sublist T := by
  unfold partT
  split
  · exact List.Sublist.refl _
  · exact List.filter_sublist
theorem partT_drop (i : Nat) (id : Int) (T : List (Int × Int)) : partT i (dropT id T) = dropT id (partT i T) := by
  unfold partT
  split
  · rfl
  · unfold dropT
    rw [List.filter_filter, List.filter_filter]
    apply List.filter_congr
    intro x _
    rw [Bool.and_comm]
theorem partT_other {i j : Nat} {id v : Int} {T : List (Int × Int)} (h : TOk T) (hl : lookT id T = some v) (hj : v.tmod 16 = (j : Int)) (hi : i ≠ j) (hi2 : i ≠ 16) : partT i (dropT id T) = partT i T := by
  rw [partT_drop]
  apply dropT_none
  cases e : lookT id (partT i T) with
  | none => rfl
  | some u =>
    have h1 := lookT_some e
    have h2 := lookT_mem h.nd ((partT_sub i T).subset h1)
    rw [hl] at h2; cases h2
    unfold partT at h1
    rw [if_neg hi2] at h1
    have := (List.mem_filter.1 h1).2
    simp only [decide_eq_true_eq] at this
    omega
theorem partT_look {j : Nat} {id v : Int} {T : List (Int × Int)} (h : TOk T) (hl : lookT id T = some v) (hj : v.tmod 16 = (j : Int)) : lookT id (partT j T) = some v := by
  have h1 : (id, v) ∈ partT j T := by
    unfold partT
    split
    · exact lookT_some hl
    · exact List.mem_filter.2 ⟨lookT_some hl, by simp [hj]⟩
  exact lookT_mem ((partT_sub j T).map _ |>.nodup h.nd) h1
theorem partT_add (i : Nat) (T : List (Int × Int)) (id v : Int) : partT i (T ++ [(id, v)]) = partT i T ++ (if i = 16 ∨ v.tmod 16 = (i : Int) then [(id, v)] else []) := by
  unfold partT
  split
  · rename_i e; rw [if_pos (Or.inl e)]
  · rename_i e
    rw [List.filter_append]
    congr 1
    by_cases h : v.tmod 16 = (i : Int)
    · rw [if_pos (Or.inr h), List.filter_cons_of_pos (by simp [h])]; rfl
    · rw [if_neg (by rintro (h2 | h2); exact e h2; exact h h2), List.filter_cons_of_neg (by simp [h])]; rfl
theorem WhI.keys {Ms : Nat → MapW} {ck : Nat → Nat} {T : List (Int × Int)} (h : WhI Ms ck T) {i : Nat} (hi : i < 17) : (((Ms i).map prM).map (·.1)).Nodup := by
  rw [h.pr i hi]; exact ((partT_sub i T).map _).nodup h.ok.nd
theorem WhI.drop {Ms : Nat → MapW} {ck : Nat → Nat} {T : List (Int × Int)} (h : WhI Ms ck T) {id v : Int} {j : Nat} (hl : lookT id T = some v) (hj : v.tmod 16 = (j : Int)) :
    WhI (fun i => if i = j ∨ i = 16 then delM id (Ms i) else Ms i) ck (dropT id T) where
  lt := fun i hi x hx => by
    split at hx
    · exact h.lt i hi x ((delM_sub id _).subset hx)
    · exact h.lt i hi x hx
  nd := fun i hi => by
    split
    · exact ((delM_sub id _).map _).nodup (h.nd i hi)
    · exact h.nd i hi
  pr := fun i hi => by
    split
    · rw [delM_prM (h.keys hi), h.pr i hi, partT_drop]
    · rename_i e
      rw [h.pr i hi, partT_other h.ok hl hj (fun e2 => e (Or.inl e2)) (fun e2 => e (Or.inr e2))]
  ok := h.ok.drop id
/-- new maps begin anew -/
theorem WhI.clock {Ms : Nat → MapW} {ck ck' : Nat → Nat} {T : List (Int × Int)} (h : WhI Ms ck T) (hc : ∀ i, i < 17 → Ms i = [] ∨ ck' i = ck i) : WhI Ms ck' T := by
  refine { h with lt := ?_ }
  intro i hi x hx
  rcases hc i hi with e | e
  · rw [e] at hx; cases hx
  · rw [e]; exact h.lt i hi x hx
theorem WhI.add {Ms : Nat → MapW} {ck : Nat → Nat} {T : List (Int × Int)} (h : WhI Ms ck T) {id v : Int} {k : Nat} (hl : lookT id T = none) (hk : v.tmod 16 = (k : Int)) (hv : 0 ≤ v ∧ v ≤ 1099511627776) :
    WhI (fun i => if i = k ∨ i = 16 then Ms i ++ [(id, v, ck i)] else Ms i) (fun i => if i = k ∨ i = 16 then ck i + 1 else ck i) (T ++ [(id, v)]) where
  lt := fun i hi x hx => by
    split at hx
    · rename_i e
      rw [if_pos e]
      rcases List.mem_append.1 hx with hx | hx
      · have := h.lt i hi x hx; omega
      · simp at hx; subst hx; simp
    · rename_i e; rw [if_neg e]; exact h.lt i hi x hx
  nd := fun i hi => by
    split
    · rw [List.map_append, List.nodup_append]
      refine ⟨h.nd i hi, by simp, fun a ha b hb => ?_⟩
      obtain ⟨x, hx, rfl⟩ := List.mem_map.1 ha
      simp at hb
      subst hb
      have := h.lt i hi x hx
      omega
    · exact h.nd i hi
  pr := fun i hi => by
    rw [partT_add]
    by_cases e : i = k ∨ i = 16
    · rw [if_pos e, if_pos (by
        rcases e with rfl | e
        · exact Or.inr hk
        · exact Or.inl e), List.map_append, h.pr i hi]; rfl
    · rw [if_neg e, if_neg (by
        rintro (h2 | h2)
        · exact e (Or.inr h2)
        · rw [hk] at h2; exact e (Or.inl (by omega))), List.append_nil]
      exact h.pr i hi
  ok := h.ok.add hl hv
theorem WhI.get {Ms : Nat → MapW} {ck : Nat → Nat} {T : List (Int × Int)} (h : WhI Ms ck T) (id : Int) : getM (Ms 16) id = lookT id T := by rw [getM_prM, h.pr 16 (by omega), partT_16]
theorem WhI.none_k {Ms : Nat → MapW} {ck : Nat → Nat} {T : List (Int × Int)} (h : WhI Ms ck T) {id : Int} (hl : lookT id T = none) {k : Nat} (hk : k < 17) : getM (Ms k) id = none := by
  rw [getM_prM, h.pr k hk]
  cases e : lookT id (partT k T) with
  | none => rfl
  | some u => exact absurd rfl (lookT_none hl _ ((partT_sub k T).subset (lookT_some e)))
theorem WhI.some_k {Ms : Nat → MapW} {ck : Nat → Nat} {T : List (Int × Int)} (h : WhI Ms ck T) {id v : Int} (hl : lookT id T = some v) {j : Nat} (hj : v.tmod 16 = (j : Int)) (hk : j < 17) : Ms j ≠ [] := by
  intro e
  have := partT_look h.ok hl hj
  rw [← h.pr j hk, e] at this
  cases this
theorem TOk.nil : TOk [] := ⟨by simp, fun x hx => by cases hx⟩
theorem WhI.nil (ck : Nat → Nat) : WhI (fun _ => []) ck [] :=
  { lt := fun i _ x hx => (by cases hx), nd := fun i _ => by simp, pr := fun i _ => by simp [partT], ok := TOk.nil }
/-- a wheel on which nothing is -/
theorem pack_new {h : List (Nat × GO)} {N : List Nat} {t : TypeId} {rest : List Value} {n0 : Nat} (hl : look h n0 = some (.rw (.cells ⟨whC (fun _ => none) (rest.map lit)⟩ t))) (hN0 : memL n0 N = true) : Packs h n0 N (WheelR t rest []) := by
  intro g w b hs hb
  obtain ⟨o', k1, k2, k3⟩ := hs n0 _ hl b hb
  cases k3 with
  | cells _ _ ha =>
    rw [whC_eq] at ha
    obtain ⟨x', y', rfl, r1, r2⟩ := AR.splitL ha
    have := AR.lits_inv r2; subst this
    have hx : x' = (List.range 17).map fun i => Value.map none := by
      have hl : x'.length = 17 := by have := r1.1; simp at this; omega
      apply List.ext_getElem?
      intro i
      by_cases hi : i < 17
      · have hx : i < x'.length := by omega
        have h1 := r1.2 i (.map none) x'[i] (by simp [hi]) (by simp [hx])
        rw [List.getElem?_eq_getElem hx]
        generalize x'[i] = z at h1
        cases h1
        simp [hi]
      · rw [List.getElem?_eq_none (by omega), List.getElem?_eq_none (by simp; omega)]
    exact ⟨fun _ => none, fun _ => [], fun _ => 0, ⟨n0, hN0, k1⟩, by rw [k2, hx, whC_eq], fun i hi => rfl, fun i j x _ _ e => (by cases e), WhI.nil _⟩
theorem WhO.get {o : Nat → Option Nat} {nm : Nat → Nat} {Ms : Nat → MapW} (h : WhO o nm Ms) {i : Nat} (hi : i < 17) (hne : Ms i ≠ []) : o i = some (nm i) := by
  rcases h.sl i hi with ⟨_, e⟩ | e
  · exact absurd e hne
  · exact e
theorem subL_whH {o : Nat → Option Nat} {Ms : Nat → MapW} {ck : Nat → Nat} {t : TypeId} {rest : List Value} : subL (whH o Ms ck t rest) (whH o Ms ck t rest) :=
  ⟨rfl, rfl, rfl, rfl, rfl, rfl, rfl, rfl, rfl, rfl, rfl, rfl, rfl, rfl, rfl, rfl, rfl, rfl, trivial⟩
theorem WhO.drop {o : Nat → Option Nat} {nm : Nat → Nat} {Ms : Nat → MapW} (h : WhO o nm Ms) (id : Int) (j : Nat) : WhO o nm (fun i => if i = j ∨ i = 16 then delM id (Ms i) else Ms i) := by
  refine ⟨fun i hi => ?_⟩
  rcases h.sl i hi with ⟨e1, e2⟩ | e
  · left
    refine ⟨e1, ?_⟩
    split
    · rw [e2]; rfl
    · exact e2
  · exact Or.inr e
end Go.Proofs.Ytliaoaejmmkkjaa

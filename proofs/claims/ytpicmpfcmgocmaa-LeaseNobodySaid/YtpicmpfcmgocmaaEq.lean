/- '==' between structs and arrays of numbers and truth values: field by field. -/
import Derived.Test.YtpicmpfcmgocmaaRead
import Derived.DeepKeys
namespace Go.Proofs.Ytpicmpfcmgocmaa
open Go.RowKit

def leafKd : Leaf → Value → Prop
  | .b, v => ∃ x, v = .bool x
  | .i k, v => ∃ n, v = .int k n
def leafEq : Value → Value → Bool
  | .int _ a, .int _ b => a == b
  | .bool a, .bool b => a == b
  | _, _ => false
def aggEq : List Value → List Value → Bool
  | [], [] => true
  | x :: xs, y :: ys => leafEq x y && aggEq xs ys
  | _, _ => false
theorem aggEq_append {a b c d : List Value} (h : a.length = b.length) : aggEq (a ++ c) (b ++ d) = (aggEq a b && aggEq c d) := by
  induction a generalizing b with
  | nil => cases b <;> simp_all [aggEq]
  | cons x a ih => cases b <;> simp_all [aggEq, Bool.and_assoc]
/-- No blank field, at any depth. -/
def named (P : Program) : Nat → TypeId → Bool
  | 0, _ => false
  | m + 1, t =>
    match P.underlying t with
    | some .bool => true
    | some (.int _) => true
    | some (.struct fs) => !P.stoodInHeld t && fs.toList.all fun f => f.name != "_" && named P m f.type
    | some (.array _ e) => named P m e
    | _ => false
def aggT (P : Program) (t : TypeId) : Bool := match P.underlying t with | some (.struct _) | some (.array _ _) => true | _ => false
/-- A value of a type, out of its cells. -/
def ofCells (P : Program) (t : TypeId) (cs : List Value) : Value := if aggT P t then .agg cs.toArray else cs.headD undef
theorem extract_take (xs : Array Value) (off n : Nat) : xs.extract off (off + n) = (List.take n (List.drop off xs.toList)).toArray := by
  apply Array.toList_inj.1
  rw [Array.toList_extract]
  simp [List.extract]
theorem All2.split {α β : Type} {R : α → β → Prop} {a b : List α} {l : List β} (h : All2 R (a ++ b) l) : All2 R a (l.take a.length) ∧ All2 R b (l.drop a.length) := by
  induction a generalizing l with
  | nil => exact ⟨by simpa using All2.nil, by simpa using h⟩
  | cons x a ih =>
    obtain ⟨y, m, rfl, h1, h2⟩ := All2.cons_inv h
    obtain ⟨h3, h4⟩ := ih h2
    exact ⟨.cons h1 h3, h4⟩
section
variable {P : Program} (w : World)
theorem run_part_of {t : TypeId} {xs : Array Value} {off : Nat} {ks : List Leaf} {m : Nat} (hk : leaves P m t = some ks) (hsz : ks.length = P.cellsOf t) (hx : All2 leafKd ks ((xs.toList.drop off).take (P.cellsOf t))) :
    (part t xs off).run P w = .ok (ofCells P t ((xs.toList.drop off).take (P.cellsOf t))) w := by
  cases m with
  | zero => simp [leaves] at hk
  | succ m =>
    simp only [leaves] at hk
    split at hk
    · rename_i hu
      simp at hk
      subst hk
      obtain ⟨v, m', e, _, h2⟩ := All2.cons_inv hx
      have := All2.nil_inv h2
      subst this
      have h0 : xs[off]? = some v := getElem?_of_chunk e
      simp [part, isAgg, run_underlying hu, h0, ofCells, aggT, hu, e]
    · rename_i k hu
      simp at hk
      subst hk
      obtain ⟨v, m', e, _, h2⟩ := All2.cons_inv hx
      have := All2.nil_inv h2
      subst this
      have h0 : xs[off]? = some v := getElem?_of_chunk e
      simp [part, isAgg, run_underlying hu, h0, ofCells, aggT, hu, e]
    · rename_i fs hu
      obtain ⟨i, hi⟩ := info_of_underlying hu
      simp [part, isAgg, run_underlying hu, run_sizeOf w hi, ofCells, aggT, hu]
      exact extract_take xs off _
    · rename_i n e hu
      obtain ⟨i, hi⟩ := info_of_underlying hu
      simp [part, isAgg, run_underlying hu, run_sizeOf w hi, ofCells, aggT, hu]
      exact extract_take xs off _
    · cases hk
end
def EqL (P : Program) (dd m : Nat) (t : TypeId) : Prop :=
  ∀ (w : World) (ks : List Leaf) (xs ys : List Value), leaves P m t = some ks → named P m t = true → All2 leafKd ks xs → All2 leafKd ks ys → (Op.equalIn dd t (ofCells P t xs) (ofCells P t ys)).run P w = .ok (aggEq xs ys) w
section
variable {P : Program} (w : World)
theorem leaves_size : ∀ {m : Nat} {t : TypeId} {ks : List Leaf}, leaves P m t = some ks → aggT P t = true → ks.length = P.cellsOf t := by
  intro m t ks h ha
  cases m with
  | zero => simp [leaves] at h
  | succ m =>
    simp only [leaves] at h
    split at h
    · rename_i hu; simp [aggT, hu] at ha
    · rename_i hu; simp [aggT, hu] at ha
    · simp only [Option.bind_eq_some_iff] at h
      obtain ⟨k', _, h⟩ := h
      split at h
      · simp at h; subst h; assumption
      · cases h
    · simp only [Option.bind_eq_some_iff] at h
      obtain ⟨k', _, h⟩ := h
      split at h
      · simp at h; subst h; assumption
      · cases h
    · cases h
/-- One part. -/
theorem run_one {dd m off : Nat} {t : TypeId} (IH : EqL P dd m t) {ka kb : List Leaf} {xs ys : Array Value} (hk : leaves P m t = some ka) (hn : named P m t = true) (hsz : ka.length = P.cellsOf t)
    (hx : All2 leafKd (ka ++ kb) (xs.toList.drop off)) (hy : All2 leafKd (ka ++ kb) (ys.toList.drop off)) :
    ∃ a b, (part t xs off).run P w = .ok a w ∧ (part t ys off).run P w = .ok b w ∧ (Op.equalIn dd t a b).run P w = .ok (aggEq ((xs.toList.drop off).take (P.cellsOf t)) ((ys.toList.drop off).take (P.cellsOf t))) w ∧
      All2 leafKd kb (xs.toList.drop (off + P.cellsOf t)) ∧ All2 leafKd kb (ys.toList.drop (off + P.cellsOf t)) ∧
      aggEq (xs.toList.drop off) (ys.toList.drop off) = (aggEq ((xs.toList.drop off).take (P.cellsOf t)) ((ys.toList.drop off).take (P.cellsOf t)) && aggEq (xs.toList.drop (off + P.cellsOf t)) (ys.toList.drop (off + P.cellsOf t))) := by
  obtain ⟨hx1, hx2⟩ := hx.split
  obtain ⟨hy1, hy2⟩ := hy.split
  have lx := hx1.length
  have ly := hy1.length
  rw [hsz] at hx1 hx2 hy1 hy2 lx ly
  rw [List.drop_drop] at hx2 hy2
  refine ⟨_, _, run_part_of w hk hsz hx1, run_part_of w hk hsz hy1, IH w ka _ _ hk hn hx1 hy1, hx2, hy2, ?_⟩
  rw [← aggEq_append (by rw [← lx, ← ly]), ← List.drop_drop, ← List.drop_drop, List.take_append_drop, List.take_append_drop]
theorem run_and {r b : Bool} {X : Sem Bool} (h : X.run P w = .ok b w) : (if (!r) = true then pure false else X : Sem Bool).run P w = .ok (r && b) w := by
  cases r <;> simp [h]
theorem run_eqFields_leaves (dd m : Nat) (xs ys : Array Value) : ∀ (fs : List Field) (off : Nat) (ks : List Leaf), (∀ f ∈ fs, f.name ≠ "_" ∧ named P m f.type = true ∧ EqL P dd m f.type) →
    goF P (leaves P m) off (fs.map fun f => (f.offset, f.type)) = some ks → All2 leafKd ks (xs.toList.drop off) → All2 leafKd ks (ys.toList.drop off) →
    (Op.eqFields dd xs ys fs).run P w = .ok (aggEq (xs.toList.drop off) (ys.toList.drop off)) w := by
  intro fs
  induction fs with
  | nil =>
    intro off ks _ h hx hy
    simp [goF] at h
    subst h
    rw [All2.nil_inv hx, All2.nil_inv hy]
    simp [Op.eqFields, aggEq]
  | cons f fs ih =>
    intro off ks hall h hx hy
    simp only [List.map_cons, goF] at h
    split at h
    · rename_i hoff
      split at h
      · rename_i a b ha hb
        split at h
        · rename_i hal
          simp at h
          subst h
          obtain ⟨hn, hnm, IH⟩ := hall f (by simp)
          obtain ⟨u, v, p1, p2, p3, hx2, hy2, e⟩ := run_one w IH ha hnm hal hx hy
          have h2 := ih (off + P.cellsOf f.type) b (fun g hg => hall g (by simp [hg])) hb hx2 hy2
          rw [e]
          simp only [Op.eqFields, hn, ne_eq, not_false_eq_true, if_true, Sem.run_bind, hoff, p1, p2, p3, Result.andThen_ok]
          exact run_and w h2
        · cases h
      · cases h
    · cases h
theorem run_eqItems_leaves (dd m : Nat) {e : TypeId} (hnm : named P m e = true) (IH : EqL P dd m e) (xs ys : Array Value) : ∀ (is : List Nat) (off : Nat) (ks : List Leaf),
    goF P (leaves P m) off (is.map fun i => (i * P.cellsOf e, e)) = some ks → All2 leafKd ks (xs.toList.drop off) → All2 leafKd ks (ys.toList.drop off) →
    (Op.eqItems dd e (P.cellsOf e) xs ys is).run P w = .ok (aggEq (xs.toList.drop off) (ys.toList.drop off)) w := by
  intro is
  induction is with
  | nil =>
    intro off ks h hx hy
    simp [goF] at h
    subst h
    rw [All2.nil_inv hx, All2.nil_inv hy]
    simp [Op.eqItems, aggEq]
  | cons i is ih =>
    intro off ks h hx hy
    simp only [List.map_cons, goF] at h
    split at h
    · rename_i hoff
      split at h
      · rename_i a b ha hb
        split at h
        · rename_i hal
          simp at h
          subst h
          obtain ⟨u, v, p1, p2, p3, hx2, hy2, e'⟩ := run_one w IH ha hnm hal hx hy
          have h2 := ih (off + P.cellsOf e) b hb hx2 hy2
          rw [e']
          simp only [Op.eqItems, Sem.run_bind, hoff, p1, p2, p3, Result.andThen_ok]
          exact run_and w h2
        · cases h
      · cases h
    · cases h
end
theorem run_equalIn_leaves {P : Program} (d : Nat) : ∀ (m : Nat) (t : TypeId), EqL P (d + m) m t
  | 0, t => by intro w ks xs ys h; simp [leaves] at h
  | m + 1, t => by
    intro w ks xs ys h hn hx hy
    simp only [leaves] at h
    simp only [named] at hn
    split at h
    · rename_i hu
      simp at h
      subst h
      obtain ⟨_, _, rfl, ⟨a, rfl⟩, h2⟩ := All2.cons_inv hx
      obtain ⟨_, _, rfl, ⟨b, rfl⟩, h4⟩ := All2.cons_inv hy
      rw [All2.nil_inv h2, All2.nil_inv h4]
      have := run_equalIn_bool' w (d + m) t a b hu
      rw [show d + (m + 1) = d + m + 1 from rfl]
      simpa [ofCells, aggT, hu, aggEq, leafEq] using this
    · rename_i k hu
      simp at h
      subst h
      obtain ⟨_, _, rfl, ⟨a, rfl⟩, h2⟩ := All2.cons_inv hx
      obtain ⟨_, _, rfl, ⟨b, rfl⟩, h4⟩ := All2.cons_inv hy
      rw [All2.nil_inv h2, All2.nil_inv h4]
      have := run_equalIn_int w (d + m) t k k a b hu
      rw [show d + (m + 1) = d + m + 1 from rfl]
      simpa [ofCells, aggT, hu, aggEq, leafEq] using this
    · rename_i fs hu
      simp only [hu, Bool.and_eq_true, Bool.not_eq_true', List.all_eq_true, bne_iff_ne, ne_eq] at hn
      simp only [Option.bind_eq_some_iff] at h
      obtain ⟨ks', hk, h⟩ := h
      split at h
      · simp at h
        subst h
        have hfs : P.fieldsOf t = fs := by simp [Program.fieldsOf, hu]
        have := run_eqFields_leaves w (d + m) m xs.toArray ys.toArray fs.toList 0 ks' (fun f hf => ⟨(hn.2 f hf).1, (hn.2 f hf).2, run_equalIn_leaves d m f.type⟩) hk (by simpa using hx) (by simpa using hy)
        simp only [ofCells, aggT, hu, if_true]
        rw [show d + (m + 1) = (d + m) + 1 from rfl, run_equalIn_struct w (d + m) t _ _ (by rw [hfs]; exact hu) hn.1, hfs]
        simpa using this
      · cases h
    · rename_i n e hu
      simp only [hu] at hn
      simp only [Option.bind_eq_some_iff] at h
      obtain ⟨ks', hk, h⟩ := h
      split at h
      · simp at h
        subst h
        have hpe : ∃ i, P.info? e = some i := by
          cases m with
          | zero => simp [named] at hn
          | succ m' =>
            simp only [named] at hn
            cases hue : P.underlying e with
            | none => simp [hue] at hn
            | some _ => exact info_of_underlying hue
        obtain ⟨i, hi⟩ := hpe
        have := run_eqItems_leaves w (d + m) m hn (run_equalIn_leaves d m e) xs.toArray ys.toArray (List.range n) 0 ks' hk (by simpa using hx) (by simpa using hy)
        simp only [ofCells, aggT, hu, if_true]
        rw [show d + (m + 1) = (d + m) + 1 from rfl, run_equalIn_array w (d + m) _ _ hu hi]
        simpa using this
      · cases h
    · cases h
/-- '==', '!=' between two structs or arrays. -/
theorem run_eql_leaves {P : Program} {m : Nat} (hm : m ≤ 10000) {t : TypeId} {ks : List Leaf} (hk : leaves P m t = some ks) (hn : named P m t = true) (ha : aggT P t = true) {xs ys : List Value} (hx : All2 leafKd ks xs) (hy : All2 leafKd ks ys) (w : World) :
    (binOp .eql t (.agg xs.toArray) (.agg ys.toArray)).run P w = .ok (.bool (aggEq xs ys)) w := by
  have := run_equalIn_leaves (P := P) (10000 - m) m t w ks xs ys hk hn hx hy
  rw [Nat.sub_add_cancel hm] at this
  simp only [ofCells, ha, if_true] at this
  simp only [binOp]
  simp [Op.equal, Op.maxDepth, this]
theorem run_neq_leaves {P : Program} {m : Nat} (hm : m ≤ 10000) {t : TypeId} {ks : List Leaf} (hk : leaves P m t = some ks) (hn : named P m t = true) (ha : aggT P t = true) {xs ys : List Value} (hx : All2 leafKd ks xs) (hy : All2 leafKd ks ys) (w : World) :
    (binOp .neq t (.agg xs.toArray) (.agg ys.toArray)).run P w = .ok (.bool (!aggEq xs ys)) w := by
  have := run_equalIn_leaves (P := P) (10000 - m) m t w ks xs ys hk hn hx hy
  rw [Nat.sub_add_cancel hm] at this
  simp only [ofCells, ha, if_true] at this
  simp only [binOp]
  simp [Op.equal, Op.maxDepth, this]
theorem All2.b {x : Bool} {l : List Leaf} {m : List Value} (h : All2 leafKd l m) : All2 leafKd (.b :: l) (.bool x :: m) := .cons ⟨_, rfl⟩ h
theorem All2.i {k : IntKind} {x : Int} {l : List Leaf} {m : List Value} (h : All2 leafKd l m) : All2 leafKd (.i k :: l) (.int k x :: m) := .cons ⟨_, rfl⟩ h
section
variable (a0 a1 a2 b0 b1 b2 : Int) (w : World)
theorem leaves_res : leaves Try.prog 3 68 = some [.i .i64, .i .i64, .i .i64] := by kernel_rfl
theorem eql_res : (Op.equalIn 10000 68 (.agg #[.int .i64 a0, .int .i64 a1, .int .i64 a2]) (.agg #[.int .i64 b0, .int .i64 b1, .int .i64 b2])).run Try.prog w = .ok (a0 == b0 && (a1 == b1 && a2 == b2)) w := by
  have := run_equalIn_leaves (P := Try.prog) 9997 3 68 w _ [.int .i64 a0, .int .i64 a1, .int .i64 a2] [.int .i64 b0, .int .i64 b1, .int .i64 b2] leaves_res (by kernel_rfl) (.i (.i (.i .nil))) (.i (.i (.i .nil)))
  have ha : aggT Try.prog 68 = true := by kernel_rfl
  simp only [ofCells, ha, if_true] at this
  simpa [aggEq, leafEq] using this
theorem eqGuard_res (x y : Operand) (xs ys : Array Value) : (eqGuard .eql 68 x y (.agg xs) (.agg ys)).run Try.prog w = .ok () w := run_eqGuard_agg w _ _ _ _ _ _ (by kernel_rfl)
end
attribute [go_sem] eql_res eqGuard_res
end Go.Proofs.Ytpicmpfcmgocmaa

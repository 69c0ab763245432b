/- A job ends once, and stays as it ended: the walk. -/
import Derived.Test.YtpicmpfcmgocmaaDoorJD6

namespace Go.Proofs.YtpicmpfcmgocmaaDoor
open Go.RowKit
/-- a call of plain arguments and rows, that looks at one variable -/
theorem calls_of_body {P : Program} {tt : List (Nat × TK)} (hT : TKok P tt) (hm : P.follows .mixedOrders = true) {k : Nat} {fn : Func} {code : Code} (hf : P.funcs[k]? = some fn) (hb : fn.body = some code)
    {L : List Value} {t : TypeId} {fz : Nat × Nat} (hL : cleanL L = true) {avs : List AV} {V : Value} (hV : clean V = true) (hn : avs.length ≤ fn.ntmps)
    (H : bindR avs [(0, .ro (.cells ⟨L⟩ t fz))] argN fun l h ns => nonE ns (startG l fun s => wpG P fn.ntmps 1 1000 tt code (retG tt fn.results.toList fun v _ _ => v = V) ⟨s, h, sup⟩))
    {w : World} (h0 : w.heap[0]? = some (.cells ⟨L⟩ t fz)) {vs' : List Value} (hargs : ArgsR w (fun b => b < w.heap.size) avs vs') :
    Calls P k ⟨vs'⟩ w fun e w' => e = .returned V ∧ Go.RowKit.Below w.heap.size w w' := by
  have hsz : 0 < w.heap.size := (Array.getElem?_eq_some_iff.1 h0).1
  let f0 : NM := ⟨fun g => if g < 1 then some g else none, fun _ => none⟩
  let U : Nat → Prop := fun b => b < w.heap.size
  have hf0 : ∀ n b, f0 n = some b → n = 0 ∧ b = 0 := by
    intro n b hn
    simp only [f0] at hn
    split at hn
    · cases hn; omega
    · cases hn
  have hsees : Sees f0 [(0, .ro (.cells ⟨L⟩ t fz))] w := by
    intro n g hg
    rw [look_cons] at hg
    split at hg
    · rename_i e; subst e; cases hg
      intro b hb
      obtain ⟨_, rfl⟩ := hf0 0 b hb
      exact ⟨_, rfl, h0, (obj_clean hL f0).1⟩
    · cases hg
  have hBd : Bd f0 argN U w (fun _ => False) (fun _ => none) 0 f0 [(0, .ro (.cells ⟨L⟩ t fz))] argN := by
    refine { le := NM.le.refl _, lt := fun n q h => (by obtain ⟨_, rfl⟩ := hf0 n q h; exact hsz), sees := hsees, owx := fun q n h => (by cases h), kp := fun _ _ h => h, ol := fun q n h => (by cases h), new := fun n q h => Or.inl ⟨n, h⟩, free := fun _ h _ => h, pend := fun q j h => (by cases h), rest := fun _ _ _ _ => rfl, mo := fun n q j _ h => (by cases h), top := ?_, asc := (by decide), low := fun x hx => hx }
    intro x hx m hm
    have : ∀ x ∈ argN, 600 ≤ x := by decide
    have := this x hx
    show (if m < 1 then some m else none) = none
    rw [if_neg (by omega)]
  have hres : ResR w (fun k => (False ∨ U k) ∧ ¬ False ∧ (none : Option Nat) = none) (fun _ => none) 0 avs vs' := by
    have : ∀ (i : Nat) (avs : List AV) (vs' : List Value), All2 (AVR w U fun _ => False) avs vs' → ResR w (fun k => (False ∨ U k) ∧ ¬ False ∧ (none : Option Nat) = none) (fun _ => none) i avs vs' := by
      intro i avs vs' h
      induction h generalizing i with
      | nil => trivial
      | cons h1 _ ih =>
        refine ⟨?_, ih (i + 1)⟩
        rename_i a v _ _ _
        cases a with
        | v x => exact h1
        | rows L n =>
          obtain ⟨A, c, e, hn, hA⟩ := h1
          refine ⟨A, c, e, hn, ?_⟩
          rcases hA with hA | ⟨q, off, cs, t, fz, a1, a2, a3⟩
          · exact Or.inl hA
          · exact Or.inr ⟨q, off, cs, t, fz, a1, ⟨Or.inr a2, fun h => h, rfl⟩, a3⟩
        | obj R => obtain ⟨q, _, _, h2, _⟩ := h1; exact h2.elim
        | own C n c e =>
          obtain ⟨A, e1, h1⟩ := h1
          refine ⟨A, e1, ?_⟩
          rcases h1 with h1 | ⟨q, _, h2, _⟩
          · exact Or.inl h1
          · exact h2.elim
    exact this 0 avs vs' hargs
  obtain ⟨l, f, h, ns, i', hB, hle, hgo, hAR⟩ := bindR_ok (V := U) (U := fun _ => False) (fun _ h => h.elim) (fun q n h _ => by cases h) (fun q j h => by cases h) avs vs' 0 f0 _ argN _ hBd hres H
  obtain ⟨x0, r0, rfl⟩ : ∃ x r, ns = x :: r := by
    cases ns with
    | nil => exact hgo.elim
    | cons x r => exact ⟨x, r, rfl⟩
  have hx0 : x0 ≤ 999 := by
    have h1 := hB.low x0 (by simp)
    have : ∀ x ∈ argN, x ≤ 999 := by decide
    exact this x0 h1
  have hnone : ∀ q n, f.ow q = some n → False := by
    intro q n hq
    rcases (hB.owx q n hq).1 with h1 | h1
    · cases h1
    · rw [hB.rest q h1 (fun h => h) rfl] at hq; cases hq
  have hbef : Before 1 f h sup w := by
    refine ⟨hB.lt, fun g hg => ?_, fun x hx m hm => hB.top x0 (by simp) m ?_, sup_asc, hB.sees, fun q n hq => (hB.owx q n hq).2, fun q n hq => (hnone q n hq).elim⟩
    · have : g = 0 := by omega
      subst this
      exact hB.le 0 0 rfl
    · have := sup_low x hx; omega
  have hlen : l.length ≤ fn.ntmps := by
    have h1 := args_len hAR
    have h2 : avs.length = vs'.length := All2.length hargs
    omega
  have hspec : Spec P 1 k l h sup fun v _ _ => v = V := Spec.of_body hT hm hf hb hlen hgo
  refine (hspec f w _ hbef hAR).mono ?_
  rintro e w' ⟨v, v', h', ns', g, rfl, rfl, hA⟩
  exact ⟨by rw [clean_eq hV hA.val], ⟨hA.os, hA.tape, hA.out, hA.grow, fun b hb => hA.far b hb (by
    cases e : f.ow b with
    | none => rfl
    | some n => exact (hnone b n e).elim)⟩⟩
end Go.Proofs.YtpicmpfcmgocmaaDoor

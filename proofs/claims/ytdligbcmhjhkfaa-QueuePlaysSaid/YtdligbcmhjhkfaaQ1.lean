/- A queue in memory: a heap with the jobs beside it. -/
import Derived.Test.YtdligbcmhjhkfaaQC

namespace Go.Proofs.Ytdligbcmhjhkfaa
open Go.RowKit
/-- a heap with a map beside it -/
def QxP (s : List Th) (M : MapJ) (w : World) (b : Nat) (F : Nat → Prop) : Prop :=
  (M = [] ∧ (HeapR tQ [.map none] s).P w b F) ∨ ∃ (jb ck : Nat) (Fh : Nat → Prop), F jb ∧ ¬ Fh jb ∧ (∀ k, Fh k → F k) ∧ (HeapR tQ [.map (some jb)] s).P w b Fh ∧ w.heap[jb]? = some (.map ⟨encM evJ M⟩ ck)
def QX (s : List Th) (M : MapJ) : ARes where
  P := QxP s M
  keeps := fun w w' b F h hk hs => by
    rcases h with ⟨h1, h2⟩ | ⟨jb, ck, Fh, h1, h2, h3, h4, h5⟩
    · exact Or.inl ⟨h1, (HeapR tQ [.map none] s).keeps w w' b F h2 hk hs⟩
    · exact Or.inr ⟨jb, ck, Fh, h1, h2, h3, (HeapR tQ [.map (some jb)] s).keeps w w' b Fh h4 (fun k hkk => hk k (h3 k hkk)) hs, by rw [hk jb h1]; exact h5⟩
  up := fun w b F F' h hs => by
    rcases h with ⟨h1, h2⟩ | ⟨jb, ck, Fh, h1, h2, h3, h4, h5⟩
    · exact Or.inl ⟨h1, (HeapR tQ [.map none] s).up w b F F' h2 hs⟩
    · exact Or.inr ⟨jb, ck, Fh, hs jb h1, h2, fun k hk => hs k (h3 k hk), h4, h5⟩
  own := fun w b F h => by
    rcases h with ⟨h1, h2⟩ | ⟨jb, ck, Fh, h1, h2, h3, h4, h5⟩
    · exact (HeapR tQ [.map none] s).own w b F h2
    · exact h3 b ((HeapR tQ [.map (some jb)] s).own w b Fh h4)
theorem QxP.perm {s s' : List Th} (h : s.Perm s') {M : MapJ} {w : World} {b : Nat} {F : Nat → Prop} (H : QxP s M w b F) : QxP s' M w b F := by
  rcases H with ⟨h1, h2⟩ | ⟨jb, ck, Fh, h1, h2, h3, h4, h5⟩
  · exact Or.inl ⟨h1, by rw [← HeapR.perm h]; exact h2⟩
  · exact Or.inr ⟨jb, ck, Fh, h1, h2, h3, by rw [← HeapR.perm h]; exact h4, h5⟩
/-- a queue of these jobs -/
def QR (js : List JB) : ARes where
  P := fun w b F => ∃ M, JR js M ∧ QxP (thsJ js) M w b F
  keeps := fun w w' b F h hk hs => by obtain ⟨M, h1, h2⟩ := h; exact ⟨M, h1, (QX (thsJ js) M).keeps w w' b F h2 hk hs⟩
  up := fun w b F F' h hs => by obtain ⟨M, h1, h2⟩ := h; exact ⟨M, h1, (QX (thsJ js) M).up w b F F' h2 hs⟩
  own := fun w b F h => by obtain ⟨M, h1, h2⟩ := h; exact (QX (thsJ js) M).own w b F h2
theorem QR.perm {js js' : List JB} (hi : IdsJ js) (h : js.Perm js') : QR js = QR js' := by
  have : (QR js).P = (QR js').P := by
    funext w b F
    apply propext
    have hi' : IdsJ js' := (h.map JB.id).nodup_iff.1 hi
    constructor
    · rintro ⟨M, h1, h2⟩
      exact ⟨M, ⟨h1.1, fun a => by rw [h1.2 a, findJ_perm hi h]⟩, h2.perm (h.map thJ)⟩
    · rintro ⟨M, h1, h2⟩
      exact ⟨M, ⟨h1.1, fun a => by rw [h1.2 a, findJ_perm hi' h.symm]⟩, h2.perm (h.symm.map thJ)⟩
  unfold QR at this ⊢
  simp only [ARes.mk.injEq]
  exact ⟨this, trivial⟩
theorem ResR.up {w : World} {U U' : Nat → Prop} {O : Nat → Option Nat} (h : ∀ k, U k → U' k) : ∀ {rs : List AV} {us : List Value} {i : Nat}, ResR w U O i rs us → ResR w U' O i rs us := by
  intro rs
  induction rs with
  | nil => intro us i hr; cases us <;> exact hr
  | cons a r ih =>
    intro us i hr
    cases us with
    | nil => exact hr
    | cons u us =>
      refine ⟨?_, ih hr.2⟩
      have h1 := hr.1
      cases a with
      | v x => exact h1
      | rows L n =>
        obtain ⟨A, c, e, hn, hA⟩ := h1
        refine ⟨A, c, e, hn, ?_⟩
        rcases hA with hA | ⟨q, off, cs, t, fz, a1, a2, a3⟩
        · exact Or.inl hA
        · exact Or.inr ⟨q, off, cs, t, fz, a1, h _ a2, a3⟩
      | obj R => exact h1
      | own C n c e => exact h1
/-- what a heap does, a heap with a map beside it does -/
theorem Ct.beside {P : Program} {k : Nat} {s s' : List Th} {M : MapJ} {gs : List AV} {Q : List AV → Prop} (h : ∀ v : Value, Ct P k (some (HeapR tQ [v] s)) gs (fun rs R' => Q rs ∧ R' = some (HeapR tQ [v] s'))) :
    Ct P k (some (QX s M)) gs (fun rs R' => Q rs ∧ R' = some (QX s' M)) := by
  intro w U F b vs' hr hFU ha
  obtain ⟨h1, h2, h3⟩ := hr
  rcases h1 with ⟨e1, e2⟩ | ⟨jb, ck, Fh, f1, f2, f3, f4, f5⟩
  · refine (h (.map none) w U F b vs' ⟨e2, h2, h3⟩ hFU ha).mono ?_
    rintro e w' ⟨rs, R', O, F', us', ⟨q1, q2⟩, q3, q4, q5, q6, q7⟩
    subst q2
    exact ⟨rs, some (QX s' M), O, F', us', ⟨q1, rfl⟩, rfl, q4, ⟨Or.inl ⟨e1, q5.1⟩, q5.2⟩, q6, q7⟩
  · refine (h (.map (some jb)) w U Fh b vs' ⟨f4, h2, fun k hk => h3 k (f3 k hk)⟩ (fun k hk => hFU k (f3 k hk)) ha).mono ?_
    rintro e w' ⟨rs, R', O, F', us', ⟨q1, q2⟩, q3, q4, q5, q6, q7⟩
    subst q2
    have hjs : jb < w.heap.size := h3 jb f1
    have hnF : ¬ F' jb := fun hc => by rcases q7.own jb hc with h | h; exact f2 h; omega
    refine ⟨rs, some (QX s' M), O, fun k => F' k ∨ k = jb, us', ⟨q1, rfl⟩, rfl, q4, ⟨Or.inr ⟨jb, ck, F', Or.inr rfl, hnF, fun k hk => Or.inl hk, q5.1, ?_⟩, q5.2.1, ?_⟩, q6.up ?_, ?_⟩
    · rw [q7.far jb hjs f2]; exact f5
    · intro k hk
      rcases hk with hk | hk
      · exact q5.2.2 k hk
      · subst hk; have := q7.grow; omega
    · rintro k ⟨a1, a2, a3⟩
      refine ⟨a1, fun hc => ?_, a3⟩
      rcases hc with hc | hc
      · exact a2 hc
      · subst hc
        rcases a1 with a1 | a1
        · exact hFU k f1 a1
        · omega
    · exact { q7 with own := fun k hk => by
                        rcases hk with hk | hk
                        · exact (q7.own k hk).imp (f3 k) id
                        · subst hk; exact Or.inl f1
                      fresh := fun k i hO => by
                        obtain ⟨a, b', c⟩ := q7.fresh k i hO
                        refine ⟨a, fun hc => ?_, c⟩
                        rcases hc with hc | hc
                        · exact b' hc
                        · subst hc; omega
                      far := fun k hk hn => q7.far k hk fun hc => hn (f3 k hc) }
end Go.Proofs.Ytdligbcmhjhkfaa

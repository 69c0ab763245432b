/- Contracts of functions of the program and of the reference: what each call comes to. -/
import Derived.Test.YtpicmpfcmgocmaaM4
import Derived.Test.YtpicmpfcmgocmaaGf
namespace Go.Proofs.Ytpicmpfcmgocmaa
open Go.RowKit
theorem pl12 : Plain Try.prog 12 := Plain.of Try.func12 (by kernel_rfl) rfl
abbrev A5 := Int × Int × Int × Int × Int
def encA (x : A5) : List Value := [.int .i64 x.1, .int .i64 x.2.1, .int .i64 x.2.2.1, .int .i64 x.2.2.2.1, .int .i64 x.2.2.2.2]
theorem encA_len (x : A5) : (encA x).length = 5 := rfl
theorem awake23_s : Pure Try.prog 0 46 [] (fun v => v = .bool true) := by
  refine Pure.body tt_ok mixed Try.func46 rfl (Nat.le_of_ble_eq_true rfl) ?_
  (conv => whnf)
  repeat' (first | (refine CallG.val (new_s _ _ _ _ _) pl42 rfl (Nat.zero_le _) ?_; (conv => whnf)) | (refine CallG.val (take_s _ _ _ _ _ _ _ _ _ _ _ _ _ _) pl70 rfl (Nat.zero_le _) ?_; (conv => whnf)) | (refine CallG.val (resize_s _ _ _ _ _ _ _ _ _ _ _ _ _ _) pl68 rfl (Nat.zero_le _) ?_; (conv => whnf)) | (refine CallG.val (give_s _ _ _ _ _ _ _ _ _ _ _ _ _) pl71 rfl (Nat.zero_le _) ?_; (conv => whnf)) | (refine CallG.val (join_s _ _ _ _ _ _ _ _ _ _ _ _ _ _) pl67 rfl (Nat.zero_le _) ?_; (conv => whnf)) | (refine CallG.val (nodeRight_s _ _ _ _ _ _ _ _ _ _) pl44 rfl (Nat.zero_le _) ?_; (conv => whnf)) | (refine @And.intro (chkAll _ = true) _ ?_ ?_; (· kernel_rfl); (conv => whnf)) | (refine JoinG.direct ?_; (conv => whnf)) | (refine both_intro ?_ ?_ <;> (conv => whnf)) | (exact VR.int _ _) | (exact VR.bool _) | (refine VR.ptr ?_; kernel_rfl) | (refine VR.slice ?_; kernel_rfl) | (exact VR.sliceN _ _) | (refine VR.map ?_; kernel_rfl) | (exact VR.clean _ rfl) | (refine VR.aggOf ?_) | (refine OR.cellsOf ?_) | (exact AR.same _ rfl) | (exact trivial) | (refine And.intro ?_ ?_; (· (first | decide | omega | (simp only [IntKind.wrap_i64]; omega) | (simp only [List.length_append]; omega) | (simp only [IntKind.wrap_i64, List.length_append]; omega) | (simp only [IntKind.wrap_i64, List.length_append, Int.natCast_add]; omega) | exact keepP_same _ _ _ | (repeat (first | exact trivial | refine And.intro rfl ?_)))); (conv => whnf)) | (refine fun (nc : Nat) (hnc : _ ≤ nc) => ?_; (conv => whnf)) | (refine bif2_true ?_ ?_; (· assumption); (conv => whnf)) | (refine bif2_false ?_ ?_; (· assumption); (conv => whnf)) | (refine bif2_split (fun h => ?_) (fun h => ?_) <;> (conv => whnf)))
  exact ⟨congrArg Value.bool (by decide), rfl⟩
abbrev A3 := Int × Int × Int
def enc3 (x : A3) : List Value := [.int .i64 x.1, .int .i64 x.2.1, .int .i64 x.2.2]
theorem enc3_len (x : A3) : (enc3 x).length = 3 := rfl
def sum3 : List A3 → A3
  | [] => (0, 0, 0)
  | x :: r => (x.1 + (sum3 r).1, x.2.1 + (sum3 r).2.1, x.2.2 + (sum3 r).2.2)
abbrev noNode : Value := nodeV 0 0 0 0 0 0 0 0 0 false
theorem new2_s (id inc a b c : Int) : Pure Try.prog 0 42 [i64 id, i64 inc, r3 a b c] (fun v => (nodeB id inc 0 a b c 0 0 0 true = true ∧ v = .tuple #[nodeV id inc 0 a b c 0 0 0 true, i64 0]) ∨ (∃ e, e ≠ 0 ∧ v = .tuple #[noNode, i64 e])) := by
  refine (new_s id inc a b c).mono ?_
  rintro _ rfl
  unfold newE
  cases h : nodeB id inc 0 a b c 0 0 0 true
  · exact Or.inr ⟨1, by decide, rfl⟩
  · exact Or.inl ⟨rfl, rfl⟩
/-- a step that is done: the node behind it -/
structure DoOk (id inc ld c0 c1 c2 u0 u1 u2 : Int) (up : Bool) (k x a b c : Int) (inc' ld' c0' c1' c2' u0' u1' u2' : Int) (up' : Bool) : Prop where
  h_e : doE id inc ld c0 c1 c2 u0 u1 u2 up k x a b c = 0
  h_inc : inc' = chI (k == 1) x inc
  h_ld : ld' = doLd k ld
  h_c0 : c0' = doC k c0 a
  h_c1 : c1' = doC k c1 b
  h_c2 : c2' = doC k c2 c
  h_u0 : u0' = doU k u0 a (addB u0 u1 u2 a b c) (subB u0 u1 u2 a b c)
  h_u1 : u1' = doU k u1 b (addB u0 u1 u2 a b c) (subB u0 u1 u2 a b c)
  h_u2 : u2' = doU k u2 c (addB u0 u1 u2 a b c) (subB u0 u1 u2 a b c)
  h_up : up' = doUp k up
theorem do2_s (id inc ld c0 c1 c2 u0 u1 u2 : Int) (up : Bool) (k x a b c : Int) : Pure Try.prog 0 40 [nodeV id inc ld c0 c1 c2 u0 u1 u2 up, actV k x a b c]
    (fun v => (∃ inc' ld' c0' c1' c2' u0' u1' u2' up', DoOk id inc ld c0 c1 c2 u0 u1 u2 up k x a b c inc' ld' c0' c1' c2' u0' u1' u2' up' ∧ v = .tuple #[nodeV id inc' ld' c0' c1' c2' u0' u1' u2' up', i64 0]) ∨
      (doE id inc ld c0 c1 c2 u0 u1 u2 up k x a b c ≠ 0 ∧ ∃ e, e ≠ 0 ∧ v = .tuple #[noNode, i64 e])) := by
  refine (do_s id inc ld c0 c1 c2 u0 u1 u2 up k x a b c).mono ?_
  rintro _ rfl
  by_cases h : doE id inc ld c0 c1 c2 u0 u1 u2 up k x a b c = 0
  · left
    refine ⟨_, _, _, _, _, _, _, _, _, ⟨h, rfl, rfl, rfl, rfl, rfl, rfl, rfl, rfl, rfl⟩, ?_⟩
    simp only [doR, nodeR, h, beq_self_eq_true, chI_t, Bool.true_and]
  · right
    refine ⟨h, _, h, ?_⟩
    have h' : (doE id inc ld c0 c1 c2 u0 u1 u2 up k x a b c == 0) = false := by simpa using h
    simp only [doR, nodeR, h', chI_f, Bool.false_and]
theorem sum3_append (a b : List A3) : sum3 (a ++ b) = ((sum3 a).1 + (sum3 b).1, (sum3 a).2.1 + (sum3 b).2.1, (sum3 a).2.2 + (sum3 b).2.2) := by
  induction a with
  | nil => simp [sum3]
  | cons x a ih => simp [sum3, ih]; omega
theorem sum3_nn {l : List A3} (h : ∀ x ∈ l, rightR x.1 x.2.1 x.2.2 = true) : 0 ≤ (sum3 l).1 ∧ 0 ≤ (sum3 l).2.1 ∧ 0 ≤ (sum3 l).2.2 := by
  induction l with
  | nil => simp [sum3]
  | cons x l ih =>
    have h1 := h x (by simp)
    have h2 := ih (fun y hy => h y (by simp [hy]))
    rw [rightR_iff] at h1
    simp only [sum3]
    omega
theorem sum3_take {l : List A3} (h : ∀ x ∈ l, rightR x.1 x.2.1 x.2.2 = true) (hs : rightR (sum3 l).1 (sum3 l).2.1 (sum3 l).2.2 = true) (q : Nat) : rightR (sum3 (l.take q)).1 (sum3 (l.take q)).2.1 (sum3 (l.take q)).2.2 = true := by
  have e : l = l.take q ++ l.drop q := (List.take_append_drop q l).symm
  have h1 := sum3_nn (l := l.take q) (fun x hx => h x (List.mem_of_mem_take hx))
  have h2 := sum3_nn (l := l.drop q) (fun x hx => h x (List.mem_of_mem_drop hx))
  have h3 := sum3_append (l.take q) (l.drop q)
  rw [← e] at h3
  rw [h3, rightR_iff] at hs
  rw [rightR_iff]
  simp only at hs
  omega
theorem sum3_succ {l : List A3} {q : Nat} (hq : q < l.length) : sum3 (l.take (q + 1)) = ((sum3 (l.take q)).1 + (nth l q).1, (sum3 (l.take q)).2.1 + (nth l q).2.1, (sum3 (l.take q)).2.2 + (nth l q).2.2) := by
  rw [List.take_succ_eq_append_getElem hq, sum3_append]
  simp [sum3, nth, hq]
theorem add_pre {l : List A3} (h : ∀ x ∈ l, rightR x.1 x.2.1 x.2.2 = true) (hs : rightR (sum3 l).1 (sum3 l).2.1 (sum3 l).2.2 = true) {q : Nat} (hq : q < l.length) :
    addB (sum3 (l.take q)).1 (sum3 (l.take q)).2.1 (sum3 (l.take q)).2.2 (nth l q).1 (nth l q).2.1 (nth l q).2.2 = true := by
  have h1 := sum3_take h hs q
  have h2 := sum3_take h hs (q + 1)
  have h3 := h (nth l q) (by simp [nth, hq])
  rw [sum3_succ hq] at h2
  simp only [addB, bothB, h1, h3, Bool.true_and]
  exact h2
theorem chI0 {c : Bool} {x y : Int} (hy : y ≠ 0) (h : chI c x y = 0) : c = true ∧ x = 0 := by
  cases c
  · exact absurd h hy
  · exact ⟨rfl, h⟩
theorem fitsR_iff {a b c x y z : Int} : fitsR a b c x y z = true ↔ a ≤ x ∧ b ≤ y ∧ c ≤ z := by simp [fitsR]
theorem do_step {id inc ld c0 c1 c2 u0 u1 u2 : Int} {up : Bool} {k x a b c : Int} {inc' ld' c0' c1' c2' u0' u1' u2' : Int} {up' : Bool} (hn : nodeB id inc ld c0 c1 c2 u0 u1 u2 up = true)
    (hd : DoOk id inc ld c0 c1 c2 u0 u1 u2 up k x a b c inc' ld' c0' c1' c2' u0' u1' u2' up') : nodeB id inc' ld' c0' c1' c2' u0' u1' u2' up' = true ∧
      (k = 1 ∨ k = 3 → ld' = 0 ∧ u0' = 0 ∧ u1' = 0 ∧ u2' = 0) ∧ (k = 2 → ld' = ld ∧ u0' = u0 ∧ u1' = u1 ∧ u2' = u2) ∧ (k = 4 → ld' = ld + 1 ∧ u0' = u0 + a ∧ u1' = u1 + b ∧ u2' = u2 + c ∧ rightR a b c = true) ∧
      (k ≠ 1 → k ≠ 2 → k ≠ 3 → k ≠ 4 → ld' = ld - 1 ∧ 0 < ld ∧ u0' = u0 - a ∧ u1' = u1 - b ∧ u2' = u2 - c) := by
  have hn' := nodeB_iff.1 hn
  obtain ⟨nc0, nu0, nf0, nid, ninc, nld, nz⟩ := hn'
  obtain ⟨he, rfl, rfl, rfl, rfl, rfl, rfl, rfl, rfl, rfl⟩ := hd
  have hx : rightB x 1 2147483647 = true → 1 ≤ x ∧ x ≤ 2147483647 := by simp [rightB]
  rw [rightR_iff] at nc0 nu0
  rw [fitsR_iff] at nf0
  by_cases h1 : k = 1
  · subst h1
    simp only [doE, beq_self_eq_true, chI_t, joinE, newE] at he
    obtain ⟨_, he⟩ := chI0 (by decide) he
    obtain ⟨_, he⟩ := chI0 (by decide) he
    obtain ⟨hc3, _⟩ := chI0 (by decide) he
    refine ⟨by simpa [doLd, doC, doU, doUp] using hc3, by simp [doLd, doU], by simp, by simp, by simp⟩
  by_cases h2 : k = 2
  · subst h2
    simp only [doE, show ((2 : Int) == 1) = false from rfl, beq_self_eq_true, chI_t, chI_f, resizeE] at he
    obtain ⟨g1, he⟩ := chI0 (by decide) he
    obtain ⟨g2, he⟩ := chI0 (by decide) he
    obtain ⟨g3, he⟩ := chI0 (by decide) he
    obtain ⟨g4, he⟩ := chI0 (by decide) he
    simp only [Bool.and_eq_true] at g1
    simp only [doLd, doC, doU, doUp, show ((2 : Int) == 1) = false from rfl, beq_self_eq_true, chI_t, chI_f, chB_t, chB_f]
    refine ⟨nodeB_iff.2 ⟨g1.1, rightR_iff.2 nu0, g4, nid, ninc, nld, nz⟩, by simp, by simp, by simp, by simp⟩
  by_cases h3 : k = 3
  · subst h3
    simp only [doE, show ((3 : Int) == 1) = false from rfl, show ((3 : Int) == 2) = false from rfl, beq_self_eq_true, chI_t, chI_f, goneE] at he
    simp only [doLd, doC, doU, doUp, show ((3 : Int) == 1) = false from rfl, show ((3 : Int) == 2) = false from rfl, beq_self_eq_true, chI_t, chI_f, chB_t, chB_f]
    refine ⟨nodeB_iff.2 ⟨rightR_iff.2 nc0, rightR_iff.2 (by omega), fitsR_iff.2 (by omega), nid, ninc, by omega, by simp⟩, by simp, by simp, by simp, by simp⟩
  by_cases h4 : k = 4
  · subst h4
    simp only [doE, show ((4 : Int) == 1) = false from rfl, show ((4 : Int) == 2) = false from rfl, show ((4 : Int) == 3) = false from rfl, beq_self_eq_true, chI_t, chI_f, takeE] at he
    obtain ⟨g1, he⟩ := chI0 (by decide) he
    obtain ⟨g2, he⟩ := chI0 (by decide) he
    obtain ⟨g3, he⟩ := chI0 (by decide) he
    obtain ⟨g4, he⟩ := chI0 (by decide) he
    obtain ⟨g5, he⟩ := chI0 (by decide) he
    simp only [Bool.and_eq_true, decide_eq_true_eq] at g1 g4
    have ga := rightR_iff.1 g1.1
    simp only [takesB, Bool.and_eq_true] at g5
    have g6 := fitsR_iff.1 g5.2
    simp only [frI] at g6
    have w1 : IntKind.i64.wrap (ld + 1) = ld + 1 := wrap_in (by omega)
    rw [wrap_in (by omega), wrap_in (by omega), wrap_in (by omega)] at g6
    have key : ∀ c u : Int, u ≤ c → chI (decide (u < c)) (c - u) 0 = c - u := by
      intro c u h
      by_cases hlt : u < c
      · rw [decide_eq_true hlt]; rfl
      · rw [decide_eq_false hlt]; show (0 : Int) = c - u; omega
    rw [key _ _ nf0.1, key _ _ nf0.2.1, key _ _ nf0.2.2] at g6
    have hadd : addB u0 u1 u2 a b c = true := by
      simp only [addB, bothB, Bool.and_eq_true, rightR_iff]
      omega
    simp only [doLd, doC, doU, doUp, show ((4 : Int) == 1) = false from rfl, show ((4 : Int) == 2) = false from rfl, show ((4 : Int) == 3) = false from rfl, beq_self_eq_true, chI_t, chI_f, chB_t, chB_f, hadd, w1]
    refine ⟨nodeB_iff.2 ⟨rightR_iff.2 nc0, rightR_iff.2 (by omega), fitsR_iff.2 (by omega), nid, ninc, by omega, Or.inr ⟨g2, by omega⟩⟩, by simp, by simp, fun _ => (by simp [g1.1]), by simp⟩
  · have e1 : (k == 1) = false := by simpa using h1
    have e2 : (k == 2) = false := by simpa using h2
    have e3 : (k == 3) = false := by simpa using h3
    have e4 : (k == 4) = false := by simpa using h4
    simp only [doE, e1, e2, e3, e4, chI_f, giveE] at he
    obtain ⟨g1, he⟩ := chI0 (by decide) he
    obtain ⟨g2, he⟩ := chI0 (by decide) he
    simp only [Bool.and_eq_true, decide_eq_true_eq, Bool.or_eq_true, beq_iff_eq] at g1 g2
    obtain ⟨g3, g4, g5⟩ := g2
    have ga := rightR_iff.1 g1.2
    have w1 : IntKind.i64.wrap (ld - 1) = ld - 1 := wrap_in (by omega)
    simp only [doLd, doC, doU, doUp, e1, e2, e3, e4, chI_t, chI_f, chB_t, chB_f, g3, w1]
    simp only [subB, bothB, Bool.and_eq_true] at g3
    have g6 := rightR_iff.1 g3.2.2
    refine ⟨nodeB_iff.2 ⟨rightR_iff.2 nc0, g3.2.2, fitsR_iff.2 (by omega), nid, ninc, by omega, ?_⟩, by omega, by omega, by omega, fun _ _ _ _ => (by simp [g4])⟩
    rcases nz with nz | nz
    · omega
    · rcases g5 with g5 | g5
      · exact Or.inr ⟨nz.1, by omega⟩
      · by_cases hl : ld = 1
        · exact Or.inl ⟨by omega, g5⟩
        · exact Or.inr ⟨nz.1, by omega⟩
theorem wrap_len {n : Nat} (h : 0 < n) (h2 : n ≤ 64) : (IntKind.i64.wrap ((n : Int) - 1)) = ((n - 1 : Nat) : Int) := by
  rw [wrap_in (by omega)]; omega
theorem refAdd2 {a b c x y z : Int} (h : addB a b c x y z = true) : Pure Try.prog 0 47 [r3 a b c, r3 x y z] (fun v => v = .tuple #[r3 (a + x) (b + y) (c + z), .bool true]) := by
  refine (refAdd_s a b c x y z).mono ?_
  rintro _ rfl
  rw [h]; rfl
theorem nodeRight2 {id inc ld c0 c1 c2 u0 u1 u2 : Int} {up : Bool} (h : nodeB id inc ld c0 c1 c2 u0 u1 u2 up = true) : Pure Try.prog 0 44 [nodeV id inc ld c0 c1 c2 u0 u1 u2 up] (fun v => v = .bool true) := by
  refine (nodeRight_s id inc ld c0 c1 c2 u0 u1 u2 up).mono ?_
  rintro _ rfl
  rw [h]
theorem refFits2 {a b c x y z : Int} (h : fitsR a b c x y z = true) : Pure Try.prog 0 48 [r3 a b c, r3 x y z] (fun v => v = .bool true) := by
  refine (refFits_s a b c x y z).mono ?_
  rintro _ rfl
  rw [h]
/-- what was taken last can be given back -/
theorem give_ok {id inc ld c0 c1 c2 u0 u1 u2 : Int} {up : Bool} {x : Int} {tk : List A3} (hn : nodeB id inc ld c0 c1 c2 u0 u1 u2 up = true) (hl : ld = tk.length) (hs : (u0, u1, u2) = sum3 tk) (hr : ∀ x ∈ tk, rightR x.1 x.2.1 x.2.2 = true)
    {t : List A3} {y : A3} (ht : tk = t ++ [y]) : doE id inc ld c0 c1 c2 u0 u1 u2 up 5 x y.1 y.2.1 y.2.2 = 0 := by
  subst ht
  obtain ⟨nc0, nu0, nf0, nid, ninc, nld, nz⟩ := nodeB_iff.1 hn
  have hy := hr y (by simp)
  have ht := sum3_nn (l := t) (fun x hx => hr x (by simp [hx]))
  rw [sum3_append] at hs
  simp only [sum3, Prod.mk.injEq] at hs
  have hy' := rightR_iff.1 hy
  have nu1 := rightR_iff.1 nu0
  have hlen : ld = t.length + 1 := by simp at hl; omega
  have hsub : subB u0 u1 u2 y.1 y.2.1 y.2.2 = true := by
    simp only [subB, bothB, nu0, hy, Bool.true_and, rightR_iff]
    omega
  simp only [doE, show ((5 : Int) == 1) = false from rfl, show ((5 : Int) == 2) = false from rfl, show ((5 : Int) == 3) = false from rfl, show ((5 : Int) == 4) = false from rfl, chI_f, giveE, hn, hy, hsub, Bool.true_and, Bool.and_self, chI_t]
  have : (decide (0 < ld) && (decide (1 < ld) || (u0 - y.1 == 0 && (u1 - y.2.1 == 0 && u2 - y.2.2 == 0)))) = true := by
    simp only [Bool.and_eq_true, Bool.or_eq_true, decide_eq_true_eq, beq_iff_eq]
    refine ⟨by omega, ?_⟩
    by_cases h : t = []
    · subst h
      right
      simp only [sum3] at hs
      omega
    · left
      have : 0 < t.length := List.length_pos_iff.2 h
      omega
  rw [this]; rfl
end Go.Proofs.Ytpicmpfcmgocmaa

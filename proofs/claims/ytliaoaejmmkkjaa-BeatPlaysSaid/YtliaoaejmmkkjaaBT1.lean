/- A table of beats: a wheel, with a span and the incarnation of each node behind it. -/
import Derived.Test.YtliaoaejmmkkjaaWRS

namespace Go.Proofs.Ytliaoaejmmkkjaa
open Go.RowKit
theorem pl22 : Plain Try.prog 22 := Plain.of Try.func22 (by kernel_rfl) rfl
theorem pl23 : Plain Try.prog 23 := Plain.of Try.func23 (by kernel_rfl) rfl
theorem pl24 : Plain Try.prog 24 := Plain.of Try.func24 (by kernel_rfl) rfl
theorem pl25 : Plain Try.prog 25 := Plain.of Try.func25 (by kernel_rfl) rfl
theorem pl28 : Plain Try.prog 28 := Plain.of Try.func28 (by kernel_rfl) rfl
theorem pl32 : Plain Try.prog 32 := Plain.of Try.func32 (by kernel_rfl) rfl
theorem pl40 : Plain Try.prog 40 := Plain.of Try.func40 (by kernel_rfl) rfl
theorem pl41 : Plain Try.prog 41 := Plain.of Try.func41 (by kernel_rfl) rfl
theorem pl42 : Plain Try.prog 42 := Plain.of Try.func42 (by kernel_rfl) rfl
theorem pl43 : Plain Try.prog 43 := Plain.of Try.func43 (by kernel_rfl) rfl
theorem pl26 : Plain Try.prog 26 := Plain.of Try.func26 (by kernel_rfl) rfl
theorem pl27 : Plain Try.prog 27 := Plain.of Try.func27 (by kernel_rfl) rfl
theorem pl29 : Plain Try.prog 29 := Plain.of Try.func29 (by kernel_rfl) rfl
theorem pl30 : Plain Try.prog 30 := Plain.of Try.func30 (by kernel_rfl) rfl
theorem pl31 : Plain Try.prog 31 := Plain.of Try.func31 (by kernel_rfl) rfl
theorem pl44 : Plain Try.prog 44 := Plain.of Try.func44 (by kernel_rfl) rfl
theorem pl21 : Plain Try.prog 21 := Plain.of Try.func21 (by kernel_rfl) rfl
theorem pl33 : Plain Try.prog 33 := Plain.of Try.func33 (by kernel_rfl) rfl
theorem pl51 : Plain Try.prog 51 := Plain.of Try.func51 (by kernel_rfl) rfl
abbrev tB : TypeId := 73
abbrev whP (o : Nat → Option Nat) (Ms : Nat → MapW) (ck : Nat → Nat) (t : TypeId) (rest : List Value) : List (Nat × GO) := (500, .rw (.cells ⟨whC o rest⟩ t)) :: whM nm510 Ms ck
theorem whP_sees {f : NM} {w : World} {o : Nat → Option Nat} {Ms : Nat → MapW} {ck : Nat → Nat} {t : TypeId} {rest : List Value} (hc : cleanL rest = true) (h : Sees f (whH o Ms ck t rest) w) : Sees f (whP o Ms ck t rest) w := by
  intro n g hg
  rw [look_cons] at hg
  split at hg
  · rename_i e; subst e; cases hg
    intro b hb
    have h0 : Holds f w 500 (.rw (.cells ⟨whC o (rest.map lit)⟩ t)) := h 500 _ (by rw [look_cons, if_pos rfl])
    obtain ⟨o', k1, k2, k3⟩ := h0 b hb
    refine ⟨o', k1, k2, ?_⟩
    cases k3 with
    | cells _ _ ha =>
      rw [whC_eq] at ha
      obtain ⟨x', y', rfl, r1, r2⟩ := AR.splitL ha
      have := AR.lits_inv r2; subst this
      rw [whC_eq]
      exact .cells _ _ (AR.appL r1 (cleanA f hc))
  · rename_i e
    exact h n g (by rw [look_cons, if_neg e]; exact hg)
theorem unp_wheelC {R : ARes} {t : TypeId} {rest : List Value} {T : List (Int × Int)} {w : World} {b : Nat} {F : Nat → Prop} (hc : cleanL rest = true) (h : WhP t rest T w b F) (h3 : b < w.heap.size) (h4 : ∀ k, F k → k < w.heap.size) :
    ∃ (f : NM) (o : Nat → Option Nat) (Ms : Nat → MapW) (ck : Nat → Nat), WhI Ms ck T ∧ WhO o nm510 Ms ∧ UnpR w (some R) b F f (whP o Ms ck t rest) := by
  obtain ⟨f, o, Ms, ck, h1, h2, h5⟩ := unp_wheel (R := R) h h3 h4
  refine ⟨f, o, Ms, ck, h1, h2, ?_⟩
  have h5 : Unp w b F f (whH o Ms ck t rest) := h5
  exact ({ h5 with sees := whP_sees hc h5.sees } : Unp w b F f (whP o Ms ck t rest))
theorem pack_wheelC {h : List (Nat × GO)} {N : List Nat} {t : TypeId} {rest : List Value} {o : Nat → Option Nat} {nm : Nat → Nat} {Ms : Nat → MapW} {ck : Nat → Nat} {T : List (Int × Int)} {n0 : Nat} (hcl : cleanL rest = true)
    (hl : look h n0 = some (.rw (.cells ⟨whC o rest⟩ t))) (hm : subL (whM nm Ms ck) h) (hN0 : memL n0 N = true) (hN : ∀ i, i < 17 → memL (nm i) N = true) (hinj : ∀ i j, i < 17 → j < 17 → nm i = nm j → i = j) (ho : WhO o nm Ms) (hI : WhI Ms ck T) :
    Packs h n0 N (WheelR t rest T) := by
  intro g w b hs hb
  obtain ⟨o', k1, k2, k3⟩ := hs n0 _ hl b hb
  rw [whM_eq] at hm
  have hm := subL_mem hm
  cases k3 with
  | cells _ _ ha =>
    rw [whC_eq] at ha
    obtain ⟨x', y', rfl, r1, r2⟩ := AR.splitL ha
    have := cleanL_eq hcl r2
    have hy : y' = rest := by simpa using this
    subst hy
    obtain ⟨bk, hbk⟩ : ∃ bk : Nat → Option Nat, bk = fun i => match o i with | none => none | some n => g n := ⟨_, rfl⟩
    have key : ∀ i, i < 17 → x'[i]? = some (.map (bk i)) ∧ (∀ q, bk i = some q → o i = some (nm i) ∧ g (nm i) = some q) ∧ (bk i = none → o i = none) := by
      intro i hi
      have hx : i < x'.length := by have := r1.1; simp at this; omega
      have h1 := r1.2 i (.map (o i)) x'[i] (by simp [hi]) (by simp [hx])
      rw [List.getElem?_eq_getElem hx, hbk]
      generalize x'[i] = z at h1
      rcases ho.sl i hi with ⟨e, _⟩ | e
      · rw [e] at h1
        cases h1
        refine ⟨by simp [e], fun q hq => ?_, fun _ => e⟩
        simp [e] at hq
      · rw [e] at h1
        cases h1 with
        | map hq =>
          refine ⟨by simp [e, hq], fun q h2 => ⟨e, by simpa [e] using h2⟩, fun h2 => ?_⟩
          simp [e, hq] at h2
    have hx : x' = (List.range 17).map fun i => Value.map (bk i) := by
      apply List.ext_getElem?
      intro i
      by_cases hi : i < 17
      · rw [(key i hi).1]; simp [hi]
      · have hl : x'.length = 17 := by have := r1.1; simp at this; omega
        rw [List.getElem?_eq_none (by omega), List.getElem?_eq_none (by simp; omega)]
    refine ⟨bk, Ms, ck, ⟨n0, hN0, k1⟩, by rw [k2, hx, whC_eq], fun i hi => ?_, fun i j x hi hj e1 e2 => ?_, hI⟩
    · unfold MapAt
      cases e : bk i with
      | none =>
        rcases ho.sl i hi with ⟨_, h1⟩ | h1
        · exact h1
        · have := (key i hi).2.2 e; rw [h1] at this; cases this
      | some q =>
        obtain ⟨h1, h2⟩ := (key i hi).2.1 q e
        obtain ⟨o2, p1, p2, p3⟩ := hs (nm i) _ (hm i (List.mem_range.2 hi)) q h2
        refine ⟨⟨nm i, hN i hi, p1⟩, ?_⟩
        cases p3 with
        | map _ hh => rw [p2, ES.encM_eq evZ_clean hh]
    · obtain ⟨h1, h2⟩ := (key i hi).2.1 x e1
      obtain ⟨h3, h4⟩ := (key j hj).2.1 x e2
      obtain ⟨o2, p1, _, _⟩ := hs (nm i) _ (hm i (List.mem_range.2 hi)) x h2
      obtain ⟨o3, s1, _, _⟩ := hs (nm j) _ (hm j (List.mem_range.2 hj)) x h4
      rw [p1] at s1
      exact hinj i j hi hj (by simpa using s1)
theorem pack_newC {h : List (Nat × GO)} {N : List Nat} {t : TypeId} {rest : List Value} {n0 : Nat} (hcl : cleanL rest = true) (hl : look h n0 = some (.rw (.cells ⟨whC (fun _ => none) rest⟩ t))) (hN0 : memL n0 N = true) : Packs h n0 N (WheelR t rest []) := by
  intro g w b hs hb
  obtain ⟨o', k1, k2, k3⟩ := hs n0 _ hl b hb
  cases k3 with
  | cells _ _ ha =>
    rw [whC_eq] at ha
    obtain ⟨x', y', rfl, r1, r2⟩ := AR.splitL ha
    have := cleanL_eq hcl r2
    have hy : y' = rest := by simpa using this
    subst hy
    have hx : x' = (List.range 17).map fun i => Value.map none := by
      have hl : x'.length = 17 := by have := r1.1; simp at this; omega
      apply List.ext_getElem?
      intro i
      by_cases hi : i < 17
      · have hx : i < x'.length := by omega
        have h1 := r1.2 i (.map none) x'[i] (by simp [hi]) (by simp [hx])
        rw [List.getElem?_eq_getElem hx]
        generalize x'[i] = z at h1
        cases h1
        simp [hi]
      · rw [List.getElem?_eq_none (by omega), List.getElem?_eq_none (by simp; omega)]
    exact ⟨fun _ => none, fun _ => [], fun _ => 0, ⟨n0, hN0, k1⟩, by rw [k2, hx, whC_eq], fun i hi => rfl, fun i j x _ _ e => (by cases e), WhI.nil _⟩
def restB (s : Int) (I : Nat → Int) : List Value := [i64 s, i64 (I 0), i64 (I 1), i64 (I 2), i64 (I 3), i64 (I 4), i64 (I 5), i64 (I 6), i64 (I 7), i64 (I 8), i64 (I 9), i64 (I 10), i64 (I 11), i64 (I 12), i64 (I 13), i64 (I 14), i64 (I 15)]
theorem restB_clean (s : Int) (I : Nat → Int) : cleanL (restB s I) = true := rfl
abbrev bR (s : Int) (I : Nat → Int) (T : List Tm) : ARes := WheelR tB (restB s I) T
abbrev bt (a b c : Int) : Value := .agg #[i64 a, i64 b, i64 c]
theorem pkB {s : Int} {I : Nat → Int} {o : Nat → Option Nat} {Ms : Nat → MapW} {ck : Nat → Nat} {T : List (Int × Int)} (ho : WhO o nm510 Ms) (hI : WhI Ms ck T) : Packs (whP o Ms ck tB (restB s I)) 500 nmsW (bR s I T) :=
  pack_wheelC rfl rfl ⟨rfl, rfl, rfl, rfl, rfl, rfl, rfl, rfl, rfl, rfl, rfl, rfl, rfl, rfl, rfl, rfl, rfl, trivial⟩ rfl nmsW_in nm510_inj ho hI
theorem Packs.sub {h h' : List (Nat × GO)} {nm : Nat} {N : List Nat} {R : ARes} (p : Packs h nm N R) (s : subL h h') : Packs h' nm N R :=
  fun g w b hs hb => p g w b (fun n x e => hs n x (subL_look s e)) hb
set_option maxRecDepth 100000 in
set_option maxHeartbeats 40000000 in
theorem made_ct (s : Int) (I : Nat → Int) (T : List Tm) {bb : Bool} (hb : decide (0 < s) = bb) : Ct Try.prog 40 (some (bR s I T)) [] (fun rs R' => rs = [.v (.bool bb)] ∧ R' = some (bR s I T)) := by
  subst hb
  refine Ct.of_body tt_ok mixed Try.func40 rfl (Nat.le_of_ble_eq_true rfl) ?_
  intro w q F hrec
  obtain ⟨h1, h2, h3⟩ := hrec
  obtain ⟨f, o, Ms, ck, hI, hO, hu⟩ := unp_wheelC (R := bR s I T) (restB_clean s I) h1 h2 h3
  have hp := pkB (s := s) (I := I) hO hI
  refine ⟨f, _, hu, ?_⟩
  clear hu h1 h2 h3 hI hO
  (conv => whnf)
  repeat' (first | (exact Fin.mk [.v (.bool (decide (0 < s)))] (some (bR s I T)) [.bool (decide (0 < s))] nmsW rfl (.plain (.cons (.v rfl) .nil)) hp ⟨rfl, rfl⟩ ) | (refine @And.intro (chkAll _ = true) _ ?_ ?_; (· kernel_rfl); (conv => whnf)) | (refine JoinG.direct ?_; (conv => whnf)) | (refine AppG.mk ?_; (conv => whnf)) | (refine both_intro ?_ ?_ <;> (conv => whnf)) | (exact VR.int _ _) | (exact VR.bool _) | (refine VR.ptr ?_; kernel_rfl) | (refine VR.slice ?_; kernel_rfl) | (exact VR.sliceN _ _) | (refine VR.map ?_; kernel_rfl) | (exact VR.clean _ rfl) | (refine VR.aggOf ?_) | (exact OR.win (flatR_clean (fun _ => rfl) _)) | (exact OR.clean rfl (flatR_clean (fun _ => rfl) _)) | (refine OR.cellsOf ?_) | (exact AR.same _ rfl) | (refine AR.consOf ?_ ?_) | (exact trivial) | (exact VR.sliceZ _ _ _) | (refine GR.rw ?_) | (refine GR.ro ?_) | (exact GR.abs rfl) | (exact idle_rw _) | (exact idle_ro _) | (refine VR.intOf ?_; (· first | rfl | (simp only [IntKind.wrap_i64]; omega) | (simp; done) | (simp; omega))) |  (refine And.intro ?_ ?_; (· (first | decide | omega | (simp only [IntKind.wrap_i64]; omega) | (simp only [List.length_append]; omega) | (simp only [IntKind.wrap_i64, List.length_append]; omega) | (simp only [IntKind.wrap_i64, List.length_append, Int.natCast_add]; omega) | exact keepP_same _ _ _ | (repeat (first | exact trivial | refine And.intro rfl ?_)))); (conv => whnf)) | (refine fun (nc : Nat) (hnc : _ ≤ nc) => ?_; (conv => whnf)) | (refine bif2_true ?_ ?_; (· assumption); (conv => whnf)) | (refine bif2_false ?_ ?_; (· assumption); (conv => whnf)) | (refine bif2_true ?_ ?_; (· first | assumption | (refine decide_eq_true ?_; omega) | (refine decide_eq_false ?_; omega) | (refine beq_t ?_; omega) | (refine beq_f ?_; omega) | (refine bne_t ?_; omega) | (refine bne_f ?_; omega) | (refine ble_t ?_; omega) | (refine ble_f ?_; omega) | (simp [*]; done)); (conv => whnf)) | (refine bif2_false ?_ ?_; (· first | assumption | (refine decide_eq_true ?_; omega) | (refine decide_eq_false ?_; omega) | (refine beq_t ?_; omega) | (refine beq_f ?_; omega) | (refine bne_t ?_; omega) | (refine bne_f ?_; omega) | (refine ble_t ?_; omega) | (refine ble_f ?_; omega) | (simp [*]; done)); (conv => whnf)) | (refine bif2_not ?_; (conv => whnf)) | (refine amb_no ?_ ?_; (· first | exact Nat.succ_ne_zero _ | omega); (conv => whnf)) | (refine And.intro ?_ (fun (hc0 : _ = 0) => ?_) <;> (conv => whnf)) | (refine bif2_ble (fun h => ?_) (fun h => ?_) <;> (conv => whnf)) | (refine bif2_dec (fun h => ?_) (fun h => ?_) <;> (conv => whnf)) | (refine bif2_beq (fun h => ?_) (fun h => ?_) <;> (conv => whnf)) | (refine bif2_bne (fun h => ?_) (fun h => ?_) <;> (conv => whnf)) | (refine bif2_split (fun h => ?_) (fun h => ?_) <;> (conv => whnf)))
theorem rightN_s (n : Int) : Pure Try.prog 0 41 [i64 n] (fun v => v = .bool (rightB n 0 15)) := by
  refine Pure.body tt_ok mixed Try.func41 rfl (Nat.le_of_ble_eq_true rfl) ?_
  (conv => whnf)
  repeat' (first | (refine CallG.val (right_s _ _ _) pl34 rfl (Nat.zero_le _) ?_; (conv => whnf)) | (refine @And.intro (chkAll _ = true) _ ?_ ?_; (· kernel_rfl); (conv => whnf)) | (refine JoinG.direct ?_; (conv => whnf)) | (refine AppG.mk ?_; (conv => whnf)) | (refine both_intro ?_ ?_ <;> (conv => whnf)) | (exact VR.int _ _) | (exact VR.bool _) | (refine VR.ptr ?_; kernel_rfl) | (refine VR.slice ?_; kernel_rfl) | (exact VR.sliceN _ _) | (refine VR.map ?_; kernel_rfl) | (exact VR.clean _ rfl) | (refine VR.aggOf ?_) | (refine OR.cellsOf ?_) | (exact AR.same _ rfl) | (exact trivial) | (refine amb_no ?_ ?_; (· exact Nat.succ_ne_zero _); (conv => whnf)) | (refine And.intro ?_ ?_; (· (first | decide | omega | (simp only [IntKind.wrap_i64]; omega) | (simp only [List.length_append]; omega) | (simp only [IntKind.wrap_i64, List.length_append]; omega) | (simp only [IntKind.wrap_i64, List.length_append, Int.natCast_add]; omega) | exact keepP_same _ _ _ | (repeat (first | exact trivial | refine And.intro rfl ?_)))); (conv => whnf)) | (refine fun (nc : Nat) (hnc : _ ≤ nc) => ?_; (conv => whnf)) | (refine bif2_true ?_ ?_; (· assumption); (conv => whnf)) | (refine bif2_false ?_ ?_; (· assumption); (conv => whnf)) | (refine bif2_split (fun h => ?_) (fun h => ?_) <;> (conv => whnf)))
  all_goals exact ⟨rfl, rfl⟩
def laterV (a b : Int) : Int := imax (imin (IntKind.i64.wrap (imax (imin a 1099511627776) 0 + imax (imin b 1099511627776) 0)) 1099511627776) 0
theorem later_s (a b : Int) : Pure Try.prog 0 42 [i64 a, i64 b] (fun v => v = i64 (laterV a b)) := by
  refine Pure.body tt_ok mixed Try.func42 rfl (Nat.le_of_ble_eq_true rfl) ?_
  (conv => whnf)
  repeat' (first | (refine CallG.body tt_ok mixed Try.func49 (by kernel_rfl) rfl (Nat.le_of_ble_eq_true rfl) ?_; (conv => whnf)) | (refine CallG.val (span_s _ _ _) pl50 rfl (Nat.zero_le _) ?_; (conv => whnf)) | (refine @And.intro (chkAll _ = true) _ ?_ ?_; (· kernel_rfl); (conv => whnf)) | (refine JoinG.direct ?_; (conv => whnf)) | (refine AppG.mk ?_; (conv => whnf)) | (refine both_intro ?_ ?_ <;> (conv => whnf)) | (exact VR.int _ _) | (exact VR.bool _) | (refine VR.ptr ?_; kernel_rfl) | (refine VR.slice ?_; kernel_rfl) | (exact VR.sliceN _ _) | (refine VR.map ?_; kernel_rfl) | (exact VR.clean _ rfl) | (refine VR.aggOf ?_) | (refine OR.cellsOf ?_) | (exact AR.same _ rfl) | (exact trivial) | (refine amb_no ?_ ?_; (· exact Nat.succ_ne_zero _); (conv => whnf)) | (refine And.intro ?_ ?_; (· (first | decide | omega | (simp only [IntKind.wrap_i64]; omega) | (simp only [List.length_append]; omega) | (simp only [IntKind.wrap_i64, List.length_append]; omega) | (simp only [IntKind.wrap_i64, List.length_append, Int.natCast_add]; omega) | exact keepP_same _ _ _ | (repeat (first | exact trivial | refine And.intro rfl ?_)))); (conv => whnf)) | (refine fun (nc : Nat) (hnc : _ ≤ nc) => ?_; (conv => whnf)) | (refine bif2_true ?_ ?_; (· assumption); (conv => whnf)) | (refine bif2_false ?_ ?_; (· assumption); (conv => whnf)) | (refine bif2_split (fun h => ?_) (fun h => ?_) <;> (conv => whnf)))
  all_goals exact ⟨rfl, rfl⟩
set_option maxRecDepth 100000 in
set_option maxHeartbeats 40000000 in
theorem newB_bad {n : Int} (h : rightB n 1 64 = false) : Ct Try.prog 22 none [.v (i64 n)] (fun rs R' => rs = [.v (.pointer none), .v (i64 1)] ∧ R' = none) := by
  refine Ct.of_body tt_ok mixed Try.func22 rfl (Nat.le_of_ble_eq_true rfl) ?_
  intro w q F hrec
  refine ⟨_, _, ⟨rfl, rfl⟩, ?_⟩
  (conv => whnf)
  repeat' (first | (refine CallG.val (right_s _ _ _) pl34 rfl (Nat.zero_le _) ?_; (conv => whnf)) | (rw [h]; (conv => whnf)) | (exact Fin.mk [.v (.pointer none), .v (i64 1)] none [.pointer none, i64 1] [] rfl (.plain (.cons (.v rfl) (.cons (.v rfl) .nil))) rfl ⟨rfl, rfl⟩ ) | (refine @And.intro (chkAll _ = true) _ ?_ ?_; (· kernel_rfl); (conv => whnf)) | (refine JoinG.direct ?_; (conv => whnf)) | (refine AppG.mk ?_; (conv => whnf)) | (refine both_intro ?_ ?_ <;> (conv => whnf)) | (exact VR.int _ _) | (exact VR.bool _) | (refine VR.ptr ?_; kernel_rfl) | (refine VR.slice ?_; kernel_rfl) | (exact VR.sliceN _ _) | (refine VR.map ?_; kernel_rfl) | (exact VR.clean _ rfl) | (refine VR.aggOf ?_) | (exact OR.win (flatR_clean (fun _ => rfl) _)) | (exact OR.clean rfl (flatR_clean (fun _ => rfl) _)) | (refine OR.cellsOf ?_) | (exact AR.same _ rfl) | (refine AR.consOf ?_ ?_) | (exact trivial) | (exact VR.sliceZ _ _ _) | (refine GR.rw ?_) | (refine GR.ro ?_) | (exact GR.abs rfl) | (exact idle_rw _) | (exact idle_ro _) | (refine VR.intOf ?_; (· first | rfl | (simp only [IntKind.wrap_i64]; omega) | (simp; done) | (simp; omega))) |  (refine And.intro ?_ ?_; (· (first | decide | omega | (simp only [IntKind.wrap_i64]; omega) | (simp only [List.length_append]; omega) | (simp only [IntKind.wrap_i64, List.length_append]; omega) | (simp only [IntKind.wrap_i64, List.length_append, Int.natCast_add]; omega) | exact keepP_same _ _ _ | (repeat (first | exact trivial | refine And.intro rfl ?_)))); (conv => whnf)) | (refine fun (nc : Nat) (hnc : _ ≤ nc) => ?_; (conv => whnf)) | (refine bif2_true ?_ ?_; (· assumption); (conv => whnf)) | (refine bif2_false ?_ ?_; (· assumption); (conv => whnf)) | (refine bif2_true ?_ ?_; (· first | assumption | (refine decide_eq_true ?_; omega) | (refine decide_eq_false ?_; omega) | (refine beq_t ?_; omega) | (refine beq_f ?_; omega) | (refine bne_t ?_; omega) | (refine bne_f ?_; omega) | (refine ble_t ?_; omega) | (refine ble_f ?_; omega) | (simp [*]; done)); (conv => whnf)) | (refine bif2_false ?_ ?_; (· first | assumption | (refine decide_eq_true ?_; omega) | (refine decide_eq_false ?_; omega) | (refine beq_t ?_; omega) | (refine beq_f ?_; omega) | (refine bne_t ?_; omega) | (refine bne_f ?_; omega) | (refine ble_t ?_; omega) | (refine ble_f ?_; omega) | (simp [*]; done)); (conv => whnf)) | (refine bif2_not ?_; (conv => whnf)) | (refine amb_no ?_ ?_; (· first | exact Nat.succ_ne_zero _ | omega); (conv => whnf)) | (refine And.intro ?_ (fun (hc0 : _ = 0) => ?_) <;> (conv => whnf)) | (refine bif2_ble (fun h => ?_) (fun h => ?_) <;> (conv => whnf)) | (refine bif2_dec (fun h => ?_) (fun h => ?_) <;> (conv => whnf)) | (refine bif2_beq (fun h => ?_) (fun h => ?_) <;> (conv => whnf)) | (refine bif2_bne (fun h => ?_) (fun h => ?_) <;> (conv => whnf)) | (refine bif2_split (fun h => ?_) (fun h => ?_) <;> (conv => whnf)))
set_option maxRecDepth 100000 in
set_option maxHeartbeats 40000000 in
theorem newB_ok {n : Int} (h : rightB n 1 64 = true) : Ct Try.prog 22 none [.v (i64 n)] (fun rs R' => rs = [.obj (bR n (fun _ => 0) []), .v (i64 0)] ∧ R' = none) := by
  refine Ct.of_body tt_ok mixed Try.func22 rfl (Nat.le_of_ble_eq_true rfl) ?_
  intro w q F hrec
  refine ⟨_, _, ⟨rfl, rfl⟩, ?_⟩
  (conv => whnf)
  repeat' (first | (refine CallG.val (right_s _ _ _) pl34 rfl (Nat.zero_le _) ?_; (conv => whnf)) | (rw [h]; (conv => whnf)) | (exact Fin.mk [.obj (bR n (fun _ => 0) []), .v (i64 0)] none [.pointer (some ⟨1000, 0, none⟩), i64 0] [] rfl (.obj [1000] rfl (pack_newC rfl rfl rfl) (.cons (.v rfl) .nil)) rfl ⟨rfl, rfl⟩ ) | (refine @And.intro (chkAll _ = true) _ ?_ ?_; (· kernel_rfl); (conv => whnf)) | (refine JoinG.direct ?_; (conv => whnf)) | (refine AppG.mk ?_; (conv => whnf)) | (refine both_intro ?_ ?_ <;> (conv => whnf)) | (exact VR.int _ _) | (exact VR.bool _) | (refine VR.ptr ?_; kernel_rfl) | (refine VR.slice ?_; kernel_rfl) | (exact VR.sliceN _ _) | (refine VR.map ?_; kernel_rfl) | (exact VR.clean _ rfl) | (refine VR.aggOf ?_) | (exact OR.win (flatR_clean (fun _ => rfl) _)) | (exact OR.clean rfl (flatR_clean (fun _ => rfl) _)) | (refine OR.cellsOf ?_) | (exact AR.same _ rfl) | (refine AR.consOf ?_ ?_) | (exact trivial) | (exact VR.sliceZ _ _ _) | (refine GR.rw ?_) | (refine GR.ro ?_) | (exact GR.abs rfl) | (exact idle_rw _) | (exact idle_ro _) | (refine VR.intOf ?_; (· first | rfl | (simp only [IntKind.wrap_i64]; omega) | (simp; done) | (simp; omega))) |  (refine And.intro ?_ ?_; (· (first | decide | omega | (simp only [IntKind.wrap_i64]; omega) | (simp only [List.length_append]; omega) | (simp only [IntKind.wrap_i64, List.length_append]; omega) | (simp only [IntKind.wrap_i64, List.length_append, Int.natCast_add]; omega) | exact keepP_same _ _ _ | (repeat (first | exact trivial | refine And.intro rfl ?_)))); (conv => whnf)) | (refine fun (nc : Nat) (hnc : _ ≤ nc) => ?_; (conv => whnf)) | (refine bif2_true ?_ ?_; (· assumption); (conv => whnf)) | (refine bif2_false ?_ ?_; (· assumption); (conv => whnf)) | (refine bif2_true ?_ ?_; (· first | assumption | (refine decide_eq_true ?_; omega) | (refine decide_eq_false ?_; omega) | (refine beq_t ?_; omega) | (refine beq_f ?_; omega) | (refine bne_t ?_; omega) | (refine bne_f ?_; omega) | (refine ble_t ?_; omega) | (refine ble_f ?_; omega) | (simp [*]; done)); (conv => whnf)) | (refine bif2_false ?_ ?_; (· first | assumption | (refine decide_eq_true ?_; omega) | (refine decide_eq_false ?_; omega) | (refine beq_t ?_; omega) | (refine beq_f ?_; omega) | (refine bne_t ?_; omega) | (refine bne_f ?_; omega) | (refine ble_t ?_; omega) | (refine ble_f ?_; omega) | (simp [*]; done)); (conv => whnf)) | (refine bif2_not ?_; (conv => whnf)) | (refine amb_no ?_ ?_; (· first | exact Nat.succ_ne_zero _ | omega); (conv => whnf)) | (refine And.intro ?_ (fun (hc0 : _ = 0) => ?_) <;> (conv => whnf)) | (refine bif2_ble (fun h => ?_) (fun h => ?_) <;> (conv => whnf)) | (refine bif2_dec (fun h => ?_) (fun h => ?_) <;> (conv => whnf)) | (refine bif2_beq (fun h => ?_) (fun h => ?_) <;> (conv => whnf)) | (refine bif2_bne (fun h => ?_) (fun h => ?_) <;> (conv => whnf)) | (refine bif2_split (fun h => ?_) (fun h => ?_) <;> (conv => whnf)))
end Go.Proofs.Ytliaoaejmmkkjaa

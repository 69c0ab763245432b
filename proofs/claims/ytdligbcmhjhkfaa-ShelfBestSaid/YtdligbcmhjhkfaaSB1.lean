/- A shelf: a heap with a need beside it. -/
import Derived.Test.YtdligbcmhjhkfaaHP9
import Derived.Test.YtdligbcmhjhkfaaSH0

namespace Go.Proofs.Ytdligbcmhjhkfaa
open Go.RowKit
abbrev hpHC (L : List Th) (n : Nat) (M : MapL) (ck : Nat) (t : TypeId) (rest : List Value) : List (Nat × GO) :=
  [(500, .rw (.cells ⟨[.slice (some ⟨501, 0, none⟩) n L.length, .map (some 502)] ++ rest⟩ t)), (501, .rw (.cells ⟨flatR encT L⟩ tTh)), (502, .rw (.map ⟨encM evN M⟩ ck))]
theorem unp_heapC {R : ARes} {G : List Th → Nat → MapL → Prop} {t : TypeId} {rest : List Value} {w : World} {b : Nat} {F : Nat → Prop} (hr : cleanL rest = true) (h : HeapP G t rest w b F) (h3 : b < w.heap.size) (h4 : ∀ k, F k → k < w.heap.size) :
    ∃ (f : NM) (L : List Th) (n : Nat) (M : MapL) (ck : Nat), 0 < L.length ∧ G L n M ∧ UnpR w (some R) b F f (hpHC L n M ck t rest) := by
  obtain ⟨lb, mb, L, n, M, ck, f1, f2, f3, a1, a2, a3, q1, q2, q3, q4, q5⟩ := h
  refine ⟨hpNM b lb mb F, L, n, M, ck, q4, q5, { at_ := by simp [hpNM], nm := ?_, ow1 := ?_, ow2 := ?_, sees := ?_ }⟩
  · intro n q hn
    simp only [hpNM] at hn
    split at hn
    · rename_i e; cases hn; exact ⟨by omega, by omega, h3, f1⟩
    · split at hn
      · cases hn; exact ⟨by omega, by omega, h4 _ f2, f2⟩
      · split at hn
        · cases hn; exact ⟨by omega, by omega, h4 _ f3, f3⟩
        · cases hn
  · intro q n hn
    simp only [hpNM] at hn
    split at hn
    · rename_i e; cases hn; exact ⟨by decide, by decide, e ▸ f2⟩
    · split at hn
      · rename_i e; cases hn; exact ⟨by decide, by decide, e ▸ f3⟩
      · split at hn
        · rename_i e; cases hn; exact ⟨by decide, by decide, e⟩
        · cases hn
  · intro q hq
    simp only [hpNM]
    split
    · exact ⟨_, rfl⟩
    · split
      · exact ⟨_, rfl⟩
      · exact ⟨500, by simp [hq]⟩
  · intro n g hg
    rw [look_cons, look_cons, look_cons] at hg
    split at hg
    · rename_i e; subst e; cases hg
      intro b' hb
      simp [hpNM] at hb; subst hb
      refine ⟨_, by simp [hpNM, f1, a1, a2], q1, .cells _ _ (AR.appL ?_ (cleanA _ hr))⟩
      have := (AR.one (f := hpNM b lb mb F) (.slice (l := n) (c := L.length) (off := 0) (n := 501) (b := lb) (by simp [hpNM]))).push (v := .map (some 502)) (v' := .map (some mb)) (.map (by simp [hpNM]))
      simpa using this
    · split at hg
      · rename_i e; subst e; cases hg
        intro b' hb
        simp [hpNM] at hb; subst hb
        exact ⟨_, by simp [hpNM], q2, .cells _ _ (cleanA _ (flatR_clean (fun _ => rfl) _))⟩
      · split at hg
        · rename_i e; subst e; cases hg
          intro b' hb
          simp [hpNM] at hb; subst hb
          exact ⟨_, by have a4 : ¬ mb = lb := fun h => a3 h.symm; simp [hpNM, a4], q3, OR.encM evN_clean rfl rfl⟩
        · cases hg
theorem unp_heap0C {R : ARes} {t : TypeId} {rest : List Value} {w : World} {b : Nat} {F : Nat → Prop} (hr : cleanL rest = true) (h : Heap0 t rest w b F) (h3 : b < w.heap.size) (h4 : ∀ k, F k → k < w.heap.size) :
    ∃ (f : NM), UnpR w (some R) b F f [(500, .rw (.cells ⟨[.slice none 0 0, .map none] ++ rest⟩ t))] := by
  classical
  obtain ⟨f1, q1⟩ := h
  refine ⟨⟨fun n => if n = 500 ∨ n = 599 then some b else none, fun q => if F q then some 500 else none⟩, { at_ := by simp, nm := ?_, ow1 := ?_, ow2 := ?_, sees := ?_ }⟩
  · intro n q hn
    simp only at hn
    split at hn
    · rename_i e; cases hn; exact ⟨by omega, by omega, h3, f1⟩
    · cases hn
  · intro q n hn
    simp only at hn
    split at hn
    · rename_i e; cases hn; exact ⟨by decide, by decide, e⟩
    · cases hn
  · intro q hq; exact ⟨500, by simp [hq]⟩
  · intro n g hg
    rw [look_cons] at hg
    split at hg
    · rename_i e; subst e; cases hg
      intro b' hb
      simp at hb; subst hb
      refine ⟨_, by simp [f1], q1, .cells _ _ (AR.appL ?_ (cleanA _ hr))⟩
      have := fun f => (AR.one (f := f) (.sliceN 0 0)).push (v := .map none) (v' := .map none) .mapN
      simpa using this _
    · cases hg
theorem pack_heapC {h : List (Nat × GO)} {nH nL nM : Nat} {N : List Nat} {G : List Th → Nat → MapL → Prop} {t : TypeId} {rest : List Value} {L : List Th} {n c : Nat} {M : MapL} {ck : Nat}
    (hl : look h nH = some (.rw (.cells ⟨[.slice (some ⟨nL, 0, none⟩) n c, .map (some nM)] ++ rest⟩ t))) (h2 : look h nL = some (.rw (.cells ⟨flatR encT L⟩ tTh))) (h3 : look h nM = some (.rw (.map ⟨encM evN M⟩ ck)))
    (hN : (memL nH N && memL nL N && memL nM N && !Nat.beq nH nL && !Nat.beq nH nM && !Nat.beq nL nM) = true) (hr : cleanL rest = true) (hc : c = L.length) (h0 : 0 < L.length) (hG : G L n M) (g : NM) (w : World) (b : Nat) (hs : Sees g h w) (hb : g nH = some b) :
    HeapP G t rest w b fun k => ∃ n, memL n N = true ∧ g.ow k = some n := by
  simp only [Bool.and_eq_true, Bool.not_eq_true'] at hN
  obtain ⟨⟨⟨⟨⟨m1, m2⟩, m3⟩, d1⟩, d2⟩, d3⟩ := hN
  have ne : ∀ {a b : Nat}, Nat.beq a b = false → a ≠ b := fun h e => by subst e; simp at h
  obtain ⟨o', k1, k2, k3⟩ := hs nH _ hl b hb
  cases k3 with
  | cells _ _ ha =>
    obtain ⟨a', b', y', rfl, r1, r2, r3⟩ := AR.split2 ha
    have := congrArg Array.toList (cleanL_eq hr r3); simp only at this; subst this
    cases r1 with
    | sliceZ _ _ A => omega
    | slice hnL =>
      rename_i lb
      subst hc
      cases r2 with
      | map hnM =>
        rename_i mb
        obtain ⟨o2, p1, p2, p3⟩ := hs nL _ h2 lb hnL
        obtain ⟨o3, s1, s2, s3⟩ := hs nM _ h3 mb hnM
        refine ⟨lb, mb, L, n, M, ck, ⟨nH, m1, k1⟩, ⟨nL, m2, p1⟩, ⟨nM, m3, s1⟩, ?_, ?_, ?_, k2, ?_, ?_, h0, hG⟩
        · intro e; subst e; rw [k1] at p1; exact ne d1 (by simpa using p1)
        · intro e; subst e; rw [k1] at s1; exact ne d2 (by simpa using s1)
        · intro e; subst e; rw [p1] at s1; exact ne d3 (by simpa using s1)
        · cases p3 with
          | cells _ _ hh => rw [p2, cleanL_eq (flatR_clean (fun _ => rfl) _) hh]
        · cases s3 with
          | map _ hh => rw [s2, ES.encM_eq evN_clean hh]
theorem pack_zeroC {h : List (Nat × GO)} {nH : Nat} {N : List Nat} {t : TypeId} {rest : List Value} (hl : look h nH = some (.rw (.cells ⟨[.slice none 0 0, .map none] ++ rest⟩ t))) (hr : cleanL rest = true) (hN : memL nH N = true) (g : NM) (w : World) (b : Nat) (hs : Sees g h w) (hb : g nH = some b) :
    Heap0 t rest w b fun k => ∃ n, memL n N = true ∧ g.ow k = some n := by
  obtain ⟨o', k1, k2, k3⟩ := hs nH _ hl b hb
  cases k3 with
  | cells _ _ ha =>
    obtain ⟨a', b', y', rfl, r1, r2, r3⟩ := AR.split2 ha
    have := congrArg Array.toList (cleanL_eq hr r3); simp only at this; subst this
    cases r1
    cases r2
    exact ⟨⟨nH, hN, k1⟩, k2⟩

abbrev tSh : TypeId := 85
abbrev need3 (a b c : Int) : List Value := [.int .i64 a, .int .i64 b, .int .i64 c]
abbrev shR (a b c : Int) (s : List Th) : ARes := HeapR tSh (need3 a b c) s
theorem pl42 : Plain Try.prog 42 := Plain.of Try.func42 (by kernel_rfl) rfl
theorem pl44 : Plain Try.prog 44 := Plain.of Try.func44 (by kernel_rfl) rfl
theorem pl45 : Plain Try.prog 45 := Plain.of Try.func45 (by kernel_rfl) rfl
theorem pl46 : Plain Try.prog 46 := Plain.of Try.func46 (by kernel_rfl) rfl
theorem pl47 : Plain Try.prog 47 := Plain.of Try.func47 (by kernel_rfl) rfl
theorem pl48 : Plain Try.prog 48 := Plain.of Try.func48 (by kernel_rfl) rfl
theorem pl49 : Plain Try.prog 49 := Plain.of Try.func49 (by kernel_rfl) rfl
theorem pl41 : Plain Try.prog 41 := Plain.of Try.func41 (by kernel_rfl) rfl
theorem pl8 : Plain Try.prog 8 := Plain.of Try.func8 (by kernel_rfl) rfl
theorem pl9 : Plain Try.prog 9 := Plain.of Try.func9 (by kernel_rfl) rfl
theorem pl43 : Plain Try.prog 43 := Plain.of Try.func43 (by kernel_rfl) rfl
set_option maxRecDepth 100000 in
set_option maxHeartbeats 40000000 in
theorem shNew_ct (a b c : Int) : Ct Try.prog 42 none [.v (r3 a b c)] (fun rs _ => rs = [.obj (shR a b c [])]) := by
  refine Ct.of_body tt_ok mixed Try.func42 rfl (Nat.le_of_ble_eq_true rfl) ?_
  intro w q F hrec
  refine ⟨⟨fun _ => none, fun _ => none⟩, [], ⟨rfl, rfl⟩, ?_⟩
  (conv => whnf)
  repeat' (first | (exact Fin.mk [.obj (shR a b c [])] none [.pointer (some ⟨1001, 0, none⟩)] [] rfl (.obj [1001] rfl (fun g w b hs hb => Or.inl ⟨rfl, pack_zeroC rfl rfl rfl g w b hs hb⟩) (.nil)) rfl rfl ) | (refine @And.intro (chkAll _ = true) _ ?_ ?_; (· kernel_rfl); (conv => whnf)) | (refine JoinG.direct ?_; (conv => whnf)) | (refine AppG.mk ?_; (conv => whnf)) | (refine both_intro ?_ ?_ <;> (conv => whnf)) | (exact VR.int _ _) | (exact VR.bool _) | (refine VR.ptr ?_; kernel_rfl) | (refine VR.slice ?_; kernel_rfl) | (exact VR.sliceN _ _) | (refine VR.map ?_; kernel_rfl) | (exact VR.clean _ rfl) | (refine VR.aggOf ?_) | (exact OR.win (flatR_clean (fun _ => rfl) _)) | (exact OR.clean rfl (flatR_clean (fun _ => rfl) _)) | (refine OR.cellsOf ?_) | (exact AR.same _ rfl) | (refine AR.consOf ?_ ?_) | (exact trivial) | (exact VR.sliceZ _ _ _) | (refine GR.rw ?_) | (refine GR.ro ?_) | (exact GR.abs rfl) | (exact idle_rw _) | (exact idle_ro _) | (refine VR.intOf ?_; (· first | rfl | (simp only [IntKind.wrap_i64]; omega) | (simp; done) | (simp; omega))) |  (refine And.intro ?_ ?_; (· (first | decide | omega | (simp only [IntKind.wrap_i64]; omega) | (simp only [List.length_append]; omega) | (simp only [IntKind.wrap_i64, List.length_append]; omega) | (simp only [IntKind.wrap_i64, List.length_append, Int.natCast_add]; omega) | exact keepP_same _ _ _ | (repeat (first | exact trivial | refine And.intro rfl ?_)))); (conv => whnf)) | (refine fun (nc : Nat) (hnc : _ ≤ nc) => ?_; (conv => whnf)) | (refine bif2_true ?_ ?_; (· assumption); (conv => whnf)) | (refine bif2_false ?_ ?_; (· assumption); (conv => whnf)) | (refine bif2_true ?_ ?_; (· first | assumption | (refine decide_eq_true ?_; omega) | (refine decide_eq_false ?_; omega) | (refine beq_t ?_; omega) | (refine beq_f ?_; omega) | (refine bne_t ?_; omega) | (refine bne_f ?_; omega) | (refine ble_t ?_; omega) | (refine ble_f ?_; omega) | (simp [*]; done)); (conv => whnf)) | (refine bif2_false ?_ ?_; (· first | assumption | (refine decide_eq_true ?_; omega) | (refine decide_eq_false ?_; omega) | (refine beq_t ?_; omega) | (refine beq_f ?_; omega) | (refine bne_t ?_; omega) | (refine bne_f ?_; omega) | (refine ble_t ?_; omega) | (refine ble_f ?_; omega) | (simp [*]; done)); (conv => whnf)) | (refine bif2_not ?_; (conv => whnf)) | (refine amb_no ?_ ?_; (· first | exact Nat.succ_ne_zero _ | omega); (conv => whnf)) | (refine And.intro ?_ (fun (hc0 : _ = 0) => ?_) <;> (conv => whnf)) | (refine bif2_ble (fun h => ?_) (fun h => ?_) <;> (conv => whnf)) | (refine bif2_dec (fun h => ?_) (fun h => ?_) <;> (conv => whnf)) | (refine bif2_beq (fun h => ?_) (fun h => ?_) <;> (conv => whnf)) | (refine bif2_bne (fun h => ?_) (fun h => ?_) <;> (conv => whnf)) | (refine bif2_split (fun h => ?_) (fun h => ?_) <;> (conv => whnf)))
  all_goals trace_state
set_option maxRecDepth 100000 in
set_option maxHeartbeats 40000000 in
theorem shNeed_ct (a b c : Int) (s : List Th) : Ct Try.prog 49 (some (shR a b c s)) [] (fun rs R' => rs = [.v (r3 a b c)] ∧ R' = some (shR a b c s)) := by
  refine Ct.of_body tt_ok mixed Try.func49 rfl (Nat.le_of_ble_eq_true rfl) ?_
  intro w q F hrec
  obtain ⟨h1, h2, h3⟩ := hrec
  rcases h1 with ⟨hs0, h1⟩ | h1
  · subst hs0
    obtain ⟨f, hu⟩ := unp_heap0C (R := shR a b c []) (rest := need3 a b c) rfl h1 h2 h3
    refine ⟨f, _, hu, ?_⟩
    clear hu h1 h2 h3
    (conv => whnf)
    repeat' (first | (exact Fin.mk [.v (r3 a b c)] (some (shR a b c [])) [r3 a b c] [500] rfl (.plain (.cons (.v rfl) .nil)) (fun g w b hs hb => Or.inl ⟨rfl, pack_zeroC rfl rfl rfl g w b hs hb⟩) ⟨rfl, rfl⟩ ) | (refine @And.intro (chkAll _ = true) _ ?_ ?_; (· kernel_rfl); (conv => whnf)) | (refine JoinG.direct ?_; (conv => whnf)) | (refine AppG.mk ?_; (conv => whnf)) | (refine both_intro ?_ ?_ <;> (conv => whnf)) | (exact VR.int _ _) | (exact VR.bool _) | (refine VR.ptr ?_; kernel_rfl) | (refine VR.slice ?_; kernel_rfl) | (exact VR.sliceN _ _) | (refine VR.map ?_; kernel_rfl) | (exact VR.clean _ rfl) | (refine VR.aggOf ?_) | (exact OR.win (flatR_clean (fun _ => rfl) _)) | (exact OR.clean rfl (flatR_clean (fun _ => rfl) _)) | (refine OR.cellsOf ?_) | (exact AR.same _ rfl) | (refine AR.consOf ?_ ?_) | (exact trivial) | (exact VR.sliceZ _ _ _) | (refine GR.rw ?_) | (refine GR.ro ?_) | (exact GR.abs rfl) | (exact idle_rw _) | (exact idle_ro _) | (refine VR.intOf ?_; (· first | rfl | (simp only [IntKind.wrap_i64]; omega) | (simp; done) | (simp; omega))) |  (refine And.intro ?_ ?_; (· (first | decide | omega | (simp only [IntKind.wrap_i64]; omega) | (simp only [List.length_append]; omega) | (simp only [IntKind.wrap_i64, List.length_append]; omega) | (simp only [IntKind.wrap_i64, List.length_append, Int.natCast_add]; omega) | exact keepP_same _ _ _ | (repeat (first | exact trivial | refine And.intro rfl ?_)))); (conv => whnf)) | (refine fun (nc : Nat) (hnc : _ ≤ nc) => ?_; (conv => whnf)) | (refine bif2_true ?_ ?_; (· assumption); (conv => whnf)) | (refine bif2_false ?_ ?_; (· assumption); (conv => whnf)) | (refine bif2_true ?_ ?_; (· first | assumption | (refine decide_eq_true ?_; omega) | (refine decide_eq_false ?_; omega) | (refine beq_t ?_; omega) | (refine beq_f ?_; omega) | (refine bne_t ?_; omega) | (refine bne_f ?_; omega) | (refine ble_t ?_; omega) | (refine ble_f ?_; omega) | (simp [*]; done)); (conv => whnf)) | (refine bif2_false ?_ ?_; (· first | assumption | (refine decide_eq_true ?_; omega) | (refine decide_eq_false ?_; omega) | (refine beq_t ?_; omega) | (refine beq_f ?_; omega) | (refine bne_t ?_; omega) | (refine bne_f ?_; omega) | (refine ble_t ?_; omega) | (refine ble_f ?_; omega) | (simp [*]; done)); (conv => whnf)) | (refine bif2_not ?_; (conv => whnf)) | (refine amb_no ?_ ?_; (· first | exact Nat.succ_ne_zero _ | omega); (conv => whnf)) | (refine And.intro ?_ (fun (hc0 : _ = 0) => ?_) <;> (conv => whnf)) | (refine bif2_ble (fun h => ?_) (fun h => ?_) <;> (conv => whnf)) | (refine bif2_dec (fun h => ?_) (fun h => ?_) <;> (conv => whnf)) | (refine bif2_beq (fun h => ?_) (fun h => ?_) <;> (conv => whnf)) | (refine bif2_bne (fun h => ?_) (fun h => ?_) <;> (conv => whnf)) | (refine bif2_split (fun h => ?_) (fun h => ?_) <;> (conv => whnf)))
    all_goals trace_state
  · obtain ⟨f, L, n, M, ck, hL, H, hu⟩ := unp_heapC (R := shR a b c s) (rest := need3 a b c) rfl h1 h2 h3
    refine ⟨f, _, hu, ?_⟩
    clear hu h1 h2 h3
    (conv => whnf)
    repeat' (first | (exact Fin.mk [.v (r3 a b c)] (some (shR a b c s)) [r3 a b c] [500, 501, 502] rfl (.plain (.cons (.v rfl) .nil)) (fun g w b hs hb => Or.inr (pack_heapC rfl rfl rfl rfl rfl rfl hL H g w b hs hb)) ⟨rfl, rfl⟩ ) | (refine @And.intro (chkAll _ = true) _ ?_ ?_; (· kernel_rfl); (conv => whnf)) | (refine JoinG.direct ?_; (conv => whnf)) | (refine AppG.mk ?_; (conv => whnf)) | (refine both_intro ?_ ?_ <;> (conv => whnf)) | (exact VR.int _ _) | (exact VR.bool _) | (refine VR.ptr ?_; kernel_rfl) | (refine VR.slice ?_; kernel_rfl) | (exact VR.sliceN _ _) | (refine VR.map ?_; kernel_rfl) | (exact VR.clean _ rfl) | (refine VR.aggOf ?_) | (exact OR.win (flatR_clean (fun _ => rfl) _)) | (exact OR.clean rfl (flatR_clean (fun _ => rfl) _)) | (refine OR.cellsOf ?_) | (exact AR.same _ rfl) | (refine AR.consOf ?_ ?_) | (exact trivial) | (exact VR.sliceZ _ _ _) | (refine GR.rw ?_) | (refine GR.ro ?_) | (exact GR.abs rfl) | (exact idle_rw _) | (exact idle_ro _) | (refine VR.intOf ?_; (· first | rfl | (simp only [IntKind.wrap_i64]; omega) | (simp; done) | (simp; omega))) |  (refine And.intro ?_ ?_; (· (first | decide | omega | (simp only [IntKind.wrap_i64]; omega) | (simp only [List.length_append]; omega) | (simp only [IntKind.wrap_i64, List.length_append]; omega) | (simp only [IntKind.wrap_i64, List.length_append, Int.natCast_add]; omega) | exact keepP_same _ _ _ | (repeat (first | exact trivial | refine And.intro rfl ?_)))); (conv => whnf)) | (refine fun (nc : Nat) (hnc : _ ≤ nc) => ?_; (conv => whnf)) | (refine bif2_true ?_ ?_; (· assumption); (conv => whnf)) | (refine bif2_false ?_ ?_; (· assumption); (conv => whnf)) | (refine bif2_true ?_ ?_; (· first | assumption | (refine decide_eq_true ?_; omega) | (refine decide_eq_false ?_; omega) | (refine beq_t ?_; omega) | (refine beq_f ?_; omega) | (refine bne_t ?_; omega) | (refine bne_f ?_; omega) | (refine ble_t ?_; omega) | (refine ble_f ?_; omega) | (simp [*]; done)); (conv => whnf)) | (refine bif2_false ?_ ?_; (· first | assumption | (refine decide_eq_true ?_; omega) | (refine decide_eq_false ?_; omega) | (refine beq_t ?_; omega) | (refine beq_f ?_; omega) | (refine bne_t ?_; omega) | (refine bne_f ?_; omega) | (refine ble_t ?_; omega) | (refine ble_f ?_; omega) | (simp [*]; done)); (conv => whnf)) | (refine bif2_not ?_; (conv => whnf)) | (refine amb_no ?_ ?_; (· first | exact Nat.succ_ne_zero _ | omega); (conv => whnf)) | (refine And.intro ?_ (fun (hc0 : _ = 0) => ?_) <;> (conv => whnf)) | (refine bif2_ble (fun h => ?_) (fun h => ?_) <;> (conv => whnf)) | (refine bif2_dec (fun h => ?_) (fun h => ?_) <;> (conv => whnf)) | (refine bif2_beq (fun h => ?_) (fun h => ?_) <;> (conv => whnf)) | (refine bif2_bne (fun h => ?_) (fun h => ?_) <;> (conv => whnf)) | (refine bif2_split (fun h => ?_) (fun h => ?_) <;> (conv => whnf)))
    all_goals trace_state
set_option maxRecDepth 100000 in
set_option maxHeartbeats 40000000 in
theorem shDrop_ct (a b c : Int) (s : List Th) (id : Int) (hs : s.length ≤ 1000000) : Ct Try.prog 45 (some (shR a b c s)) [.v (i64 id)] (fun rs R' => rs = [.v (.bool (hasT id s))] ∧ R' = some (shR a b c (dropT id s))) := by
  refine Ct.of_body tt_ok mixed Try.func45 rfl (Nat.le_of_ble_eq_true rfl) ?_
  intro w q F hrec
  refine ⟨_, _, unp_abs hrec, ?_⟩
  (conv => whnf)
  repeat' (first | ((refine CallG.methP (drop_ct tSh (need3 a b c) s id hs) pl13 true rfl rfl (.cons (.v rfl) .nil) ?_; rintro _ _ ⟨rfl, hR⟩; cases hR; refine And.intro (fun _ => rfl) ?_); (conv => whnf)) | (exact Fin.mk [.v (.bool _)] (some (shR a b c _)) [.bool _] [500] rfl (.plain (.cons (.v rfl) .nil)) (pack_abs rfl) ⟨rfl, rfl⟩ ) | (refine @And.intro (chkAll _ = true) _ ?_ ?_; (· kernel_rfl); (conv => whnf)) | (refine JoinG.direct ?_; (conv => whnf)) | (refine AppG.mk ?_; (conv => whnf)) | (refine both_intro ?_ ?_ <;> (conv => whnf)) | (exact VR.int _ _) | (exact VR.bool _) | (refine VR.ptr ?_; kernel_rfl) | (refine VR.slice ?_; kernel_rfl) | (exact VR.sliceN _ _) | (refine VR.map ?_; kernel_rfl) | (exact VR.clean _ rfl) | (refine VR.aggOf ?_) | (exact OR.win (flatR_clean (fun _ => rfl) _)) | (exact OR.clean rfl (flatR_clean (fun _ => rfl) _)) | (refine OR.cellsOf ?_) | (exact AR.same _ rfl) | (refine AR.consOf ?_ ?_) | (exact trivial) | (exact VR.sliceZ _ _ _) | (refine GR.rw ?_) | (refine GR.ro ?_) | (exact GR.abs rfl) | (exact idle_rw _) | (exact idle_ro _) | (refine VR.intOf ?_; (· first | rfl | (simp only [IntKind.wrap_i64]; omega) | (simp; done) | (simp; omega))) |  (refine And.intro ?_ ?_; (· (first | decide | omega | (simp only [IntKind.wrap_i64]; omega) | (simp only [List.length_append]; omega) | (simp only [IntKind.wrap_i64, List.length_append]; omega) | (simp only [IntKind.wrap_i64, List.length_append, Int.natCast_add]; omega) | exact keepP_same _ _ _ | (repeat (first | exact trivial | refine And.intro rfl ?_)))); (conv => whnf)) | (refine fun (nc : Nat) (hnc : _ ≤ nc) => ?_; (conv => whnf)) | (refine bif2_true ?_ ?_; (· assumption); (conv => whnf)) | (refine bif2_false ?_ ?_; (· assumption); (conv => whnf)) | (refine bif2_true ?_ ?_; (· first | assumption | (refine decide_eq_true ?_; omega) | (refine decide_eq_false ?_; omega) | (refine beq_t ?_; omega) | (refine beq_f ?_; omega) | (refine bne_t ?_; omega) | (refine bne_f ?_; omega) | (refine ble_t ?_; omega) | (refine ble_f ?_; omega) | (simp [*]; done)); (conv => whnf)) | (refine bif2_false ?_ ?_; (· first | assumption | (refine decide_eq_true ?_; omega) | (refine decide_eq_false ?_; omega) | (refine beq_t ?_; omega) | (refine beq_f ?_; omega) | (refine bne_t ?_; omega) | (refine bne_f ?_; omega) | (refine ble_t ?_; omega) | (refine ble_f ?_; omega) | (simp [*]; done)); (conv => whnf)) | (refine bif2_not ?_; (conv => whnf)) | (refine amb_no ?_ ?_; (· first | exact Nat.succ_ne_zero _ | omega); (conv => whnf)) | (refine And.intro ?_ (fun (hc0 : _ = 0) => ?_) <;> (conv => whnf)) | (refine bif2_ble (fun h => ?_) (fun h => ?_) <;> (conv => whnf)) | (refine bif2_dec (fun h => ?_) (fun h => ?_) <;> (conv => whnf)) | (refine bif2_beq (fun h => ?_) (fun h => ?_) <;> (conv => whnf)) | (refine bif2_bne (fun h => ?_) (fun h => ?_) <;> (conv => whnf)) | (refine bif2_split (fun h => ?_) (fun h => ?_) <;> (conv => whnf)))
  all_goals trace_state
set_option maxRecDepth 100000 in
set_option maxHeartbeats 40000000 in
theorem shBest_ct (a b c : Int) (s : List Th) : Ct Try.prog 46 (some (shR a b c s)) [] (fun rs R' => ((s = [] ∧ rs = [.v (i64 0), .v (.bool false)]) ∨ ∃ m, m ∈ s ∧ (∀ y ∈ s, leT m y) ∧ rs = [.v (i64 m.id), .v (.bool true)]) ∧ R' = some (shR a b c s)) := by
  refine Ct.of_body tt_ok mixed Try.func46 rfl (Nat.le_of_ble_eq_true rfl) ?_
  intro w q F hrec
  refine ⟨_, _, unp_abs hrec, ?_⟩
  (conv => whnf)
  repeat' (first | ((refine CallG.methP (top_ct tSh (need3 a b c) s) pl23 true rfl rfl .nil ?_; rintro rs R' ⟨⟨h1, rfl⟩ | ⟨m, hm, hmin, rfl⟩, hR⟩ <;> cases hR <;> (refine ⟨fun _ => rfl, ?_⟩; (conv => whnf)))) | (refine @And.intro (chkAll _ = true) _ ?_ ?_; (· kernel_rfl); (conv => whnf)) | (refine JoinG.direct ?_; (conv => whnf)) | (refine AppG.mk ?_; (conv => whnf)) | (refine both_intro ?_ ?_ <;> (conv => whnf)) | (exact VR.int _ _) | (exact VR.bool _) | (refine VR.ptr ?_; kernel_rfl) | (refine VR.slice ?_; kernel_rfl) | (exact VR.sliceN _ _) | (refine VR.map ?_; kernel_rfl) | (exact VR.clean _ rfl) | (refine VR.aggOf ?_) | (exact OR.win (flatR_clean (fun _ => rfl) _)) | (exact OR.clean rfl (flatR_clean (fun _ => rfl) _)) | (refine OR.cellsOf ?_) | (exact AR.same _ rfl) | (refine AR.consOf ?_ ?_) | (exact trivial) | (exact VR.sliceZ _ _ _) | (refine GR.rw ?_) | (refine GR.ro ?_) | (exact GR.abs rfl) | (exact idle_rw _) | (exact idle_ro _) | (refine VR.intOf ?_; (· first | rfl | (simp only [IntKind.wrap_i64]; omega) | (simp; done) | (simp; omega))) |  (refine And.intro ?_ ?_; (· (first | decide | omega | (simp only [IntKind.wrap_i64]; omega) | (simp only [List.length_append]; omega) | (simp only [IntKind.wrap_i64, List.length_append]; omega) | (simp only [IntKind.wrap_i64, List.length_append, Int.natCast_add]; omega) | exact keepP_same _ _ _ | (repeat (first | exact trivial | refine And.intro rfl ?_)))); (conv => whnf)) | (refine fun (nc : Nat) (hnc : _ ≤ nc) => ?_; (conv => whnf)) | (refine bif2_true ?_ ?_; (· assumption); (conv => whnf)) | (refine bif2_false ?_ ?_; (· assumption); (conv => whnf)) | (refine bif2_true ?_ ?_; (· first | assumption | (refine decide_eq_true ?_; omega) | (refine decide_eq_false ?_; omega) | (refine beq_t ?_; omega) | (refine beq_f ?_; omega) | (refine bne_t ?_; omega) | (refine bne_f ?_; omega) | (refine ble_t ?_; omega) | (refine ble_f ?_; omega) | (simp [*]; done)); (conv => whnf)) | (refine bif2_false ?_ ?_; (· first | assumption | (refine decide_eq_true ?_; omega) | (refine decide_eq_false ?_; omega) | (refine beq_t ?_; omega) | (refine beq_f ?_; omega) | (refine bne_t ?_; omega) | (refine bne_f ?_; omega) | (refine ble_t ?_; omega) | (refine ble_f ?_; omega) | (simp [*]; done)); (conv => whnf)) | (refine bif2_not ?_; (conv => whnf)) | (refine amb_no ?_ ?_; (· first | exact Nat.succ_ne_zero _ | omega); (conv => whnf)) | (refine And.intro ?_ (fun (hc0 : _ = 0) => ?_) <;> (conv => whnf)) | (refine bif2_ble (fun h => ?_) (fun h => ?_) <;> (conv => whnf)) | (refine bif2_dec (fun h => ?_) (fun h => ?_) <;> (conv => whnf)) | (refine bif2_beq (fun h => ?_) (fun h => ?_) <;> (conv => whnf)) | (refine bif2_bne (fun h => ?_) (fun h => ?_) <;> (conv => whnf)) | (refine bif2_split (fun h => ?_) (fun h => ?_) <;> (conv => whnf)))
  · exact Fin.mk [.v (i64 0), .v (.bool false)] (some (shR a b c s)) [i64 0, .bool false] [500] rfl (.plain (.cons (.v rfl) (.cons (.v rfl) .nil))) (pack_abs rfl) ⟨Or.inl ⟨h1, rfl⟩, rfl⟩
  · exact Fin.mk [.v (i64 m.id), .v (.bool true)] (some (shR a b c s)) [i64 m.id, .bool true] [500] rfl (.plain (.cons (.v rfl) (.cons (.v rfl) .nil))) (pack_abs rfl) ⟨Or.inr ⟨m, hm, hmin, rfl⟩, rfl⟩
set_option maxRecDepth 100000 in
set_option maxHeartbeats 40000000 in
theorem shHas_ct (a b c : Int) (s : List Th) (id : Int) : Ct Try.prog 47 (some (shR a b c s)) [.v (i64 id)] (fun rs R' => rs = [.v (.bool (hasT id s))] ∧ R' = some (shR a b c s)) := by
  refine Ct.of_body tt_ok mixed Try.func47 rfl (Nat.le_of_ble_eq_true rfl) ?_
  intro w q F hrec
  refine ⟨_, _, unp_abs hrec, ?_⟩
  (conv => whnf)
  repeat' (first | ((refine CallG.methP (key_ct tSh (need3 a b c) s id) pl15 true rfl rfl (.cons (.v rfl) .nil) ?_; rintro rs R' ⟨⟨h1, rfl⟩ | ⟨y, hy, hyi, rfl⟩, hR⟩ <;> cases hR <;> (refine ⟨fun _ => rfl, ?_⟩; (conv => whnf)))) | (refine @And.intro (chkAll _ = true) _ ?_ ?_; (· kernel_rfl); (conv => whnf)) | (refine JoinG.direct ?_; (conv => whnf)) | (refine AppG.mk ?_; (conv => whnf)) | (refine both_intro ?_ ?_ <;> (conv => whnf)) | (exact VR.int _ _) | (exact VR.bool _) | (refine VR.ptr ?_; kernel_rfl) | (refine VR.slice ?_; kernel_rfl) | (exact VR.sliceN _ _) | (refine VR.map ?_; kernel_rfl) | (exact VR.clean _ rfl) | (refine VR.aggOf ?_) | (exact OR.win (flatR_clean (fun _ => rfl) _)) | (exact OR.clean rfl (flatR_clean (fun _ => rfl) _)) | (refine OR.cellsOf ?_) | (exact AR.same _ rfl) | (refine AR.consOf ?_ ?_) | (exact trivial) | (exact VR.sliceZ _ _ _) | (refine GR.rw ?_) | (refine GR.ro ?_) | (exact GR.abs rfl) | (exact idle_rw _) | (exact idle_ro _) | (refine VR.intOf ?_; (· first | rfl | (simp only [IntKind.wrap_i64]; omega) | (simp; done) | (simp; omega))) |  (refine And.intro ?_ ?_; (· (first | decide | omega | (simp only [IntKind.wrap_i64]; omega) | (simp only [List.length_append]; omega) | (simp only [IntKind.wrap_i64, List.length_append]; omega) | (simp only [IntKind.wrap_i64, List.length_append, Int.natCast_add]; omega) | exact keepP_same _ _ _ | (repeat (first | exact trivial | refine And.intro rfl ?_)))); (conv => whnf)) | (refine fun (nc : Nat) (hnc : _ ≤ nc) => ?_; (conv => whnf)) | (refine bif2_true ?_ ?_; (· assumption); (conv => whnf)) | (refine bif2_false ?_ ?_; (· assumption); (conv => whnf)) | (refine bif2_true ?_ ?_; (· first | assumption | (refine decide_eq_true ?_; omega) | (refine decide_eq_false ?_; omega) | (refine beq_t ?_; omega) | (refine beq_f ?_; omega) | (refine bne_t ?_; omega) | (refine bne_f ?_; omega) | (refine ble_t ?_; omega) | (refine ble_f ?_; omega) | (simp [*]; done)); (conv => whnf)) | (refine bif2_false ?_ ?_; (· first | assumption | (refine decide_eq_true ?_; omega) | (refine decide_eq_false ?_; omega) | (refine beq_t ?_; omega) | (refine beq_f ?_; omega) | (refine bne_t ?_; omega) | (refine bne_f ?_; omega) | (refine ble_t ?_; omega) | (refine ble_f ?_; omega) | (simp [*]; done)); (conv => whnf)) | (refine bif2_not ?_; (conv => whnf)) | (refine amb_no ?_ ?_; (· first | exact Nat.succ_ne_zero _ | omega); (conv => whnf)) | (refine And.intro ?_ (fun (hc0 : _ = 0) => ?_) <;> (conv => whnf)) | (refine bif2_ble (fun h => ?_) (fun h => ?_) <;> (conv => whnf)) | (refine bif2_dec (fun h => ?_) (fun h => ?_) <;> (conv => whnf)) | (refine bif2_beq (fun h => ?_) (fun h => ?_) <;> (conv => whnf)) | (refine bif2_bne (fun h => ?_) (fun h => ?_) <;> (conv => whnf)) | (refine bif2_split (fun h => ?_) (fun h => ?_) <;> (conv => whnf)))
  · exact Fin.mk [.v (.bool false)] (some (shR a b c s)) [.bool false] [500] rfl (.plain (.cons (.v rfl) .nil)) (pack_abs rfl) ⟨by rw [h1], rfl⟩
  · exact Fin.mk [.v (.bool true)] (some (shR a b c s)) [.bool true] [500] rfl (.plain (.cons (.v rfl) .nil)) (pack_abs rfl) ⟨by rw [hasT_t hy hyi], rfl⟩
set_option maxRecDepth 100000 in
set_option maxHeartbeats 40000000 in
theorem shNodes_ct (a b c : Int) (s S : List Th) (hs : s.length ≤ 1000) (hS : S.Perm s) (hso : S.Pairwise leT) : Ct Try.prog 48 (some (shR a b c s)) [] (fun rs R' => (∃ jk : List Int, rs = [.own (flatR encI (idsT S ++ jk)) S.length (idsT S ++ jk).length 3]) ∧ R' = some (shR a b c s)) := by
  refine Ct.of_body tt_ok mixed Try.func48 rfl (Nat.le_of_ble_eq_true rfl) ?_
  intro w q F hrec
  refine ⟨_, _, unp_abs hrec, ?_⟩
  (conv => whnf)
  repeat' (first | ((refine CallG.methP (all_ct tSh (need3 a b c) s hs) pl14 true rfl rfl .nil ?_; rintro rs R' ⟨⟨A, jk, hA, hAs, rfl⟩, hR⟩; cases hR; refine ⟨fun _ => rfl, ?_⟩); (conv => whnf)) | (refine @And.intro (chkAll _ = true) _ ?_ ?_; (· kernel_rfl); (conv => whnf)) | (refine JoinG.direct ?_; (conv => whnf)) | (refine AppG.mk ?_; (conv => whnf)) | (refine both_intro ?_ ?_ <;> (conv => whnf)) | (exact VR.int _ _) | (exact VR.bool _) | (refine VR.ptr ?_; kernel_rfl) | (refine VR.slice ?_; kernel_rfl) | (exact VR.sliceN _ _) | (refine VR.map ?_; kernel_rfl) | (exact VR.clean _ rfl) | (refine VR.aggOf ?_) | (exact OR.win (flatR_clean (fun _ => rfl) _)) | (exact OR.clean rfl (flatR_clean (fun _ => rfl) _)) | (refine OR.cellsOf ?_) | (exact AR.same _ rfl) | (refine AR.consOf ?_ ?_) | (exact trivial) | (exact VR.sliceZ _ _ _) | (refine GR.rw ?_) | (refine GR.ro ?_) | (exact GR.abs rfl) | (exact idle_rw _) | (exact idle_ro _) | (refine VR.intOf ?_; (· first | rfl | (simp only [IntKind.wrap_i64]; omega) | (simp; done) | (simp; omega))) |  (refine And.intro ?_ ?_; (· (first | decide | omega | (simp only [IntKind.wrap_i64]; omega) | (simp only [List.length_append]; omega) | (simp only [IntKind.wrap_i64, List.length_append]; omega) | (simp only [IntKind.wrap_i64, List.length_append, Int.natCast_add]; omega) | exact keepP_same _ _ _ | (repeat (first | exact trivial | refine And.intro rfl ?_)))); (conv => whnf)) | (refine fun (nc : Nat) (hnc : _ ≤ nc) => ?_; (conv => whnf)) | (refine bif2_true ?_ ?_; (· assumption); (conv => whnf)) | (refine bif2_false ?_ ?_; (· assumption); (conv => whnf)) | (refine bif2_true ?_ ?_; (· first | assumption | (refine decide_eq_true ?_; omega) | (refine decide_eq_false ?_; omega) | (refine beq_t ?_; omega) | (refine beq_f ?_; omega) | (refine bne_t ?_; omega) | (refine bne_f ?_; omega) | (refine ble_t ?_; omega) | (refine ble_f ?_; omega) | (simp [*]; done)); (conv => whnf)) | (refine bif2_false ?_ ?_; (· first | assumption | (refine decide_eq_true ?_; omega) | (refine decide_eq_false ?_; omega) | (refine beq_t ?_; omega) | (refine beq_f ?_; omega) | (refine bne_t ?_; omega) | (refine bne_f ?_; omega) | (refine ble_t ?_; omega) | (refine ble_f ?_; omega) | (simp [*]; done)); (conv => whnf)) | (refine bif2_not ?_; (conv => whnf)) | (refine amb_no ?_ ?_; (· first | exact Nat.succ_ne_zero _ | omega); (conv => whnf)) | (refine And.intro ?_ (fun (hc0 : _ = 0) => ?_) <;> (conv => whnf)) | (refine bif2_ble (fun h => ?_) (fun h => ?_) <;> (conv => whnf)) | (refine bif2_dec (fun h => ?_) (fun h => ?_) <;> (conv => whnf)) | (refine bif2_beq (fun h => ?_) (fun h => ?_) <;> (conv => whnf)) | (refine bif2_bne (fun h => ?_) (fun h => ?_) <;> (conv => whnf)) | (refine bif2_split (fun h => ?_) (fun h => ?_) <;> (conv => whnf)))
  obtain rfl := sorted_perm (hA.trans hS.symm) hAs hso
  exact Fin.mk [.own (flatR encI (idsT A ++ jk)) A.length (idsT A ++ jk).length 3] (some (shR a b c s)) [_] [500] rfl (.own rfl rfl (flatR_clean encI_clean _) .nil) (pack_abs rfl) ⟨⟨jk, rfl⟩, rfl⟩
set_option maxRecDepth 100000 in
set_option maxHeartbeats 40000000 in
theorem shPut_ct (a b c : Int) (s : List Th) (n : ND) (hs : s.length + 1 ≤ 1000000) : Ct Try.prog 44 (some (shR a b c s)) [.v (ndV n)] (fun rs R' => rs = [.v (.bool (tkN a b c n))] ∧ R' = some (shR a b c (if tkN a b c n then ⟨n.id, n.ld, n.id, 0⟩ :: dropT n.id s else dropT n.id s))) := by
  refine Ct.of_body tt_ok mixed Try.func44 rfl (Nat.le_of_ble_eq_true rfl) ?_
  intro w q F hrec
  obtain ⟨h1, h2, h3⟩ := hrec
  rcases h1 with ⟨hs0, h1⟩ | h1
  · subst hs0
    obtain ⟨f, hu⟩ := unp_heap0C (R := shR a b c []) (rest := need3 a b c) rfl h1 h2 h3
    refine ⟨f, _, hu, ?_⟩
    clear hu h1 h2 h3
    cases htk : tkN a b c n with
    | false =>
      have htk' := htk
      unfold tkN at htk'
      (conv => whnf)
      repeat' (first | (refine CallG.val (takes_s _ _ _ _ _ _ _ _ _ _ _ _ _) pl62 rfl (Nat.zero_le _) ?_; (conv => whnf)) | (refine CallG.val (nodeKey_s _ _ _ _ _ _ _ _ _ _) pl63 rfl (Nat.zero_le _) ?_; (conv => whnf)) | ((refine CallG.pack (drop_ct tSh (need3 a b c) [] n.id (by simp)) pl13 true [500] rfl rfl (fun g w b hs hb => Or.inl ⟨rfl, pack_zeroC rfl rfl rfl g w b hs hb⟩) (.cons (.v rfl) .nil) ?_; rintro _ _ ⟨rfl, hR⟩; cases hR; refine And.intro (fun _ => rfl) ?_); (conv => whnf)) | (refine @And.intro (chkAll _ = true) _ ?_ ?_; (· kernel_rfl); (conv => whnf)) | (refine JoinG.direct ?_; (conv => whnf)) | (refine AppG.mk ?_; (conv => whnf)) | (refine both_intro ?_ ?_ <;> (conv => whnf)) | (exact VR.int _ _) | (exact VR.bool _) | (refine VR.ptr ?_; kernel_rfl) | (refine VR.slice ?_; kernel_rfl) | (exact VR.sliceN _ _) | (refine VR.map ?_; kernel_rfl) | (exact VR.clean _ rfl) | (refine VR.aggOf ?_) | (exact OR.win (flatR_clean (fun _ => rfl) _)) | (exact OR.clean rfl (flatR_clean (fun _ => rfl) _)) | (refine OR.cellsOf ?_) | (exact AR.same _ rfl) | (refine AR.consOf ?_ ?_) | (exact trivial) | (exact VR.sliceZ _ _ _) | (refine GR.rw ?_) | (refine GR.ro ?_) | (exact GR.abs rfl) | (exact idle_rw _) | (exact idle_ro _) | (refine VR.intOf ?_; (· first | rfl | (simp only [IntKind.wrap_i64]; omega) | (simp; done) | (simp; omega))) |  (refine And.intro ?_ ?_; (· (first | decide | omega | (simp only [IntKind.wrap_i64]; omega) | (simp only [List.length_append]; omega) | (simp only [IntKind.wrap_i64, List.length_append]; omega) | (simp only [IntKind.wrap_i64, List.length_append, Int.natCast_add]; omega) | exact keepP_same _ _ _ | (repeat (first | exact trivial | refine And.intro rfl ?_)))); (conv => whnf)) | (refine fun (nc : Nat) (hnc : _ ≤ nc) => ?_; (conv => whnf)) | (refine bif2_true ?_ ?_; (· assumption); (conv => whnf)) | (refine bif2_false ?_ ?_; (· assumption); (conv => whnf)) | (refine bif2_true ?_ ?_; (· first | assumption | (refine decide_eq_true ?_; omega) | (refine decide_eq_false ?_; omega) | (refine beq_t ?_; omega) | (refine beq_f ?_; omega) | (refine bne_t ?_; omega) | (refine bne_f ?_; omega) | (refine ble_t ?_; omega) | (refine ble_f ?_; omega) | (simp [*]; done)); (conv => whnf)) | (refine bif2_false ?_ ?_; (· first | assumption | (refine decide_eq_true ?_; omega) | (refine decide_eq_false ?_; omega) | (refine beq_t ?_; omega) | (refine beq_f ?_; omega) | (refine bne_t ?_; omega) | (refine bne_f ?_; omega) | (refine ble_t ?_; omega) | (refine ble_f ?_; omega) | (simp [*]; done)); (conv => whnf)) | (refine bif2_not ?_; (conv => whnf)) | (refine amb_no ?_ ?_; (· first | exact Nat.succ_ne_zero _ | omega); (conv => whnf)) | (refine And.intro ?_ (fun (hc0 : _ = 0) => ?_) <;> (conv => whnf)) | (refine bif2_ble (fun h => ?_) (fun h => ?_) <;> (conv => whnf)) | (refine bif2_dec (fun h => ?_) (fun h => ?_) <;> (conv => whnf)) | (refine bif2_beq (fun h => ?_) (fun h => ?_) <;> (conv => whnf)) | (refine bif2_bne (fun h => ?_) (fun h => ?_) <;> (conv => whnf)) | (refine bif2_split (fun h => ?_) (fun h => ?_) <;> (conv => whnf)))
      all_goals exact Fin.mk [.v (.bool _)] (some (shR a b c _)) [.bool _] [500] rfl (.plain (.cons (.v rfl) .nil)) (pack_abs rfl) ⟨rfl, rfl⟩
    | true =>
      have htk' := htk
      unfold tkN at htk'
      (conv => whnf)
      repeat' (first | (refine CallG.val (takes_s _ _ _ _ _ _ _ _ _ _ _ _ _) pl62 rfl (Nat.zero_le _) ?_; (conv => whnf)) | (refine CallG.val (nodeKey_s _ _ _ _ _ _ _ _ _ _) pl63 rfl (Nat.zero_le _) ?_; (conv => whnf)) | ((refine CallG.pack (put_ct tSh (need3 a b c) [] n.id n.ld n.id 0 (by simp)) pl12 true [500] rfl rfl (fun g w b hs hb => Or.inl ⟨rfl, pack_zeroC rfl rfl rfl g w b hs hb⟩) (.cons (.v rfl) (.cons (.v rfl) .nil)) ?_; rintro _ _ ⟨rfl, hR⟩; cases hR; refine And.intro (fun _ => rfl) ?_); (conv => whnf)) | (refine @And.intro (chkAll _ = true) _ ?_ ?_; (· kernel_rfl); (conv => whnf)) | (refine JoinG.direct ?_; (conv => whnf)) | (refine AppG.mk ?_; (conv => whnf)) | (refine both_intro ?_ ?_ <;> (conv => whnf)) | (exact VR.int _ _) | (exact VR.bool _) | (refine VR.ptr ?_; kernel_rfl) | (refine VR.slice ?_; kernel_rfl) | (exact VR.sliceN _ _) | (refine VR.map ?_; kernel_rfl) | (exact VR.clean _ rfl) | (refine VR.aggOf ?_) | (exact OR.win (flatR_clean (fun _ => rfl) _)) | (exact OR.clean rfl (flatR_clean (fun _ => rfl) _)) | (refine OR.cellsOf ?_) | (exact AR.same _ rfl) | (refine AR.consOf ?_ ?_) | (exact trivial) | (exact VR.sliceZ _ _ _) | (refine GR.rw ?_) | (refine GR.ro ?_) | (exact GR.abs rfl) | (exact idle_rw _) | (exact idle_ro _) | (refine VR.intOf ?_; (· first | rfl | (simp only [IntKind.wrap_i64]; omega) | (simp; done) | (simp; omega))) |  (refine And.intro ?_ ?_; (· (first | decide | omega | (simp only [IntKind.wrap_i64]; omega) | (simp only [List.length_append]; omega) | (simp only [IntKind.wrap_i64, List.length_append]; omega) | (simp only [IntKind.wrap_i64, List.length_append, Int.natCast_add]; omega) | exact keepP_same _ _ _ | (repeat (first | exact trivial | refine And.intro rfl ?_)))); (conv => whnf)) | (refine fun (nc : Nat) (hnc : _ ≤ nc) => ?_; (conv => whnf)) | (refine bif2_true ?_ ?_; (· assumption); (conv => whnf)) | (refine bif2_false ?_ ?_; (· assumption); (conv => whnf)) | (refine bif2_true ?_ ?_; (· first | assumption | (refine decide_eq_true ?_; omega) | (refine decide_eq_false ?_; omega) | (refine beq_t ?_; omega) | (refine beq_f ?_; omega) | (refine bne_t ?_; omega) | (refine bne_f ?_; omega) | (refine ble_t ?_; omega) | (refine ble_f ?_; omega) | (simp [*]; done)); (conv => whnf)) | (refine bif2_false ?_ ?_; (· first | assumption | (refine decide_eq_true ?_; omega) | (refine decide_eq_false ?_; omega) | (refine beq_t ?_; omega) | (refine beq_f ?_; omega) | (refine bne_t ?_; omega) | (refine bne_f ?_; omega) | (refine ble_t ?_; omega) | (refine ble_f ?_; omega) | (simp [*]; done)); (conv => whnf)) | (refine bif2_not ?_; (conv => whnf)) | (refine amb_no ?_ ?_; (· first | exact Nat.succ_ne_zero _ | omega); (conv => whnf)) | (refine And.intro ?_ (fun (hc0 : _ = 0) => ?_) <;> (conv => whnf)) | (refine bif2_ble (fun h => ?_) (fun h => ?_) <;> (conv => whnf)) | (refine bif2_dec (fun h => ?_) (fun h => ?_) <;> (conv => whnf)) | (refine bif2_beq (fun h => ?_) (fun h => ?_) <;> (conv => whnf)) | (refine bif2_bne (fun h => ?_) (fun h => ?_) <;> (conv => whnf)) | (refine bif2_split (fun h => ?_) (fun h => ?_) <;> (conv => whnf)))
      all_goals exact Fin.mk [.v (.bool _)] (some (shR a b c _)) [.bool _] [500] rfl (.plain (.cons (.v rfl) .nil)) (pack_abs rfl) ⟨rfl, rfl⟩
  · obtain ⟨f, L, n1, M, ck, hL, H, hu⟩ := unp_heapC (R := shR a b c s) (rest := need3 a b c) rfl h1 h2 h3
    refine ⟨f, _, hu, ?_⟩
    clear hu h1 h2 h3
    cases htk : tkN a b c n with
    | false =>
      have htk' := htk
      unfold tkN at htk'
      (conv => whnf)
      repeat' (first | (refine CallG.val (takes_s _ _ _ _ _ _ _ _ _ _ _ _ _) pl62 rfl (Nat.zero_le _) ?_; (conv => whnf)) | (refine CallG.val (nodeKey_s _ _ _ _ _ _ _ _ _ _) pl63 rfl (Nat.zero_le _) ?_; (conv => whnf)) | ((refine CallG.pack (drop_ct tSh (need3 a b c) s n.id (by omega)) pl13 true [500, 501, 502] rfl rfl (fun g w b hs hb => Or.inr (pack_heapC rfl rfl rfl rfl rfl rfl hL H g w b hs hb)) (.cons (.v rfl) .nil) ?_; rintro _ _ ⟨rfl, hR⟩; cases hR; refine And.intro (fun _ => rfl) ?_); (conv => whnf)) | (refine @And.intro (chkAll _ = true) _ ?_ ?_; (· kernel_rfl); (conv => whnf)) | (refine JoinG.direct ?_; (conv => whnf)) | (refine AppG.mk ?_; (conv => whnf)) | (refine both_intro ?_ ?_ <;> (conv => whnf)) | (exact VR.int _ _) | (exact VR.bool _) | (refine VR.ptr ?_; kernel_rfl) | (refine VR.slice ?_; kernel_rfl) | (exact VR.sliceN _ _) | (refine VR.map ?_; kernel_rfl) | (exact VR.clean _ rfl) | (refine VR.aggOf ?_) | (exact OR.win (flatR_clean (fun _ => rfl) _)) | (exact OR.clean rfl (flatR_clean (fun _ => rfl) _)) | (refine OR.cellsOf ?_) | (exact AR.same _ rfl) | (refine AR.consOf ?_ ?_) | (exact trivial) | (exact VR.sliceZ _ _ _) | (refine GR.rw ?_) | (refine GR.ro ?_) | (exact GR.abs rfl) | (exact idle_rw _) | (exact idle_ro _) | (refine VR.intOf ?_; (· first | rfl | (simp only [IntKind.wrap_i64]; omega) | (simp; done) | (simp; omega))) |  (refine And.intro ?_ ?_; (· (first | decide | omega | (simp only [IntKind.wrap_i64]; omega) | (simp only [List.length_append]; omega) | (simp only [IntKind.wrap_i64, List.length_append]; omega) | (simp only [IntKind.wrap_i64, List.length_append, Int.natCast_add]; omega) | exact keepP_same _ _ _ | (repeat (first | exact trivial | refine And.intro rfl ?_)))); (conv => whnf)) | (refine fun (nc : Nat) (hnc : _ ≤ nc) => ?_; (conv => whnf)) | (refine bif2_true ?_ ?_; (· assumption); (conv => whnf)) | (refine bif2_false ?_ ?_; (· assumption); (conv => whnf)) | (refine bif2_true ?_ ?_; (· first | assumption | (refine decide_eq_true ?_; omega) | (refine decide_eq_false ?_; omega) | (refine beq_t ?_; omega) | (refine beq_f ?_; omega) | (refine bne_t ?_; omega) | (refine bne_f ?_; omega) | (refine ble_t ?_; omega) | (refine ble_f ?_; omega) | (simp [*]; done)); (conv => whnf)) | (refine bif2_false ?_ ?_; (· first | assumption | (refine decide_eq_true ?_; omega) | (refine decide_eq_false ?_; omega) | (refine beq_t ?_; omega) | (refine beq_f ?_; omega) | (refine bne_t ?_; omega) | (refine bne_f ?_; omega) | (refine ble_t ?_; omega) | (refine ble_f ?_; omega) | (simp [*]; done)); (conv => whnf)) | (refine bif2_not ?_; (conv => whnf)) | (refine amb_no ?_ ?_; (· first | exact Nat.succ_ne_zero _ | omega); (conv => whnf)) | (refine And.intro ?_ (fun (hc0 : _ = 0) => ?_) <;> (conv => whnf)) | (refine bif2_ble (fun h => ?_) (fun h => ?_) <;> (conv => whnf)) | (refine bif2_dec (fun h => ?_) (fun h => ?_) <;> (conv => whnf)) | (refine bif2_beq (fun h => ?_) (fun h => ?_) <;> (conv => whnf)) | (refine bif2_bne (fun h => ?_) (fun h => ?_) <;> (conv => whnf)) | (refine bif2_split (fun h => ?_) (fun h => ?_) <;> (conv => whnf)))
      all_goals exact Fin.mk [.v (.bool _)] (some (shR a b c _)) [.bool _] [500] rfl (.plain (.cons (.v rfl) .nil)) (pack_abs rfl) ⟨rfl, rfl⟩
    | true =>
      have htk' := htk
      unfold tkN at htk'
      (conv => whnf)
      repeat' (first | (refine CallG.val (takes_s _ _ _ _ _ _ _ _ _ _ _ _ _) pl62 rfl (Nat.zero_le _) ?_; (conv => whnf)) | (refine CallG.val (nodeKey_s _ _ _ _ _ _ _ _ _ _) pl63 rfl (Nat.zero_le _) ?_; (conv => whnf)) | ((refine CallG.pack (put_ct tSh (need3 a b c) s n.id n.ld n.id 0 (by omega)) pl12 true [500, 501, 502] rfl rfl (fun g w b hs hb => Or.inr (pack_heapC rfl rfl rfl rfl rfl rfl hL H g w b hs hb)) (.cons (.v rfl) (.cons (.v rfl) .nil)) ?_; rintro _ _ ⟨rfl, hR⟩; cases hR; refine And.intro (fun _ => rfl) ?_); (conv => whnf)) | (refine @And.intro (chkAll _ = true) _ ?_ ?_; (· kernel_rfl); (conv => whnf)) | (refine JoinG.direct ?_; (conv => whnf)) | (refine AppG.mk ?_; (conv => whnf)) | (refine both_intro ?_ ?_ <;> (conv => whnf)) | (exact VR.int _ _) | (exact VR.bool _) | (refine VR.ptr ?_; kernel_rfl) | (refine VR.slice ?_; kernel_rfl) | (exact VR.sliceN _ _) | (refine VR.map ?_; kernel_rfl) | (exact VR.clean _ rfl) | (refine VR.aggOf ?_) | (exact OR.win (flatR_clean (fun _ => rfl) _)) | (exact OR.clean rfl (flatR_clean (fun _ => rfl) _)) | (refine OR.cellsOf ?_) | (exact AR.same _ rfl) | (refine AR.consOf ?_ ?_) | (exact trivial) | (exact VR.sliceZ _ _ _) | (refine GR.rw ?_) | (refine GR.ro ?_) | (exact GR.abs rfl) | (exact idle_rw _) | (exact idle_ro _) | (refine VR.intOf ?_; (· first | rfl | (simp only [IntKind.wrap_i64]; omega) | (simp; done) | (simp; omega))) |  (refine And.intro ?_ ?_; (· (first | decide | omega | (simp only [IntKind.wrap_i64]; omega) | (simp only [List.length_append]; omega) | (simp only [IntKind.wrap_i64, List.length_append]; omega) | (simp only [IntKind.wrap_i64, List.length_append, Int.natCast_add]; omega) | exact keepP_same _ _ _ | (repeat (first | exact trivial | refine And.intro rfl ?_)))); (conv => whnf)) | (refine fun (nc : Nat) (hnc : _ ≤ nc) => ?_; (conv => whnf)) | (refine bif2_true ?_ ?_; (· assumption); (conv => whnf)) | (refine bif2_false ?_ ?_; (· assumption); (conv => whnf)) | (refine bif2_true ?_ ?_; (· first | assumption | (refine decide_eq_true ?_; omega) | (refine decide_eq_false ?_; omega) | (refine beq_t ?_; omega) | (refine beq_f ?_; omega) | (refine bne_t ?_; omega) | (refine bne_f ?_; omega) | (refine ble_t ?_; omega) | (refine ble_f ?_; omega) | (simp [*]; done)); (conv => whnf)) | (refine bif2_false ?_ ?_; (· first | assumption | (refine decide_eq_true ?_; omega) | (refine decide_eq_false ?_; omega) | (refine beq_t ?_; omega) | (refine beq_f ?_; omega) | (refine bne_t ?_; omega) | (refine bne_f ?_; omega) | (refine ble_t ?_; omega) | (refine ble_f ?_; omega) | (simp [*]; done)); (conv => whnf)) | (refine bif2_not ?_; (conv => whnf)) | (refine amb_no ?_ ?_; (· first | exact Nat.succ_ne_zero _ | omega); (conv => whnf)) | (refine And.intro ?_ (fun (hc0 : _ = 0) => ?_) <;> (conv => whnf)) | (refine bif2_ble (fun h => ?_) (fun h => ?_) <;> (conv => whnf)) | (refine bif2_dec (fun h => ?_) (fun h => ?_) <;> (conv => whnf)) | (refine bif2_beq (fun h => ?_) (fun h => ?_) <;> (conv => whnf)) | (refine bif2_bne (fun h => ?_) (fun h => ?_) <;> (conv => whnf)) | (refine bif2_split (fun h => ?_) (fun h => ?_) <;> (conv => whnf)))
      all_goals exact Fin.mk [.v (.bool _)] (some (shR a b c _)) [.bool _] [500] rfl (.plain (.cons (.v rfl) .nil)) (pack_abs rfl) ⟨rfl, rfl⟩
end Go.Proofs.Ytdligbcmhjhkfaa

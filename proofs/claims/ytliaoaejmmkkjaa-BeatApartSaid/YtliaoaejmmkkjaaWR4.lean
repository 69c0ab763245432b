/- A wheel: what must come. -/
import Derived.Test.YtliaoaejmmkkjaaWR3

namespace Go.Proofs.Ytliaoaejmmkkjaa
open Go.RowKit
abbrev wR (T : List Tm) : ARes := WheelR 29 [] T
theorem same_eq (a b : List Int) {na nb : Nat} (ha : na = a.length) (hb : nb = b.length) (h : na ≤ 1000000) (e : a = b) : Ct Try.prog 16 none [.rows (flatR encI a) na, .rows (flatR encI b) nb] (fun rs _ => rs = [.v (.bool true)]) := by
  subst ha; subst hb
  refine (same_ct a b h).mono ?_
  rintro rs R rfl
  rw [decide_eq_true e]
theorem due_as (t : TypeId) (rest : List Value) {T A : List Tm} {now : Int} (hl : T.length ≤ 1000) (hn : (T.map (·.1)).Nodup) (hA : A.Perm (dueF now T)) (hs : A.Pairwise leTm) : Ct Try.prog 17 (some (WheelR t rest T)) [.v (i64 now)]
    (fun rs R' => (∃ jk : List Int, rs = [.own (flatR encI (idsF A ++ jk)) A.length (idsF A ++ jk).length 3]) ∧ R' = some (WheelR t rest (leftF now T))) := by
  refine (due_ct t rest T now hl hn).mono ?_
  rintro rs R' ⟨B, jk, h1, h2, h3, h4⟩
  obtain rfl := sorted_permTm (h1.trans hA.symm) h2 hs
  exact ⟨⟨jk, by rw [h3, idsF_len]⟩, h4⟩
theorem set_in (t : TypeId) (rest : List Value) {T : List Tm} {id v : Int} (h : rightB v 0 1099511627776 = true) : Ct Try.prog 11 (some (WheelR t rest T)) [.v (i64 id), .v (i64 v)]
    (fun rs R' => rs = [.v (.bool true)] ∧ R' = some (WheelR t rest (setT id v T))) := by
  have := set_ct t rest T id v
  rw [h] at this; simpa using this
theorem set_out (t : TypeId) (rest : List Value) {T : List Tm} {id v : Int} (h : rightB v 0 1099511627776 = false) : Ct Try.prog 11 (some (WheelR t rest T)) [.v (i64 id), .v (i64 v)]
    (fun rs R' => rs = [.v (.bool false)] ∧ R' = some (WheelR t rest T)) := by
  have := set_ct t rest T id v
  rw [h] at this; simpa using this
abbrev w1 : List Tm := [(5, 20)]
abbrev w2 : List Tm := [(5, 20), (3, 4)]
abbrev w3 : List Tm := [(5, 20), (3, 4), (9, 4)]
theorem aw1 : Ct Try.prog 11 (some (wR [])) [.v (i64 5), .v (i64 20)] (fun rs R' => rs = [.v (.bool true)] ∧ R' = some (wR w1)) := set_in 29 [] (T := []) (id := 5) (v := 20) (by decide)
theorem aw2 : Ct Try.prog 11 (some (wR w1)) [.v (i64 3), .v (i64 4)] (fun rs R' => rs = [.v (.bool true)] ∧ R' = some (wR w2)) := set_in 29 [] (T := w1) (id := 3) (v := 4) (by decide)
theorem aw3 : Ct Try.prog 11 (some (wR w2)) [.v (i64 9), .v (i64 4)] (fun rs R' => rs = [.v (.bool true)] ∧ R' = some (wR w3)) := set_in 29 [] (T := w2) (id := 9) (v := 4) (by decide)
theorem aw4 : Ct Try.prog 11 (some (wR w3)) [.v (i64 1), .v (i64 (-1))] (fun rs R' => rs = [.v (.bool false)] ∧ R' = some (wR w3)) := set_out 29 [] (T := w3) (id := 1) (v := -1) (by decide)
theorem aw5 : Ct Try.prog 19 (some (wR w3)) [] (fun rs R' => rs = [.v (i64 4), .v (.bool true)] ∧ R' = some (wR w3)) := next_ct 29 [] w3 (by decide) (by decide)
theorem aw6 : Ct Try.prog 17 (some (wR w3)) [.v (i64 4)] (fun rs R' => (∃ jk : List Int, rs = [.own (flatR encI ([3, 9] ++ jk)) 2 ([3, 9] ++ jk).length 3]) ∧ R' = some (wR w1)) :=
  due_as 29 [] (T := w3) (A := [(3, 4), (9, 4)]) (now := 4) (by decide) (by decide) (.refl _) (by refine .cons ?_ (.cons ?_ .nil) <;> (intro y hy; simp at hy); subst hy; rfl)
theorem aw7 : Ct Try.prog 17 (some (wR w1)) [.v (i64 19)] (fun rs R' => (∃ jk : List Int, rs = [.own (flatR encI ([] ++ jk)) 0 ([] ++ jk).length 3]) ∧ R' = some (wR w1)) :=
  due_as 29 [] (T := w1) (A := []) (now := 19) (by decide) (by decide) (.refl _) .nil
theorem aw8 : Ct Try.prog 17 (some (wR w1)) [.v (i64 99)] (fun rs R' => (∃ jk : List Int, rs = [.own (flatR encI ([5] ++ jk)) 1 ([5] ++ jk).length 3]) ∧ R' = some (wR [])) :=
  due_as 29 [] (T := w1) (A := [(5, 20)]) (now := 99) (by decide) (by decide) (.refl _) (.cons (fun y hy => by cases hy) .nil)
theorem aw9 : Ct Try.prog 20 (some (wR [])) [] (fun rs R' => rs = [.v (i64 0)] ∧ R' = some (wR [])) := len_ct 29 [] []
set_option maxRecDepth 100000 in
set_option maxHeartbeats 40000000 in
theorem awake13_s : Pure Try.prog 0 8 [] (fun v => v = .bool true) := by
  refine Pure.body tt_ok mixed Try.func8 rfl (Nat.le_of_ble_eq_true rfl) ?_
  (conv => whnf)
  repeat' (first | ((refine CallG.fn new_ct pl9 true .nil ?_; rintro _ ⟨rfl, _⟩; refine And.intro (fun _ => rfl) ?_); (conv => whnf)) | ((refine CallG.methP (aw1) pl11 true rfl rfl (.cons (.v rfl) (.cons (.v rfl) .nil)) ?_; rintro _ _ ⟨rfl, hR⟩; cases hR; refine And.intro (fun _ => rfl) ?_); (conv => whnf)) | ((refine CallG.methP (aw2) pl11 true rfl rfl (.cons (.v rfl) (.cons (.v rfl) .nil)) ?_; rintro _ _ ⟨rfl, hR⟩; cases hR; refine And.intro (fun _ => rfl) ?_); (conv => whnf)) | ((refine CallG.methP (aw3) pl11 true rfl rfl (.cons (.v rfl) (.cons (.v rfl) .nil)) ?_; rintro _ _ ⟨rfl, hR⟩; cases hR; refine And.intro (fun _ => rfl) ?_); (conv => whnf)) | ((refine CallG.methP (aw4) pl11 true rfl rfl (.cons (.v rfl) (.cons (.v rfl) .nil)) ?_; rintro _ _ ⟨rfl, hR⟩; cases hR; refine And.intro (fun _ => rfl) ?_); (conv => whnf)) | ((refine CallG.methP (aw5) pl19 true rfl rfl .nil ?_; rintro _ _ ⟨rfl, hR⟩; cases hR; refine And.intro (fun _ => rfl) ?_); (conv => whnf)) | ((refine CallG.methP (aw6) pl17 true rfl rfl (.cons (.v rfl) .nil) ?_; rintro _ _ ⟨⟨jk, rfl⟩, hR⟩; cases hR; refine And.intro (fun _ => rfl) ?_); (conv => whnf)) | ((refine CallG.methP (aw7) pl17 true rfl rfl (.cons (.v rfl) .nil) ?_; rintro _ _ ⟨⟨jk, rfl⟩, hR⟩; cases hR; refine And.intro (fun _ => rfl) ?_); (conv => whnf)) | ((refine CallG.methP (aw8) pl17 true rfl rfl (.cons (.v rfl) .nil) ?_; rintro _ _ ⟨⟨jk, rfl⟩, hR⟩; cases hR; refine And.intro (fun _ => rfl) ?_); (conv => whnf)) | ((refine CallG.methP (aw9) pl20 true rfl rfl .nil ?_; rintro _ _ ⟨rfl, hR⟩; cases hR; refine And.intro (fun _ => rfl) ?_); (conv => whnf)) | ((refine CallG.fn (same_eq [3, 9] [3, 9] rfl rfl (by decide) rfl) pl16 true (.cons (GA.own (A := [3, 9]) encI_len encI_clean rfl (by simp)) (.cons (GA.own (A := [3, 9]) (jk := []) encI_len encI_clean rfl (by decide)) .nil)) ?_; rintro _ rfl; refine And.intro (fun _ => rfl) ?_); (conv => whnf)) | ((refine CallG.fn (same_eq [5] [5] rfl rfl (by decide) rfl) pl16 true (.cons (GA.own (A := [5]) encI_len encI_clean rfl (by simp)) (.cons (GA.own (A := [5]) (jk := []) encI_len encI_clean rfl (by decide)) .nil)) ?_; rintro _ rfl; refine And.intro (fun _ => rfl) ?_); (conv => whnf)) | (refine @And.intro (chkAll _ = true) _ ?_ ?_; (· kernel_rfl); (conv => whnf)) | (refine JoinG.direct ?_; (conv => whnf)) | (refine AppG.mk ?_; (conv => whnf)) | (refine both_intro ?_ ?_ <;> (conv => whnf)) | (exact VR.int _ _) | (exact VR.bool _) | (refine VR.ptr ?_; kernel_rfl) | (refine VR.slice ?_; kernel_rfl) | (exact VR.sliceN _ _) | (refine VR.map ?_; kernel_rfl) | (exact VR.clean _ rfl) | (refine VR.aggOf ?_) | (exact OR.win (flatR_clean (fun _ => rfl) _)) | (exact OR.clean rfl (flatR_clean (fun _ => rfl) _)) | (refine OR.cellsOf ?_) | (exact AR.same _ rfl) | (refine AR.consOf ?_ ?_) | (exact trivial) | (exact VR.sliceZ _ _ _) | (refine GR.rw ?_) | (refine GR.ro ?_) | (exact GR.abs rfl) | (exact idle_rw _) | (exact idle_ro _) | (refine VR.intOf ?_; (· first | rfl | (simp only [IntKind.wrap_i64]; omega) | (simp; done) | (simp; omega))) |  (refine And.intro ?_ ?_; (· (first | decide | omega | (simp only [IntKind.wrap_i64]; omega) | (simp only [List.length_append]; omega) | (simp only [IntKind.wrap_i64, List.length_append]; omega) | (simp only [IntKind.wrap_i64, List.length_append, Int.natCast_add]; omega) | exact keepP_same _ _ _ | (repeat (first | exact trivial | refine And.intro rfl ?_)))); (conv => whnf)) | (refine fun (nc : Nat) (hnc : _ ≤ nc) => ?_; (conv => whnf)) | (refine bif2_true ?_ ?_; (· assumption); (conv => whnf)) | (refine bif2_false ?_ ?_; (· assumption); (conv => whnf)) | (refine bif2_true ?_ ?_; (· first | assumption | (refine decide_eq_true ?_; omega) | (refine decide_eq_false ?_; omega) | (refine beq_t ?_; omega) | (refine beq_f ?_; omega) | (refine bne_t ?_; omega) | (refine bne_f ?_; omega) | (refine ble_t ?_; omega) | (refine ble_f ?_; omega) | (simp [*]; done)); (conv => whnf)) | (refine bif2_false ?_ ?_; (· first | assumption | (refine decide_eq_true ?_; omega) | (refine decide_eq_false ?_; omega) | (refine beq_t ?_; omega) | (refine beq_f ?_; omega) | (refine bne_t ?_; omega) | (refine bne_f ?_; omega) | (refine ble_t ?_; omega) | (refine ble_f ?_; omega) | (simp [*]; done)); (conv => whnf)) | (refine bif2_not ?_; (conv => whnf)) | (refine amb_no ?_ ?_; (· first | exact Nat.succ_ne_zero _ | omega); (conv => whnf)) | (refine And.intro ?_ (fun (hc0 : _ = 0) => ?_) <;> (conv => whnf)) | (refine bif2_ble (fun h => ?_) (fun h => ?_) <;> (conv => whnf)) | (refine bif2_dec (fun h => ?_) (fun h => ?_) <;> (conv => whnf)) | (refine bif2_beq (fun h => ?_) (fun h => ?_) <;> (conv => whnf)) | (refine bif2_bne (fun h => ?_) (fun h => ?_) <;> (conv => whnf)) | (refine bif2_split (fun h => ?_) (fun h => ?_) <;> (conv => whnf)))
  exact ⟨rfl, rfl⟩
end Go.Proofs.Ytliaoaejmmkkjaa

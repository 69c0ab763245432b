/- A shelf: what the document says, and what must come. -/
import Derived.Test.YtdligbcmhjhkfaaSB1

namespace Go.Proofs.Ytdligbcmhjhkfaa
open Go.RowKit
abbrev n1 : ND := ⟨1, 0, 2, 3, 0, 0, 0, 0, 0, true⟩
abbrev n2 : ND := ⟨2, 0, 1, 2, 0, 0, 0, 0, 0, true⟩
abbrev n3 : ND := ⟨3, 0, 0, 1, 0, 0, 0, 0, 0, true⟩
abbrev sa : List Th := [⟨1, 2, 1, 0⟩]
abbrev sb : List Th := [⟨2, 1, 2, 0⟩, ⟨1, 2, 1, 0⟩]
theorem sw1 : Ct Try.prog 44 (some (shR 2 0 0 [])) [.v (ndV n1)] (fun rs R' => rs = [.v (.bool true)] ∧ R' = some (shR 2 0 0 sa)) := shPut_ct 2 0 0 [] n1 (by decide)
theorem sw2 : Ct Try.prog 44 (some (shR 2 0 0 sa)) [.v (ndV n2)] (fun rs R' => rs = [.v (.bool true)] ∧ R' = some (shR 2 0 0 sb)) := shPut_ct 2 0 0 sa n2 (by decide)
theorem sw3 : Ct Try.prog 44 (some (shR 2 0 0 sb)) [.v (ndV n3)] (fun rs R' => rs = [.v (.bool false)] ∧ R' = some (shR 2 0 0 sb)) := shPut_ct 2 0 0 sb n3 (by decide)
theorem sw4 : Ct Try.prog 46 (some (shR 2 0 0 sb)) [] (fun rs R' => rs = [.v (i64 2), .v (.bool true)] ∧ R' = some (shR 2 0 0 sb)) := by
  refine (shBest_ct 2 0 0 sb).mono ?_
  rintro rs R' ⟨⟨h, _⟩ | ⟨m, hm, hmin, h⟩, hR⟩
  · cases h
  · have : m = ⟨2, 1, 2, 0⟩ := le_antisymm_id (hmin _ (by simp)) (by simp at hm; rcases hm with rfl | rfl <;> rfl)
    subst this
    exact ⟨h, hR⟩
theorem sw5 : Ct Try.prog 48 (some (shR 2 0 0 sb)) [] (fun rs R' => (∃ jk : List Int, rs = [.own (flatR encI ([2, 1] ++ jk)) 2 ([2, 1] ++ jk).length 3]) ∧ R' = some (shR 2 0 0 sb)) :=
  shNodes_ct 2 0 0 sb sb (by decide) (.refl _) (by refine .cons ?_ (.cons ?_ .nil) <;> (intro y hy; simp at hy); subst hy; rfl)
theorem sw6 : Ct Try.prog 16 none [.rows (flatR encI [2, 1]) 2, .rows (flatR encI [2, 1]) 2] (fun rs _ => rs = [.v (.bool true)]) := same_ct [2, 1] [2, 1] (by decide)
theorem sw7 : Ct Try.prog 47 (some (shR 2 0 0 sb)) [.v (i64 1)] (fun rs R' => rs = [.v (.bool true)] ∧ R' = some (shR 2 0 0 sb)) := shHas_ct 2 0 0 sb 1
theorem sw8 : Ct Try.prog 47 (some (shR 2 0 0 sb)) [.v (i64 3)] (fun rs R' => rs = [.v (.bool false)] ∧ R' = some (shR 2 0 0 sb)) := shHas_ct 2 0 0 sb 3
set_option maxRecDepth 100000 in
set_option maxHeartbeats 40000000 in
theorem awake31_s : Pure Try.prog 0 41 [] (fun v => v = .bool true) := by
  refine Pure.body tt_ok mixed Try.func41 rfl (Nat.le_of_ble_eq_true rfl) ?_
  (conv => whnf)
  repeat' (first | ((refine CallG.fn (shNew_ct 2 0 0) pl42 true (.cons (.v rfl) .nil) ?_; rintro _ rfl; refine And.intro (fun _ => rfl) ?_); (conv => whnf)) | ((refine CallG.methP (sw1) pl44 true rfl rfl (.cons (.v rfl) .nil) ?_; rintro _ _ ⟨rfl, hR⟩; cases hR; refine And.intro (fun _ => rfl) ?_); (conv => whnf)) | ((refine CallG.methP (sw2) pl44 true rfl rfl (.cons (.v rfl) .nil) ?_; rintro _ _ ⟨rfl, hR⟩; cases hR; refine And.intro (fun _ => rfl) ?_); (conv => whnf)) | ((refine CallG.methP (sw3) pl44 true rfl rfl (.cons (.v rfl) .nil) ?_; rintro _ _ ⟨rfl, hR⟩; cases hR; refine And.intro (fun _ => rfl) ?_); (conv => whnf)) | ((refine CallG.methP (sw4) pl46 true rfl rfl .nil ?_; rintro _ _ ⟨rfl, hR⟩; cases hR; refine And.intro (fun _ => rfl) ?_); (conv => whnf)) | ((refine CallG.methP (sw5) pl48 true rfl rfl .nil ?_; rintro _ _ ⟨⟨jk, rfl⟩, hR⟩; cases hR; refine And.intro (fun _ => rfl) ?_); (conv => whnf)) | ((refine CallG.methP (sw7) pl47 true rfl rfl (.cons (.v rfl) .nil) ?_; rintro _ _ ⟨rfl, hR⟩; cases hR; refine And.intro (fun _ => rfl) ?_); (conv => whnf)) | ((refine CallG.methP (sw8) pl47 true rfl rfl (.cons (.v rfl) .nil) ?_; rintro _ _ ⟨rfl, hR⟩; cases hR; refine And.intro (fun _ => rfl) ?_); (conv => whnf)) | ((refine CallG.methP (shNeed_ct 2 0 0 sb) pl49 true rfl rfl .nil ?_; rintro _ _ ⟨rfl, hR⟩; cases hR; refine And.intro (fun _ => rfl) ?_); (conv => whnf)) | ((refine CallG.fn (sw6) pl16 true (.cons (GA.own (A := [2, 1]) encI_len encI_clean rfl (by simp)) (.cons (GA.own (A := [2, 1]) (jk := []) encI_len encI_clean rfl (by decide)) .nil)) ?_; rintro _ rfl; refine And.intro (fun _ => rfl) ?_); (conv => whnf)) | (refine @And.intro (chkAll _ = true) _ ?_ ?_; (· kernel_rfl); (conv => whnf)) | (refine JoinG.direct ?_; (conv => whnf)) | (refine AppG.mk ?_; (conv => whnf)) | (refine both_intro ?_ ?_ <;> (conv => whnf)) | (exact VR.int _ _) | (exact VR.bool _) | (refine VR.ptr ?_; kernel_rfl) | (refine VR.slice ?_; kernel_rfl) | (exact VR.sliceN _ _) | (refine VR.map ?_; kernel_rfl) | (exact VR.clean _ rfl) | (refine VR.aggOf ?_) | (exact OR.win (flatR_clean (fun _ => rfl) _)) | (exact OR.clean rfl (flatR_clean (fun _ => rfl) _)) | (refine OR.cellsOf ?_) | (exact AR.same _ rfl) | (refine AR.consOf ?_ ?_) | (exact trivial) | (exact VR.sliceZ _ _ _) | (refine GR.rw ?_) | (refine GR.ro ?_) | (exact GR.abs rfl) | (exact idle_rw _) | (exact idle_ro _) | (refine VR.intOf ?_; (· first | rfl | (simp only [IntKind.wrap_i64]; omega) | (simp; done) | (simp; omega))) |  (refine And.intro ?_ ?_; (· (first | decide | omega | (rw [IntKind.wrap_i64]; omega) | exact keepP_same _ _ _ | (repeat (first | exact trivial | refine And.intro rfl ?_)))); (conv => whnf)) | (refine fun (nc : Nat) (hnc : _ ≤ nc) => ?_; (conv => whnf)) | (refine bif2_true ?_ ?_; (· assumption); (conv => whnf)) | (refine bif2_false ?_ ?_; (· assumption); (conv => whnf)) | (refine bif2_true ?_ ?_; (· first | assumption | (refine decide_eq_true ?_; omega) | (refine decide_eq_false ?_; omega) | (refine beq_t ?_; omega) | (refine beq_f ?_; omega) | (refine bne_t ?_; omega) | (refine bne_f ?_; omega) | (refine ble_t ?_; omega) | (refine ble_f ?_; omega) | (simp [*]; done)); (conv => whnf)) | (refine bif2_false ?_ ?_; (· first | assumption | (refine decide_eq_true ?_; omega) | (refine decide_eq_false ?_; omega) | (refine beq_t ?_; omega) | (refine beq_f ?_; omega) | (refine bne_t ?_; omega) | (refine bne_f ?_; omega) | (refine ble_t ?_; omega) | (refine ble_f ?_; omega) | (simp [*]; done)); (conv => whnf)) | (refine bif2_not ?_; (conv => whnf)) | (refine amb_no ?_ ?_; (· first | exact Nat.succ_ne_zero _ | omega); (conv => whnf)) | (refine And.intro ?_ (fun (hc0 : _ = 0) => ?_) <;> (conv => whnf)) | (refine bif2_ble (fun h => ?_) (fun h => ?_) <;> (conv => whnf)) | (refine bif2_dec (fun h => ?_) (fun h => ?_) <;> (conv => whnf)) | (refine bif2_beq (fun h => ?_) (fun h => ?_) <;> (conv => whnf)) | (refine bif2_bne (fun h => ?_) (fun h => ?_) <;> (conv => whnf)) | (refine bif2_split (fun h => ?_) (fun h => ?_) <;> (conv => whnf)))
  all_goals first | exact ⟨rfl, rfl⟩ | trace_state
def putS (a b c : Int) (n : ND) (l : List Th) : List Th := if tkN a b c n then ⟨n.id, n.ld, n.id, 0⟩ :: dropT n.id l else dropT n.id l
end Go.Proofs.Ytdligbcmhjhkfaa

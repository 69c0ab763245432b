/- A job more in a row in order, as the document says it. -/
import Derived.Test.YtdligbcmhjhkfaaQ8

namespace Go.Proofs.Ytdligbcmhjhkfaa
open Go Go.Proofs Go.Sort
theorem rep_snoc {D : List JB} {j : JB} {n : Nat} : flatR encJ (D ++ j :: List.replicate n default) = flatR encJ D ++ (encJ j ++ repL n (encJ default)) := by
  rw [flatR_append, show flatR encJ (j :: List.replicate n default) = encJ j ++ flatR encJ (List.replicate n default) from rfl, ← rep_flat]
theorem snoc_perm (j : JB) (D : List JB) : (D ++ [j]).Perm (j :: D) := List.perm_append_singleton j D
set_option maxRecDepth 100000 in
set_option maxHeartbeats 40000000 in
theorem refPutJ_ct (l : List JB) (j : JB) (hl : l.length ≤ 900) (hp : 0 ≤ j.pr) (ho : okS l) (hj : okJ j) : Ct Try.prog 36 none [.rows (flatR encJ l) l.length, .v (jbV j)] (fun rs _ => ∃ S jk : List JB, S.Perm (j :: dropJ j.id l) ∧ soJ S ∧ rs = [.own (flatR encJ (S ++ jk)) S.length (S ++ jk).length 62]) := by
  have hfin : ∀ S : List JB, SortedL ltJ S → Same ltJ (dropJ j.id l ++ [j]) S → S.Perm (j :: dropJ j.id l) ∧ soJ S := by
    intro S h1 h2
    have h3 := (same_perm h2).trans (snoc_perm j _)
    exact ⟨h3, soJ_of h1 ((ho.put hj).perm h3)⟩
  have hdl := dropJ_len j.id l
  obtain ⟨D, hD⟩ : ∃ D, dropJ j.id l = D := ⟨_, rfl⟩
  have hla : (D ++ [j]).length ≤ 1000 := by rw [List.length_append, ← hD]; simp; omega
  refine Ct.of_body tt_ok mixed Try.func36 rfl (Nat.le_of_ble_eq_true rfl) ?_
  intro w q F hrec
  refine ⟨⟨fun _ => none, fun _ => none⟩, [], ⟨rfl, rfl⟩, ?_⟩
  intro off c' m t fz hc
  (conv => whnf)
  repeat' (first | ((refine CallG.fn (refDropJ_ct l j.id (by omega)) pl37 true (.cons (GA.win encJ_len encJ_cl rfl hc) (.cons (.v rfl) .nil)) ?_; rintro _ ⟨jk, rfl⟩; rw [hD] at hfin hdl ⊢; refine And.intro (fun h => rfl) ?_); (conv => whnf)) | ((refine app_some (enc := encJ) (A := D) (jk := jk) (Y := [j]) encJ_len encJ_one rfl rfl rfl (by rfl) rfl rfl (by rw [← List.length_append]; omega) (by decide) (fun jk4 _ => ?_) (fun jk4 => ?_) <;> (conv => whnf))) | ((refine CallG.fn (refJobs_ct (D ++ [j]) hla) pl60 true (.cons (GA.own encJ_len encJ_cl rfl (by simp)) .nil) ?_; rintro _ ⟨S, jk5, hS1, hS2, rfl⟩; refine And.intro (fun _ => rfl) ?_); (conv => whnf)) | (refine @And.intro (chkAll _ = true) _ ?_ ?_; (· kernel_rfl); (conv => whnf)) | (refine JoinG.direct ?_; (conv => whnf)) | (refine AppG.mk ?_; (conv => whnf)) | (refine both_intro ?_ ?_ <;> (conv => whnf)) | (exact VR.int _ _) | (exact VR.bool _) | (refine VR.ptr ?_; kernel_rfl) | (refine VR.slice ?_; kernel_rfl) | (exact VR.sliceN _ _) | (refine VR.map ?_; kernel_rfl) | (exact VR.clean _ rfl) | (refine VR.aggOf ?_) | (exact OR.win (flatR_clean (fun _ => rfl) _)) | (exact OR.clean rfl (flatR_clean (fun _ => rfl) _)) | (refine OR.cellsOf ?_) | (exact AR.same _ rfl) | (refine AR.consOf ?_ ?_) | (exact trivial) | (exact VR.sliceZ _ _ _) | (refine GR.rw ?_) | (refine GR.ro ?_) | (exact GR.abs rfl) | (exact idle_rw _) | (exact idle_ro _) | (refine VR.intOf ?_; (· first | rfl | (simp only [IntKind.wrap_i64]; omega) | (simp; done) | (simp; omega))) |  (refine And.intro ?_ ?_; (· (first | decide | omega | (simp only [IntKind.wrap_i64]; omega) | (simp only [List.length_append]; omega) | (simp only [IntKind.wrap_i64, List.length_append]; omega) | (simp only [IntKind.wrap_i64, List.length_append, Int.natCast_add]; omega) | exact keepP_same _ _ _ | (repeat (first | exact trivial | refine And.intro rfl ?_)))); (conv => whnf)) | (refine fun (nc : Nat) (hnc : _ ≤ nc) => ?_; (conv => whnf)) | (refine bif2_true ?_ ?_; (· assumption); (conv => whnf)) | (refine bif2_false ?_ ?_; (· assumption); (conv => whnf)) | (refine bif2_true ?_ ?_; (· first | assumption | (refine decide_eq_true ?_; omega) | (refine decide_eq_false ?_; omega) | (refine beq_t ?_; omega) | (refine beq_f ?_; omega) | (refine bne_t ?_; omega) | (refine bne_f ?_; omega) | (refine ble_t ?_; omega) | (refine ble_f ?_; omega) | (simp [*]; done)); (conv => whnf)) | (refine bif2_false ?_ ?_; (· first | assumption | (refine decide_eq_true ?_; omega) | (refine decide_eq_false ?_; omega) | (refine beq_t ?_; omega) | (refine beq_f ?_; omega) | (refine bne_t ?_; omega) | (refine bne_f ?_; omega) | (refine ble_t ?_; omega) | (refine ble_f ?_; omega) | (simp [*]; done)); (conv => whnf)) | (refine bif2_not ?_; (conv => whnf)) | (refine amb_no ?_ ?_; (· first | exact Nat.succ_ne_zero _ | omega); (conv => whnf)) | (refine And.intro ?_ (fun (hc0 : _ = 0) => ?_) <;> (conv => whnf)) | (refine bif2_ble (fun h => ?_) (fun h => ?_) <;> (conv => whnf)) | (refine bif2_dec (fun h => ?_) (fun h => ?_) <;> (conv => whnf)) | (refine bif2_beq (fun h => ?_) (fun h => ?_) <;> (conv => whnf)) | (refine bif2_bne (fun h => ?_) (fun h => ?_) <;> (conv => whnf)) | (refine bif2_split (fun h => ?_) (fun h => ?_) <;> (conv => whnf)))
  all_goals exact Fin.mk [.own (flatR encJ (S ++ jk5)) S.length (S ++ jk5).length 62] none [_] [] rfl (.own rfl rfl (flatR_clean encJ_cl _) .nil) rfl ⟨S, jk5, (hfin S hS1 hS2).1, (hfin S hS1 hS2).2, rfl⟩
end Go.Proofs.Ytdligbcmhjhkfaa

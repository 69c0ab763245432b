/- What must come, whatever the arguments are. -/
import Derived.Test.YtkcmhcgmiflgbaaDoorNR4
import Derived.Test.YtkcmhcgmiflgbaaDoorNN13

namespace Go.Proofs.YtkcmhcgmiflgbaaDoor
open Go.RowKit
theorem pl6 : Plain Tryd.prog 6 := Plain.of Tryd.func6 (by kernel_rfl) rfl
abbrev ma : Msg := ⟨7, 200, 1, 0, 0, 1, 0, 0, 0, 0, 0, 0⟩
abbrev mb : Msg := ⟨7, 200, 1, 0, 0, 2, 0, 0, 0, 0, 0, 0⟩
section
variable (ct : TypeId) (cz : Nat × Nat)
theorem aw1 : CtX (GlobX (waysO ct cz)) Tryd.prog 9 (some (NetR [])) [.v (mv ma)] (fun rs R' => rs = [.v (i64 0)] ∧ R' = some (NetR [ma])) := by
  have := put_ct ct cz [] ma
  rwa [show putC [] ma = 0 by decide +kernel, show putX [] ma = [ma] by decide +kernel] at this
theorem aw2 : CtX (GlobX (waysO ct cz)) Tryd.prog 9 (some (NetR [ma])) [.v (mv mb)] (fun rs R' => rs = [.v (i64 0)] ∧ R' = some (NetR [ma, mb])) := by
  have := put_ct ct cz [ma] mb
  rwa [show putC [ma] mb = 0 by decide +kernel, show putX [ma] mb = [ma, mb] by decide +kernel] at this
theorem aw3 : CtX (GlobX (waysO ct cz)) Tryd.prog 13 (some (NetR [ma, mb])) [.v (i64 200), .v (i64 1), .v (i64 0)] (fun rs R' => rs = [.v (i64 0)] ∧ R' = some (NetR [ma, mb, ma])) := by
  have := twin_yes ct cz [ma, mb] 200 1 0 (by decide +kernel)
  rwa [show nth (ofL 200 1 [ma, mb]) 0 = ma by decide +kernel, show putC [ma, mb] ma = 0 by decide +kernel, show putX [ma, mb] ma = [ma, mb, ma] by decide +kernel] at this
theorem aw4 : Ct Tryd.prog 11 (some (NetR [ma, mb, ma])) [.v (i64 200), .v (i64 1), .v (i64 0)] (fun rs R' => rs = [.v (mv ma), .v (i64 0)] ∧ R' = some (NetR [mb, ma])) := by
  have := takeN_yes [ma, mb, ma] 200 1 0 (by decide +kernel) (by decide +kernel)
  rwa [show nth (ofL 200 1 [ma, mb, ma]) 0 = ma by decide +kernel, show takeX 200 1 0 [ma, mb, ma] = [mb, ma] by decide +kernel] at this
theorem aw5 : Ct Tryd.prog 22 (some (NetR [mb, ma])) [.v (i64 200), .v (i64 1), .v (i64 1)] (fun rs R' => rs = [.v (mv ma), .v (.bool true)] ∧ R' = some (NetR [mb, ma])) := by
  have := at_yes [mb, ma] 200 1 1 (by decide +kernel)
  rwa [show nth (ofL 200 1 [mb, ma]) 1 = ma by decide +kernel] at this
theorem aw6 : Ct Tryd.prog 17 (some (NetR [mb, ma])) [.v (i64 200), .v (i64 1)] (fun rs R' => rs = [.v (i64 2)] ∧ R' = some (NetR [mb, ma])) := by
  have := len_ct [mb, ma] 200 1
  rwa [show (ofL 200 1 [mb, ma]).length = 2 by decide +kernel] at this
theorem aw7 : Ct Tryd.prog 18 (some (NetR [mb, ma])) [] (fun rs R' => rs = [.v (i64 2)] ∧ R' = some (NetR [mb, ma])) := total_ct [mb, ma] (by decide)
theorem sl_aw : SLinks [mb, ma] [(200, 1)] := ⟨by simp, fun k => by simp [kM]; constructor <;> (intro h; exact h.symm)⟩
theorem aw8 : Ct Tryd.prog 20 (some (NetR [mb, ma])) [] (fun rs R' => rs = [.rows (flatR encTm [(200, 1)]) 1] ∧ R' = some (NetR [mb, ma])) := by
  refine (links_ct [mb, ma] (by decide)).mono ?_
  rintro rs R' ⟨S, hS, rfl, rfl⟩
  rw [hS.uniq sl_aw]; exact ⟨rfl, rfl⟩
theorem aw9 : Ct Tryd.prog 15 (some (NetR [mb, ma])) [.v (i64 1)] (fun rs R' => rs = [.v (i64 2)] ∧ R' = some (NetR [])) := by
  have := cut_ct [mb, ma] 1 (by decide)
  rwa [show cutX 1 [mb, ma] = [] by decide +kernel] at this
theorem aw10 : CtX (GlobX (waysO ct cz)) Tryd.prog 9 (some (NetR [])) [.v (mv m0)] (fun rs R' => rs = [.v (i64 5)] ∧ R' = some (NetR [])) := by
  have := put_ct ct cz [] m0
  rwa [show putC [] m0 = 5 by decide +kernel, show putX [] m0 = [] by decide +kernel] at this
theorem aw11 : Ct Tryd.prog 19 none [.rows (flatR encTm [(200, 1)]) 1, .rows (flatR encTm [(200, 1)]) 1] (fun rs _ => rs = [.v (.bool true)]) := same_links [(200, 1)] (by decide)
end
set_option maxRecDepth 100000
set_option maxHeartbeats 40000000
theorem awake37 (ct : TypeId) (cz : Nat × Nat) : CtX (GlobX (waysO ct cz)) Tryd.prog 6 none [] (fun rs _ => rs = [.v (.bool true)]) := by
  refine CtV.of_body tt_ok mixed Tryd.func6 rfl rfl (Nat.le_of_ble_eq_true rfl) ?_
  intro w b F hrec
  refine ⟨_, _, ⟨rfl, rfl⟩, ?_⟩
  (conv => whnf)
  repeat' (first | ((refine CallG.fn newN_ct pl7 true .nil ?_; rintro _ ⟨rfl, _⟩; refine And.intro (fun _ => rfl) ?_); (conv => whnf)) | ((refine CallG.methV (aw1 ct cz) pl9 rfl true rfl rfl rfl (.cons (.v rfl) .nil) ?_; rintro _ _ ⟨rfl, hR⟩; cases hR; refine And.intro (fun _ => rfl) ?_); (conv => whnf)) | ((refine CallG.methV (aw2 ct cz) pl9 rfl true rfl rfl rfl (.cons (.v rfl) .nil) ?_; rintro _ _ ⟨rfl, hR⟩; cases hR; refine And.intro (fun _ => rfl) ?_); (conv => whnf)) | ((refine CallG.methV (aw10 ct cz) pl9 rfl true rfl rfl rfl (.cons (.v rfl) .nil) ?_; rintro _ _ ⟨rfl, hR⟩; cases hR; refine And.intro (fun _ => rfl) ?_); (conv => whnf)) | ((refine CallG.methV (aw3 ct cz) pl13 rfl true rfl rfl rfl (.cons (.v rfl) (.cons (.v rfl) (.cons (.v rfl) .nil))) ?_; rintro _ _ ⟨rfl, hR⟩; cases hR; refine And.intro (fun _ => rfl) ?_); (conv => whnf)) | ((refine CallG.methP aw4 pl11 true rfl rfl (.cons (.v rfl) (.cons (.v rfl) (.cons (.v rfl) .nil))) ?_; rintro _ _ ⟨rfl, hR⟩; cases hR; refine And.intro (fun _ => rfl) ?_); (conv => whnf)) | ((refine CallG.methP aw5 pl22 true rfl rfl (.cons (.v rfl) (.cons (.v rfl) (.cons (.v rfl) .nil))) ?_; rintro _ _ ⟨rfl, hR⟩; cases hR; refine And.intro (fun _ => rfl) ?_); (conv => whnf)) | ((refine CallG.methP aw6 pl17 true rfl rfl (.cons (.v rfl) (.cons (.v rfl) .nil)) ?_; rintro _ _ ⟨rfl, hR⟩; cases hR; refine And.intro (fun _ => rfl) ?_); (conv => whnf)) | ((refine CallG.methP aw7 pl18 true rfl rfl .nil ?_; rintro _ _ ⟨rfl, hR⟩; cases hR; refine And.intro (fun _ => rfl) ?_); (conv => whnf)) | ((refine CallG.methP aw8 pl20 false rfl rfl .nil ?_; rintro _ _ ⟨rfl, hR⟩; cases hR; refine And.intro (fun h => nomatch h) ?_; intro off1 c1 m1 t1 fz1 hc1); (conv => whnf)) | ((refine CallG.methP aw9 pl15 true rfl rfl (.cons (.v rfl) .nil) ?_; rintro _ _ ⟨rfl, hR⟩; cases hR; refine And.intro (fun _ => rfl) ?_); (conv => whnf)) | ((refine CallG.fn aw11 pl19 true (.cons (GA.win (l := [(200, 1)]) encTm_len encTm_clean rfl hc1) (.cons (.rowsW rfl rfl rfl (Nat.le_refl _) (fun h => absurd h (by decide)) rfl) .nil)) ?_; rintro _ rfl; refine And.intro (fun _ => rfl) ?_); (conv => whnf)) | (exact Fin.mk [.v (.bool true)] none [.bool true] [] rfl (.plain (.cons (.v rfl) .nil)) rfl rfl ) | (refine @And.intro (chkAll _ = true) _ ?_ ?_; (· kernel_rfl); (conv => whnf)) | (refine JoinG.direct ?_; (conv => whnf)) | (refine AppG.mk ?_; (conv => whnf)) | (refine both_intro ?_ ?_ <;> (conv => whnf)) | (exact VR.int _ _) | (exact VR.bool _) | (refine VR.ptr ?_; kernel_rfl) | (refine VR.slice ?_; kernel_rfl) | (exact VR.sliceN _ _) | (refine VR.map ?_; kernel_rfl) | (exact VR.clean _ rfl) | (refine VR.aggOf ?_) | (exact OR.win (flatR_clean (fun _ => rfl) _)) | (exact OR.clean rfl (flatR_clean (fun _ => rfl) _)) | (refine OR.cellsOf ?_) | (exact AR.same _ rfl) | (refine AR.consOf ?_ ?_) | (exact trivial) | (exact VR.sliceZ _ _ _) | (refine GR.rw ?_) | (refine GR.ro ?_) | (exact GR.abs rfl) | (exact idle_rw _) | (exact idle_ro _) | (refine VR.intOf ?_; (· first | rfl | (simp only [IntKind.wrap_i64]; omega) | (simp; done) | (simp; omega))) |  (refine And.intro ?_ ?_; (· (first | decide | omega | (simp only [IntKind.wrap_i64]; omega) | (simp only [List.length_append]; omega) | (simp only [IntKind.wrap_i64, List.length_append]; omega) | (simp only [IntKind.wrap_i64, List.length_append, Int.natCast_add]; omega) | exact keepP_same _ _ _ | (repeat (first | exact trivial | refine And.intro rfl ?_)))); (conv => whnf)) | (refine fun (nc : Nat) (hnc : _ ≤ nc) => ?_; (conv => whnf)) | (refine bif2_true ?_ ?_; (· assumption); (conv => whnf)) | (refine bif2_false ?_ ?_; (· assumption); (conv => whnf)) | (refine bif2_true ?_ ?_; (· first | assumption | (refine decide_eq_true ?_; omega) | (refine decide_eq_false ?_; omega) | (refine beq_t ?_; omega) | (refine beq_f ?_; omega) | (refine bne_t ?_; omega) | (refine bne_f ?_; omega) | (refine ble_t ?_; omega) | (refine ble_f ?_; omega) | (simp [*]; done)); (conv => whnf)) | (refine bif2_false ?_ ?_; (· first | assumption | (refine decide_eq_true ?_; omega) | (refine decide_eq_false ?_; omega) | (refine beq_t ?_; omega) | (refine beq_f ?_; omega) | (refine bne_t ?_; omega) | (refine bne_f ?_; omega) | (refine ble_t ?_; omega) | (refine ble_f ?_; omega) | (simp [*]; done)); (conv => whnf)) | (refine bif2_not ?_; (conv => whnf)) | (refine amb_no ?_ ?_; (· first | exact Nat.succ_ne_zero _ | omega); (conv => whnf)) | (refine And.intro ?_ (fun (hc0 : _ = 0) => ?_) <;> (conv => whnf)) | (refine bif2_ble (fun h => ?_) (fun h => ?_) <;> (conv => whnf)) | (refine bif2_dec (fun h => ?_) (fun h => ?_) <;> (conv => whnf)) | (refine bif2_beq (fun h => ?_) (fun h => ?_) <;> (conv => whnf)) | (refine bif2_bne (fun h => ?_) (fun h => ?_) <;> (conv => whnf)) | (refine bif2_split (fun h => ?_) (fun h => ?_) <;> (conv => whnf)))
  all_goals trace_state
end Go.Proofs.YtkcmhcgmiflgbaaDoor

/- What is taken off a heap one by one comes in order. -/
import Derived.Test.YtdligbcmhjhkfaaHP9

namespace Go.Proofs.Ytdligbcmhjhkfaa
open Go.RowKit
abbrev tHp : TypeId := 44
abbrev A5 := Int × Int × Int × Int × Int
def encA (x : A5) : List Value := [.int .i64 x.1, .int .i64 x.2.1, .int .i64 x.2.2.1, .int .i64 x.2.2.2.1, .int .i64 x.2.2.2.2]
theorem encA_len (x : A5) : (encA x).length = 5 := rfl
abbrev hR (s : List Th) : ARes := HeapR tHp [] s
abbrev s1 : List Th := [⟨5, 2, 0, 0⟩]
abbrev s2 : List Th := [⟨6, 1, 0, 0⟩, ⟨5, 2, 0, 0⟩]
abbrev s3 : List Th := [⟨5, 0, 0, 0⟩, ⟨6, 1, 0, 0⟩]
abbrev s4 : List Th := [⟨5, 0, 0, 0⟩]
theorem aw1 : Ct Try.prog 12 (some (hR [])) [.v (i64 5), .v (k3 2 0 0)] (fun rs R' => rs = [.v (.bool true)] ∧ R' = some (hR s1)) := put_ct tHp [] [] 5 2 0 0 (by decide)
theorem aw2 : Ct Try.prog 12 (some (hR s1)) [.v (i64 6), .v (k3 1 0 0)] (fun rs R' => rs = [.v (.bool true)] ∧ R' = some (hR s2)) := put_ct tHp [] s1 6 1 0 0 (by decide)
theorem aw3 : Ct Try.prog 12 (some (hR s2)) [.v (i64 5), .v (k3 0 0 0)] (fun rs R' => rs = [.v (.bool false)] ∧ R' = some (hR s3)) := put_ct tHp [] s2 5 0 0 0 (by decide)
theorem aw4 : Ct Try.prog 23 (some (hR s3)) [] (fun rs R' => rs = [.v (i64 5), .v (k3 0 0 0), .v (.bool true)] ∧ R' = some (hR s3)) :=
  top_in tHp [] (s := s3) (m := ⟨5, 0, 0, 0⟩) (by simp) (by intro y hy; simp at hy; rcases hy with rfl | rfl <;> rfl)
theorem aw5 : Ct Try.prog 14 (some (hR s3)) [] (fun rs R' => (∃ jk, rs = [.own (flatR encI ([5, 6] ++ jk)) 2 ([5, 6] ++ jk).length 3]) ∧ R' = some (hR s3)) := by
  refine (all_ct tHp [] s3 (by decide)).mono ?_
  rintro rs R' ⟨⟨A, jk, h1, h2, h3⟩, hR⟩
  have : A = s3 := sorted_perm h1 h2 (by refine .cons ?_ (.cons ?_ .nil) <;> (intro y hy; simp at hy); subst hy; rfl)
  subst this
  exact ⟨⟨jk, h3⟩, hR⟩
theorem aw6 : Ct Try.prog 16 none [.rows (flatR encI [5, 6]) 2, .rows (flatR encI [5, 6]) 2] (fun rs _ => rs = [.v (.bool true)]) := same_ct [5, 6] [5, 6] (by decide)
theorem aw7 : Ct Try.prog 13 (some (hR s3)) [.v (i64 6)] (fun rs R' => rs = [.v (.bool true)] ∧ R' = some (hR s4)) := drop_ct tHp [] s3 6 (by decide)
theorem aw8 : Ct Try.prog 13 (some (hR s4)) [.v (i64 6)] (fun rs R' => rs = [.v (.bool false)] ∧ R' = some (hR s4)) := drop_ct tHp [] s4 6 (by decide)
theorem aw9 : Ct Try.prog 17 (some (hR s4)) [] (fun rs R' => rs = [.v (i64 1)] ∧ R' = some (hR s4)) := len_ct tHp [] s4
set_option maxRecDepth 100000 in
set_option maxHeartbeats 40000000 in
theorem awake09_s : Pure Try.prog 0 10 [] (fun v => v = .bool true) := by
  refine Pure.body tt_ok mixed Try.func10 rfl (Nat.le_of_ble_eq_true rfl) ?_
  (conv => whnf)
  repeat' (first | ((refine CallG.fn new_ct pl11 true .nil ?_; rintro _ rfl; refine And.intro (fun _ => rfl) ?_); (conv => whnf)) | ((refine CallG.methP (aw1) pl12 true rfl rfl (.cons (.v rfl) (.cons (.v rfl) .nil)) ?_; rintro _ _ ⟨rfl, hR⟩; cases hR; refine And.intro (fun _ => rfl) ?_); (conv => whnf)) | ((refine CallG.methP (aw2) pl12 true rfl rfl (.cons (.v rfl) (.cons (.v rfl) .nil)) ?_; rintro _ _ ⟨rfl, hR⟩; cases hR; refine And.intro (fun _ => rfl) ?_); (conv => whnf)) | ((refine CallG.methP (aw3) pl12 true rfl rfl (.cons (.v rfl) (.cons (.v rfl) .nil)) ?_; rintro _ _ ⟨rfl, hR⟩; cases hR; refine And.intro (fun _ => rfl) ?_); (conv => whnf)) | ((refine CallG.methP (aw4) pl23 true rfl rfl .nil ?_; rintro _ _ ⟨rfl, hR⟩; cases hR; refine And.intro (fun _ => rfl) ?_); (conv => whnf)) | ((refine CallG.methP (aw5) pl14 true rfl rfl .nil ?_; rintro _ _ ⟨⟨jk, rfl⟩, hR⟩; cases hR; refine And.intro (fun _ => rfl) ?_); (conv => whnf)) | ((refine CallG.methP (aw7) pl13 true rfl rfl (.cons (.v rfl) .nil) ?_; rintro _ _ ⟨rfl, hR⟩; cases hR; refine And.intro (fun _ => rfl) ?_); (conv => whnf)) | ((refine CallG.methP (aw8) pl13 true rfl rfl (.cons (.v rfl) .nil) ?_; rintro _ _ ⟨rfl, hR⟩; cases hR; refine And.intro (fun _ => rfl) ?_); (conv => whnf)) | ((refine CallG.methP (aw9) pl17 true rfl rfl .nil ?_; rintro _ _ ⟨rfl, hR⟩; cases hR; refine And.intro (fun _ => rfl) ?_); (conv => whnf)) | ((refine CallG.fn aw6 pl16 true (.cons (GA.own (A := [5, 6]) encI_len encI_clean rfl (by simp)) (.cons (GA.own (A := [5, 6]) (jk := []) encI_len encI_clean rfl (by decide)) .nil)) ?_; rintro _ rfl; refine And.intro (fun _ => rfl) ?_); (conv => whnf)) | (refine CallG.val (lessK_s _ _ _ _ _ _) pl18 rfl (Nat.zero_le _) ?_; (conv => whnf)) | (refine @And.intro (chkAll _ = true) _ ?_ ?_; (· kernel_rfl); (conv => whnf)) | (refine JoinG.direct ?_; (conv => whnf)) | (refine AppG.mk ?_; (conv => whnf)) | (refine both_intro ?_ ?_ <;> (conv => whnf)) | (exact VR.int _ _) | (exact VR.bool _) | (refine VR.ptr ?_; kernel_rfl) | (refine VR.slice ?_; kernel_rfl) | (exact VR.sliceN _ _) | (refine VR.map ?_; kernel_rfl) | (exact VR.clean _ rfl) | (refine VR.aggOf ?_) | (exact OR.win (flatR_clean (fun _ => rfl) _)) | (exact OR.clean rfl (flatR_clean (fun _ => rfl) _)) | (refine OR.cellsOf ?_) | (exact AR.same _ rfl) | (refine AR.consOf ?_ ?_) | (exact trivial) | (exact VR.sliceZ _ _ _) | (refine GR.rw ?_) | (refine GR.ro ?_) | (exact GR.abs rfl) | (exact idle_rw _) | (exact idle_ro _) | (refine VR.intOf ?_; (· first | rfl | (simp only [IntKind.wrap_i64]; omega) | (simp; done) | (simp; omega))) |  (refine And.intro ?_ ?_; (· (first | decide | omega | (simp only [IntKind.wrap_i64]; omega) | (simp only [List.length_append]; omega) | (simp only [IntKind.wrap_i64, List.length_append]; omega) | (simp only [IntKind.wrap_i64, List.length_append, Int.natCast_add]; omega) | exact keepP_same _ _ _ | (repeat (first | exact trivial | refine And.intro rfl ?_)))); (conv => whnf)) | (refine fun (nc : Nat) (hnc : _ ≤ nc) => ?_; (conv => whnf)) | (refine bif2_true ?_ ?_; (· assumption); (conv => whnf)) | (refine bif2_false ?_ ?_; (· assumption); (conv => whnf)) | (refine bif2_true ?_ ?_; (· first | assumption | (refine decide_eq_true ?_; omega) | (refine decide_eq_false ?_; omega) | (refine beq_t ?_; omega) | (refine beq_f ?_; omega) | (refine bne_t ?_; omega) | (refine bne_f ?_; omega) | (refine ble_t ?_; omega) | (refine ble_f ?_; omega) | (simp [*]; done)); (conv => whnf)) | (refine bif2_false ?_ ?_; (· first | assumption | (refine decide_eq_true ?_; omega) | (refine decide_eq_false ?_; omega) | (refine beq_t ?_; omega) | (refine beq_f ?_; omega) | (refine bne_t ?_; omega) | (refine bne_f ?_; omega) | (refine ble_t ?_; omega) | (refine ble_f ?_; omega) | (simp [*]; done)); (conv => whnf)) | (refine bif2_not ?_; (conv => whnf)) | (refine amb_no ?_ ?_; (· first | exact Nat.succ_ne_zero _ | omega); (conv => whnf)) | (refine And.intro ?_ (fun (hc0 : _ = 0) => ?_) <;> (conv => whnf)) | (refine bif2_ble (fun h => ?_) (fun h => ?_) <;> (conv => whnf)) | (refine bif2_dec (fun h => ?_) (fun h => ?_) <;> (conv => whnf)) | (refine bif2_beq (fun h => ?_) (fun h => ?_) <;> (conv => whnf)) | (refine bif2_bne (fun h => ?_) (fun h => ?_) <;> (conv => whnf)) | (refine bif2_split (fun h => ?_) (fun h => ?_) <;> (conv => whnf)))
  exact ⟨rfl, rfl⟩
end Go.Proofs.Ytdligbcmhjhkfaa

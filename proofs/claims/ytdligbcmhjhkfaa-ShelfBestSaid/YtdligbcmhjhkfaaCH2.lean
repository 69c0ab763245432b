/- Nodes in order. -/
import Derived.Test.YtdligbcmhjhkfaaCH1
import Derived.Test.YtdligbcmhjhkfaaGg

namespace Go.Proofs.Ytdligbcmhjhkfaa
open Go Go.Proofs Go.Sort
theorem pl68 : Plain Try.prog 68 := Plain.of Try.func68 (by kernel_rfl) rfl
theorem encN_cl (x : ND) : cleanL (encN x) = true := rfl
def ltN0 (x y : ND) : Bool := nodeLB x.id x.ld y.id y.ld
def cmpN (x y : ND) : Int := chI (ltN0 x y) (-1) (chI (ltN0 y x) 1 0)
theorem cmpN_s (x y : ND) : Pure Try.prog 0 68 [ndV x, ndV y] (fun v => v = i64 (cmpN x y)) := by
  refine Pure.body tt_ok mixed Try.func68 rfl (Nat.le_of_ble_eq_true rfl) ?_
  (conv => whnf)
  repeat' (first | (refine CallG.val (nodeL_s _ _ _ _ _ _ _ _ _ _ _ _ _ _ _ _ _ _ _ _) pl66 rfl (Nat.zero_le _) ?_; (conv => whnf)) | (refine @And.intro (chkAll _ = true) _ ?_ ?_; (· kernel_rfl); (conv => whnf)) | (refine JoinG.direct ?_; (conv => whnf)) | (refine AppG.mk ?_; (conv => whnf)) | (refine both_intro ?_ ?_ <;> (conv => whnf)) | (exact VR.int _ _) | (exact VR.bool _) | (refine VR.ptr ?_; kernel_rfl) | (refine VR.slice ?_; kernel_rfl) | (exact VR.sliceN _ _) | (refine VR.map ?_; kernel_rfl) | (exact VR.clean _ rfl) | (refine VR.aggOf ?_) | (refine OR.cellsOf ?_) | (exact AR.same _ rfl) | (exact trivial) | (refine amb_no ?_ ?_; (· exact Nat.succ_ne_zero _); (conv => whnf)) | (refine And.intro ?_ ?_; (· (first | decide | omega | (simp only [IntKind.wrap_i64]; omega) | (simp only [List.length_append]; omega) | (simp only [IntKind.wrap_i64, List.length_append]; omega) | (simp only [IntKind.wrap_i64, List.length_append, Int.natCast_add]; omega) | exact keepP_same _ _ _ | (repeat (first | exact trivial | refine And.intro rfl ?_)))); (conv => whnf)) | (refine fun (nc : Nat) (hnc : _ ≤ nc) => ?_; (conv => whnf)) | (refine bif2_true ?_ ?_; (· assumption); (conv => whnf)) | (refine bif2_false ?_ ?_; (· assumption); (conv => whnf)) | (refine bif2_split (fun h => ?_) (fun h => ?_) <;> (conv => whnf)))
  all_goals (refine ⟨congrArg i64 ?_, rfl⟩; simp_all [cmpN, ltN0])
def ltN (x y : ND) : Bool := decide (cmpN x y < 0)
theorem ltN_eq (x y : ND) : ltN x y = nodeLB x.id x.ld y.id y.ld := by
  unfold ltN cmpN ltN0
  cases h : nodeLB x.id x.ld y.id y.ld
  · cases h2 : nodeLB y.id y.ld x.id x.ld <;> rfl
  · rfl
theorem ltN_iff {x y : ND} : ltN x y = true ↔ x.ld < y.ld ∨ (x.ld = y.ld ∧ x.id < y.id) := by
  rw [ltN_eq]; simp [nodeLB]
theorem ltN_no {x y : ND} : ltN x y = false ↔ ¬ (x.ld < y.ld ∨ (x.ld = y.ld ∧ x.id < y.id)) := by
  rw [← ltN_iff]; simp
theorem swoN : SWO ltN where
  irrefl x := by rw [ltN_no]; omega
  trans x y z h1 h2 := by rw [ltN_iff] at *; omega
  ntrans x y z h1 h2 := by rw [ltN_no] at *; omega
end Go.Proofs.Ytdligbcmhjhkfaa

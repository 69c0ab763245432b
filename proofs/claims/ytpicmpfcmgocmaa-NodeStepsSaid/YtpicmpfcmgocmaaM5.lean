/- Contracts of functions of the program and of the reference: what each call comes to. -/
import Derived.Test.YtpicmpfcmgocmaaM4
namespace Go.Proofs.Ytpicmpfcmgocmaa
open Go.RowKit
theorem awake_s : Pure Try.prog 0 46 [] (fun v => v = .bool true) := by
  refine Pure.body tt_ok mixed Try.func46 rfl (Nat.le_of_ble_eq_true rfl) ?_
  (conv => whnf)
  repeat' (first | (refine CallG.val (new_s _ _ _ _ _) pl42 rfl (Nat.zero_le _) ?_; (conv => whnf)) | (refine CallG.val (take_s _ _ _ _ _ _ _ _ _ _ _ _ _ _) pl70 rfl (Nat.zero_le _) ?_; (conv => whnf)) | (refine CallG.val (resize_s _ _ _ _ _ _ _ _ _ _ _ _ _ _) pl68 rfl (Nat.zero_le _) ?_; (conv => whnf)) | (refine CallG.val (give_s _ _ _ _ _ _ _ _ _ _ _ _ _) pl71 rfl (Nat.zero_le _) ?_; (conv => whnf)) | (refine CallG.val (join_s _ _ _ _ _ _ _ _ _ _ _ _ _ _) pl67 rfl (Nat.zero_le _) ?_; (conv => whnf)) | (refine CallG.val (nodeRight_s _ _ _ _ _ _ _ _ _ _) pl44 rfl (Nat.zero_le _) ?_; (conv => whnf)) | (refine @And.intro (chkAll _ _ = true) _ ?_ ?_; (· kernel_rfl); (conv => whnf)) | (refine And.intro ?_ ?_; (· (first | decide | omega | exact keepP_same _ _ _ | (repeat (first | exact trivial | refine And.intro rfl ?_)))); (conv => whnf)) | (refine fun (nc : Nat) (hnc : _ ≤ nc) => ?_; (conv => whnf)) | (refine bif2_true ?_ ?_; (· assumption); (conv => whnf)) | (refine bif2_false ?_ ?_; (· assumption); (conv => whnf)) | (refine bif2_split (fun h => ?_) (fun h => ?_) <;> (conv => whnf)))
  exact ⟨congrArg Value.bool (by decide), rfl⟩
theorem nodeSteps_s (id inc ld c0 c1 c2 u0 u1 u2 : Int) (up : Bool) (k x a b c : Int) : Pure Try.prog 0 11 [nodeV id inc ld c0 c1 c2 u0 u1 u2 up, actV k x a b c] (fun v => v = .bool true) := by
  refine Pure.body tt_ok mixed Try.func11 rfl (Nat.le_of_ble_eq_true rfl) ?_
  (conv => whnf)
  repeat' (first | (refine CallG.val (do_s _ _ _ _ _ _ _ _ _ _ _ _ _ _ _) pl40 rfl (Nat.zero_le _) ?_; (conv => whnf)) | (refine CallG.val (refDo_s _ _ _ _ _ _ _ _ _ _ _ _ _ _ _) pl41 rfl (Nat.zero_le _) ?_; (conv => whnf)) | (refine CallG.val (new_s _ _ _ _ _) pl42 rfl (Nat.zero_le _) ?_; (conv => whnf)) | (refine CallG.val (refNew_s _ _ _ _ _) pl43 rfl (Nat.zero_le _) ?_; (conv => whnf)) | (refine CallG.val (nodeRight_s _ _ _ _ _ _ _ _ _ _) pl44 rfl (Nat.zero_le _) ?_; (conv => whnf)) | (refine CallG.val (refNodeRight_s _ _ _ _ _ _ _ _ _ _) pl45 rfl (Nat.zero_le _) ?_; (conv => whnf)) | (refine CallG.val (awake_s) pl46 rfl (Nat.zero_le _) ?_; (conv => whnf)) | (refine @And.intro (chkAll _ _ = true) _ ?_ ?_; (· kernel_rfl); (conv => whnf)) | (refine And.intro ?_ ?_; (· (first | decide | omega | exact keepP_same _ _ _ | (repeat (first | exact trivial | refine And.intro rfl ?_)))); (conv => whnf)) | (refine bif2_true ?_ ?_; (· simp; done); (conv => whnf)))
  exact ⟨rfl, rfl⟩
end Go.Proofs.Ytpicmpfcmgocmaa

/- Contracts of functions of the program and of the reference: what each call comes to. -/
import Derived.Test.YtkoabiahebakjaaM2
namespace Go.Proofs.Ytkoabiahebakjaa
open Go.RowKit
abbrev nodeR (e : Int) (id inc ld c0 c1 c2 u0 u1 u2 : Int) (up : Bool) : Value :=
  .tuple #[nodeV (chI (e == 0) id 0) (chI (e == 0) inc 0) (chI (e == 0) ld 0) (chI (e == 0) c0 0) (chI (e == 0) c1 0) (chI (e == 0) c2 0) (chI (e == 0) u0 0) (chI (e == 0) u1 0) (chI (e == 0) u2 0) (e == 0 && up), i64 e]
def newE (id inc a b c : Int) : Int := chI (nodeB id inc 0 a b c 0 0 0 true) 0 1
def goneE (id inc ld c0 c1 c2 u0 u1 u2 : Int) (up : Bool) (x : Int) : Int :=
  chI (nodeB id inc ld c0 c1 c2 u0 u1 u2 up && rightB x 1 2147483647) (chI up (chI (inc == x) 0 11) 7) 1
def joinE (id inc ld c0 c1 c2 u0 u1 u2 : Int) (up : Bool) (x a b c : Int) : Int :=
  chI (rightR a b c && (nodeB id inc ld c0 c1 c2 u0 u1 u2 up && rightB x 1 2147483647)) (chI (decide (inc < x)) (newE id x a b c) 8) 1
def resizeE (id inc ld c0 c1 c2 u0 u1 u2 : Int) (up : Bool) (x a b c : Int) : Int :=
  chI (rightR a b c && (nodeB id inc ld c0 c1 c2 u0 u1 u2 up && rightB x 1 2147483647)) (chI up (chI (inc == x) (chI (fitsR u0 u1 u2 a b c) 0 13) 11) 7) 1
def takeE (id inc ld c0 c1 c2 u0 u1 u2 : Int) (up : Bool) (x a b c : Int) : Int :=
  chI (rightR a b c && (nodeB id inc ld c0 c1 c2 u0 u1 u2 up && rightB x 1 2147483647)) (chI up (chI (inc == x) (chI (decide (ld < 64)) (chI (takesB c0 c1 c2 u0 u1 u2 up a b c) 0 13) 6) 11) 7) 1
theorem take_s (id inc ld c0 c1 c2 u0 u1 u2 : Int) (up : Bool) (x a b c : Int) : Pure Try.prog 0 46 [nodeV id inc ld c0 c1 c2 u0 u1 u2 up, i64 x, r3 a b c]
    (fun v => v = nodeR (takeE id inc ld c0 c1 c2 u0 u1 u2 up x a b c) id inc (IntKind.i64.wrap (ld + 1)) c0 c1 c2 (chI (addB u0 u1 u2 a b c) (u0 + a) 0) (chI (addB u0 u1 u2 a b c) (u1 + b) 0) (chI (addB u0 u1 u2 a b c) (u2 + c) 0) up) := by
  cases up
  all_goals
    refine Pure.body tt_ok mixed Try.func46 rfl (Nat.le_of_ble_eq_true rfl) ?_
    (conv => whnf)
    repeat' (first | (refine CallG.val (nodeRight_s _ _ _ _ _ _ _ _ _ _) pl73 rfl (Nat.zero_le _) ?_; (conv => whnf)) | (refine CallG.val (inc_s _) pl74 rfl (Nat.zero_le _) ?_; (conv => whnf)) | (refine CallG.val (resRight_s _ _ _) pl72 rfl (Nat.zero_le _) ?_; (conv => whnf)) | (refine CallG.val (fits_s _ _ _ _ _ _) pl39 rfl (Nat.zero_le _) ?_; (conv => whnf)) | (refine CallG.val (takes_s _ _ _ _ _ _ _ _ _ _ _ _ _) pl22 rfl (Nat.zero_le _) ?_; (conv => whnf)) | (refine CallG.val (resAdd_s _ _ _ _ _ _) pl58 rfl (Nat.zero_le _) ?_; (conv => whnf)) | (refine CallG.body tt_ok mixed Try.func52 (by kernel_rfl) rfl (Nat.le_of_ble_eq_true rfl) ?_; (conv => whnf)) | (refine CallG.body tt_ok mixed Try.func56 (by kernel_rfl) rfl (Nat.le_of_ble_eq_true rfl) ?_; (conv => whnf)) | (refine CallG.body tt_ok mixed Try.func55 (by kernel_rfl) rfl (Nat.le_of_ble_eq_true rfl) ?_; (conv => whnf)) | (refine CallG.body tt_ok mixed Try.func71 (by kernel_rfl) rfl (Nat.le_of_ble_eq_true rfl) ?_; (conv => whnf)) | (refine CallG.body tt_ok mixed Try.func75 (by kernel_rfl) rfl (Nat.le_of_ble_eq_true rfl) ?_; (conv => whnf)) | (refine CallG.body tt_ok mixed Try.func76 (by kernel_rfl) rfl (Nat.le_of_ble_eq_true rfl) ?_; (conv => whnf)) | (refine LoopG.unroll 7 ?_; (conv => whnf)) | (refine CallG.body tt_ok mixed Try.func53 (by kernel_rfl) rfl (Nat.le_of_ble_eq_true rfl) ?_; (conv => whnf)) | (refine CallG.body tt_ok mixed Try.func54 (by kernel_rfl) rfl (Nat.le_of_ble_eq_true rfl) ?_; (conv => whnf)) | (refine CallG.body tt_ok mixed Try.func57 (by kernel_rfl) rfl (Nat.le_of_ble_eq_true rfl) ?_; (conv => whnf)) | (refine @And.intro (chkAll _ = true) _ ?_ ?_; (· kernel_rfl); (conv => whnf)) | (refine JoinG.direct ?_; (conv => whnf)) | (refine both_intro ?_ ?_ <;> (conv => whnf)) | (exact VR.int _ _) | (exact VR.bool _) | (refine VR.ptr ?_; kernel_rfl) | (refine VR.slice ?_; kernel_rfl) | (exact VR.sliceN _ _) | (refine VR.map ?_; kernel_rfl) | (exact VR.clean _ rfl) | (refine VR.aggOf ?_) | (refine OR.cellsOf ?_) | (exact AR.same _ rfl) | (exact trivial) | (refine amb_no ?_ ?_; (· exact Nat.succ_ne_zero _); (conv => whnf)) | (refine And.intro ?_ ?_; (· (first | decide | omega | (simp only [IntKind.wrap_i64]; omega) | (simp only [List.length_append]; omega) | (simp only [IntKind.wrap_i64, List.length_append]; omega) | (simp only [IntKind.wrap_i64, List.length_append, Int.natCast_add]; omega) | exact keepP_same _ _ _ | (repeat (first | exact trivial | refine And.intro rfl ?_)))); (conv => whnf)) | (refine fun (nc : Nat) (hnc : _ ≤ nc) => ?_; (conv => whnf)) | (refine bif2_true ?_ ?_; (· assumption); (conv => whnf)) | (refine bif2_false ?_ ?_; (· assumption); (conv => whnf)) | (refine bif2_split (fun h => ?_) (fun h => ?_) <;> (conv => whnf)))
    all_goals (refine ⟨?_, rfl⟩; (try simp only [Bool.not_eq_true', Bool.not_eq_false', Bool.not_not] at *); simp [*, takeE])
def giveE (id inc ld c0 c1 c2 u0 u1 u2 : Int) (up : Bool) (a b c : Int) : Int :=
  chI (nodeB id inc ld c0 c1 c2 u0 u1 u2 up && rightR a b c) (chI (subB u0 u1 u2 a b c && (decide (0 < ld) && (decide (1 < ld) || (u0 - a == 0 && (u1 - b == 0 && u2 - c == 0))))) 0 10) 1
end Go.Proofs.Ytkoabiahebakjaa

/- Messages, plainly; which kind of place a number is. -/
import Derived.Test.YtkcmhcgmiflgbaaDoorM1
import Derived.Test.YtkcmhcgmiflgbaaDoorGi

namespace Go.Proofs.YtkcmhcgmiflgbaaDoor
open Go.RowKit
theorem pl39 : Plain Tryd.prog 39 := Plain.of Tryd.func39 (by kernel_rfl) rfl
theorem pl35 : Plain Tryd.prog 35 := Plain.of Tryd.func35 (by kernel_rfl) rfl
theorem pl36 : Plain Tryd.prog 36 := Plain.of Tryd.func36 (by kernel_rfl) rfl
theorem pl38 : Plain Tryd.prog 38 := Plain.of Tryd.func38 (by kernel_rfl) rfl
theorem pl46 : Plain Tryd.prog 46 := Plain.of Tryd.func46 (by kernel_rfl) rfl
theorem pl40 : Plain Tryd.prog 40 := Plain.of Tryd.func40 (by kernel_rfl) rfl
theorem pl41 : Plain Tryd.prog 41 := Plain.of Tryd.func41 (by kernel_rfl) rfl
theorem pl25 : Plain Tryd.prog 25 := Plain.of Tryd.func25 (by kernel_rfl) rfl
theorem pl31 : Plain Tryd.prog 31 := Plain.of Tryd.func31 (by kernel_rfl) rfl
theorem pl34 : Plain Tryd.prog 34 := Plain.of Tryd.func34 (by kernel_rfl) rfl
theorem pl33 : Plain Tryd.prog 33 := Plain.of Tryd.func33 (by kernel_rfl) rfl
theorem pl32 : Plain Tryd.prog 32 := Plain.of Tryd.func32 (by kernel_rfl) rfl
theorem pl23 : Plain Tryd.prog 23 := Plain.of Tryd.func23 (by kernel_rfl) rfl
theorem pl24 : Plain Tryd.prog 24 := Plain.of Tryd.func24 (by kernel_rfl) rfl
theorem pl48 : Plain Tryd.prog 48 := Plain.of Tryd.func48 (by kernel_rfl) rfl
theorem pl61 : Plain Tryd.prog 61 := Plain.of Tryd.func61 (by kernel_rfl) rfl
structure Msg where
  k : Int
  f : Int
  t : Int
  e : Int
  i : Int
  j : Int
  q : Int
  p : Int
  c : Int
  x : Int
  y : Int
  z : Int
  deriving DecidableEq, Inhabited
def eM (m : Msg) : List Value := [.int .i64 m.k, .int .i64 m.f, .int .i64 m.t, .int .i64 m.e, .int .i64 m.i, .int .i64 m.j, .int .i64 m.q, .int .i64 m.p, .int .i64 m.c, .int .i64 m.x, .int .i64 m.y, .int .i64 m.z]
theorem eM_len (m : Msg) : (eM m).length = 12 := rfl
abbrev mv (m : Msg) : Value := .agg #[.int .i64 m.k, .int .i64 m.f, .int .i64 m.t, .int .i64 m.e, .int .i64 m.i, .int .i64 m.j, .int .i64 m.q, .int .i64 m.p, .int .i64 m.c, .int .i64 m.x, .int .i64 m.y, .int .i64 m.z]
abbrev m0 : Msg := ⟨0, 0, 0, 0, 0, 0, 0, 0, 0, 0, 0, 0⟩
def placeI (n : Int) : Int := if 0 ≤ n ∧ n ≤ 4 then 1 else if 100 ≤ n ∧ n ≤ 115 then 2 else if n = 200 then 3 else 0
def pureM (m : Msg) : Msg :=
  if m.k = 1 then ⟨m.k, m.f, m.t, 0, m.i, 0, m.q, 0, 0, m.x, m.y, m.z⟩
  else if m.k = 2 then ⟨m.k, m.f, m.t, m.e, m.i, 0, m.q, 0, 0, 0, 0, 0⟩
  else if m.k = 3 ∨ m.k = 4 then ⟨m.k, m.f, m.t, m.e, m.i, m.j, 0, 0, 0, 0, 0, 0⟩
  else if m.k = 5 then ⟨m.k, m.f, m.t, 0, m.i, m.j, 0, 0, 0, 0, 0, 0⟩
  else if m.k = 6 then ⟨m.k, m.f, m.t, 0, 0, m.j, 0, m.p, 0, m.x, m.y, m.z⟩
  else if m.k = 7 then ⟨m.k, m.f, m.t, 0, 0, m.j, 0, 0, 0, 0, 0, 0⟩
  else if m.k = 8 then ⟨m.k, m.f, m.t, 0, 0, m.j, 0, 0, m.c, 0, 0, 0⟩
  else m0
theorem place_s (n : Int) : Pure Tryd.prog 0 39 [i64 n] (fun v => v = i64 (placeI n)) := by
  refine Pure.body tt_ok mixed Tryd.func39 rfl (Nat.le_of_ble_eq_true rfl) ?_
  (conv => whnf)
  repeat' (first | (refine CallG.val (right_s _ _ _) pl47 rfl (Nat.zero_le _) ?_; (conv => whnf)) | (refine @And.intro (chkAll _ = true) _ ?_ ?_; (· kernel_rfl); (conv => whnf)) | (refine JoinG.direct ?_; (conv => whnf)) | (refine AppG.mk ?_; (conv => whnf)) | (refine both_intro ?_ ?_ <;> (conv => whnf)) | (exact VR.int _ _) | (exact VR.bool _) | (refine VR.ptr ?_; kernel_rfl) | (refine VR.slice ?_; kernel_rfl) | (exact VR.sliceN _ _) | (refine VR.map ?_; kernel_rfl) | (exact VR.clean _ rfl) | (refine VR.aggOf ?_) | (refine OR.cellsOf ?_) | (exact AR.same _ rfl) | (exact trivial) | (refine amb_no ?_ ?_; (· exact Nat.succ_ne_zero _); (conv => whnf)) | (refine And.intro ?_ ?_; (· (first | decide | omega | (simp only [IntKind.wrap_i64]; omega) | (simp only [List.length_append]; omega) | (simp only [IntKind.wrap_i64, List.length_append]; omega) | (simp only [IntKind.wrap_i64, List.length_append, Int.natCast_add]; omega) | exact keepP_same _ _ _ | (repeat (first | exact trivial | refine And.intro rfl ?_)))); (conv => whnf)) | (refine fun (nc : Nat) (hnc : _ ≤ nc) => ?_; (conv => whnf)) | (refine bif2_true ?_ ?_; (· assumption); (conv => whnf)) | (refine bif2_false ?_ ?_; (· assumption); (conv => whnf)) | (refine bif2_split (fun h => ?_) (fun h => ?_) <;> (conv => whnf)))
  all_goals (refine ⟨congrArg i64 ?_, rfl⟩; unfold placeI; simp_all [rightB]) <;> omega
theorem refPlace_s (n : Int) : Pure Tryd.prog 0 35 [i64 n] (fun v => v = i64 (placeI n)) := by
  refine Pure.body tt_ok mixed Tryd.func35 rfl (Nat.le_of_ble_eq_true rfl) ?_
  (conv => whnf)
  repeat' (first | (refine @And.intro (chkAll _ = true) _ ?_ ?_; (· kernel_rfl); (conv => whnf)) | (refine JoinG.direct ?_; (conv => whnf)) | (refine AppG.mk ?_; (conv => whnf)) | (refine both_intro ?_ ?_ <;> (conv => whnf)) | (exact VR.int _ _) | (exact VR.bool _) | (refine VR.ptr ?_; kernel_rfl) | (refine VR.slice ?_; kernel_rfl) | (exact VR.sliceN _ _) | (refine VR.map ?_; kernel_rfl) | (exact VR.clean _ rfl) | (refine VR.aggOf ?_) | (refine OR.cellsOf ?_) | (exact AR.same _ rfl) | (exact trivial) | (refine amb_no ?_ ?_; (· exact Nat.succ_ne_zero _); (conv => whnf)) | (refine And.intro ?_ ?_; (· (first | decide | omega | (simp only [IntKind.wrap_i64]; omega) | (simp only [List.length_append]; omega) | (simp only [IntKind.wrap_i64, List.length_append]; omega) | (simp only [IntKind.wrap_i64, List.length_append, Int.natCast_add]; omega) | exact keepP_same _ _ _ | (repeat (first | exact trivial | refine And.intro rfl ?_)))); (conv => whnf)) | (refine fun (nc : Nat) (hnc : _ ≤ nc) => ?_; (conv => whnf)) | (refine bif2_true ?_ ?_; (· assumption); (conv => whnf)) | (refine bif2_false ?_ ?_; (· assumption); (conv => whnf)) | (refine bif2_split (fun h => ?_) (fun h => ?_) <;> (conv => whnf)))
  all_goals (refine ⟨congrArg i64 ?_, rfl⟩; unfold placeI; simp_all) <;> omega
theorem refIn_s (a b c : Int) : Pure Tryd.prog 0 36 [i64 a, i64 b, i64 c] (fun v => v = .bool (rightB a b c)) := by
  refine Pure.body tt_ok mixed Tryd.func36 rfl (Nat.le_of_ble_eq_true rfl) ?_
  (conv => whnf)
  repeat' (first | (refine @And.intro (chkAll _ = true) _ ?_ ?_; (· kernel_rfl); (conv => whnf)) | (refine JoinG.direct ?_; (conv => whnf)) | (refine AppG.mk ?_; (conv => whnf)) | (refine both_intro ?_ ?_ <;> (conv => whnf)) | (exact VR.int _ _) | (exact VR.bool _) | (refine VR.ptr ?_; kernel_rfl) | (refine VR.slice ?_; kernel_rfl) | (exact VR.sliceN _ _) | (refine VR.map ?_; kernel_rfl) | (exact VR.clean _ rfl) | (refine VR.aggOf ?_) | (refine OR.cellsOf ?_) | (exact AR.same _ rfl) | (exact trivial) | (refine amb_no ?_ ?_; (· exact Nat.succ_ne_zero _); (conv => whnf)) | (refine And.intro ?_ ?_; (· (first | decide | omega | (simp only [IntKind.wrap_i64]; omega) | (simp only [List.length_append]; omega) | (simp only [IntKind.wrap_i64, List.length_append]; omega) | (simp only [IntKind.wrap_i64, List.length_append, Int.natCast_add]; omega) | exact keepP_same _ _ _ | (repeat (first | exact trivial | refine And.intro rfl ?_)))); (conv => whnf)) | (refine fun (nc : Nat) (hnc : _ ≤ nc) => ?_; (conv => whnf)) | (refine bif2_true ?_ ?_; (· assumption); (conv => whnf)) | (refine bif2_false ?_ ?_; (· assumption); (conv => whnf)) | (refine bif2_split (fun h => ?_) (fun h => ?_) <;> (conv => whnf)))
  all_goals (refine ⟨congrArg Value.bool ?_, rfl⟩; first | (simp_all [rightB]; done) | (simp_all [rightB]; omega))
end Go.Proofs.YtkcmhcgmiflgbaaDoor

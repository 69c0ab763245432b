/- Contracts of functions of the program and of the reference: what each call comes to. -/
import Derived.Test.YtpicmpfcmgocmaaDoorGe
import Derived.Test.YtpicmpfcmgocmaaDoorProg
namespace Go.Proofs.YtpicmpfcmgocmaaDoor
open Go.RowKit
def tt25 : TK := ⟨⟨.struct #[⟨ "Id", 3, 0, false, "", "", 0⟩, ⟨ "Prio", 3, 1, false, "", "", 8⟩, ⟨ "Seq", 3, 2, false, "", "", 16⟩, ⟨ "Phase", 3, 3, false, "", "", 24⟩, ⟨ "Node", 3, 4, false, "", "", 32⟩, ⟨ "Need", 23, 5, false, "", "", 40⟩], 8, 64, (.agg #[.int .i64 0, .int .i64 0, .int .i64 0, .int .i64 0, .int .i64 0, .int .i64 0, .int .i64 0, .int .i64 0])⟩, [.i .i64, .i .i64, .i .i64, .i .i64, .i .i64, .i .i64, .i .i64, .i .i64]⟩
def tt3 : TK := ⟨⟨.int .i64, 1, 8, (.int .i64 0)⟩, []⟩
def tt23 : TK := ⟨⟨.array 3 3, 3, 24, (.agg #[.int .i64 0, .int .i64 0, .int .i64 0])⟩, [.i .i64, .i .i64, .i .i64]⟩
def tt27 : TK := ⟨⟨.struct #[⟨ "Kind", 3, 0, false, "", "", 0⟩, ⟨ "Node", 3, 1, false, "", "", 8⟩], 2, 16, (.agg #[.int .i64 0, .int .i64 0])⟩, [.i .i64, .i .i64]⟩
def tt28 : TK := ⟨⟨.int .i64, 1, 8, (.int .i64 0)⟩, []⟩
def tt4 : TK := ⟨⟨.bool, 1, 1, (.bool false)⟩, []⟩
def tt43 : TK := ⟨⟨.struct #[⟨ "Id", 3, 0, false, "", "", 0⟩, ⟨ "Prio", 3, 1, false, "", "", 8⟩, ⟨ "Seq", 3, 2, false, "", "", 16⟩, ⟨ "Phase", 3, 3, false, "", "", 24⟩, ⟨ "Node", 3, 4, false, "", "", 32⟩, ⟨ "Need", 23, 5, false, "", "", 40⟩], 8, 64, (.agg #[.int .i64 0, .int .i64 0, .int .i64 0, .int .i64 0, .int .i64 0, .int .i64 0, .int .i64 0, .int .i64 0])⟩, [.i .i64, .i .i64, .i .i64, .i .i64, .i .i64, .i .i64, .i .i64, .i .i64]⟩
def tt9 : TK := ⟨⟨.string, 1, 16, (.string ⟨#[]⟩)⟩, []⟩
def tt38 : TK := ⟨⟨.slice 27, 1, 24, (.slice none 0 0)⟩, []⟩
def tt42 : TK := ⟨⟨.array 4 9, 4, 64, (.agg #[.string ⟨#[]⟩, .string ⟨#[]⟩, .string ⟨#[]⟩, .string ⟨#[]⟩])⟩, []⟩
def tt34 : TK := ⟨⟨.slice 9, 1, 24, (.slice none 0 0)⟩, []⟩
def tt : List (Nat × TK) := [(25, tt25), (3, tt3), (23, tt23), (27, tt27), (28, tt28), (4, tt4), (43, tt43), (9, tt9), (38, tt38), (42, tt42), (34, tt34)]
theorem tt_ok : TKok Tryd.prog tt := TKok.cons ⟨by kernel_rfl, by kernel_rfl, Or.inr ⟨by kernel_rfl, by kernel_rfl, by kernel_rfl, by kernel_rfl⟩⟩ (TKok.cons ⟨by kernel_rfl, by kernel_rfl, Or.inl rfl⟩ (TKok.cons ⟨by kernel_rfl, by kernel_rfl, Or.inr ⟨by kernel_rfl, by kernel_rfl, by kernel_rfl, by kernel_rfl⟩⟩ (TKok.cons ⟨by kernel_rfl, by kernel_rfl, Or.inr ⟨by kernel_rfl, by kernel_rfl, by kernel_rfl, by kernel_rfl⟩⟩ (TKok.cons ⟨by kernel_rfl, by kernel_rfl, Or.inl rfl⟩ (TKok.cons ⟨by kernel_rfl, by kernel_rfl, Or.inl rfl⟩ (TKok.cons ⟨by kernel_rfl, by kernel_rfl, Or.inr ⟨by kernel_rfl, by kernel_rfl, by kernel_rfl, by kernel_rfl⟩⟩ (TKok.cons ⟨by kernel_rfl, by kernel_rfl, Or.inl rfl⟩ (TKok.cons ⟨by kernel_rfl, by kernel_rfl, Or.inl rfl⟩ (TKok.cons ⟨by kernel_rfl, by kernel_rfl, Or.inl rfl⟩ (TKok.cons ⟨by kernel_rfl, by kernel_rfl, Or.inl rfl⟩ (TKok.nil _)))))))))))
theorem mixed : Tryd.prog.follows .mixedOrders = true := by kernel_rfl
theorem pl20 : Plain Tryd.prog 20 := Plain.of Tryd.func20 (by kernel_rfl) rfl
theorem pl28 : Plain Tryd.prog 28 := Plain.of Tryd.func28 (by kernel_rfl) rfl
theorem pl21 : Plain Tryd.prog 21 := Plain.of Tryd.func21 (by kernel_rfl) rfl
theorem pl26 : Plain Tryd.prog 26 := Plain.of Tryd.func26 (by kernel_rfl) rfl
theorem pl27 : Plain Tryd.prog 27 := Plain.of Tryd.func27 (by kernel_rfl) rfl
theorem pl22 : Plain Tryd.prog 22 := Plain.of Tryd.func22 (by kernel_rfl) rfl
abbrev i64 (a : Int) : Value := .int .i64 a
abbrev r3 (a b c : Int) : Value := .agg #[.int .i64 a, .int .i64 b, .int .i64 c]
def rightB (a b c : Int) : Bool := decide (b ≤ a) && decide (a ≤ c)
theorem right_s (a b c : Int) : Pure Tryd.prog 0 20 [i64 a, i64 b, i64 c] (fun v => v = .bool (rightB a b c)) := by
  refine Pure.body tt_ok mixed Tryd.func20 rfl (Nat.le_of_ble_eq_true rfl) ?_
  (conv => whnf)
  repeat' (first | (refine @And.intro (chkAll _ = true) _ ?_ ?_; (· kernel_rfl); (conv => whnf)) | (refine JoinG.direct ?_; (conv => whnf)) | (refine AppG.mk ?_; (conv => whnf)) | (refine both_intro ?_ ?_ <;> (conv => whnf)) | (exact VR.int _ _) | (exact VR.bool _) | (refine VR.ptr ?_; kernel_rfl) | (refine VR.slice ?_; kernel_rfl) | (exact VR.sliceN _ _) | (refine VR.map ?_; kernel_rfl) | (exact VR.clean _ rfl) | (refine VR.aggOf ?_) | (refine OR.cellsOf ?_) | (exact AR.same _ rfl) | (exact trivial) | (refine amb_no ?_ ?_; (· exact Nat.succ_ne_zero _); (conv => whnf)) | (refine And.intro ?_ ?_; (· (first | decide | omega | (simp only [IntKind.wrap_i64]; omega) | (simp only [List.length_append]; omega) | (simp only [IntKind.wrap_i64, List.length_append]; omega) | (simp only [IntKind.wrap_i64, List.length_append, Int.natCast_add]; omega) | exact keepP_same _ _ _ | (repeat (first | exact trivial | refine And.intro rfl ?_)))); (conv => whnf)) | (refine fun (nc : Nat) (hnc : _ ≤ nc) => ?_; (conv => whnf)) | (refine bif2_true ?_ ?_; (· assumption); (conv => whnf)) | (refine bif2_false ?_ ?_; (· assumption); (conv => whnf)) | (refine bif2_split (fun h => ?_) (fun h => ?_) <;> (conv => whnf)))
  all_goals (refine ⟨?_, rfl⟩; simp [*, rightB])
theorem span_s (a b c : Int) : Pure Tryd.prog 0 28 [i64 a, i64 b, i64 c] (fun v => v = i64 (imax (imin a c) b)) := by
  refine Pure.body tt_ok mixed Tryd.func28 rfl (Nat.le_of_ble_eq_true rfl) ?_
  (conv => whnf)
  exact ⟨rfl, rfl⟩
theorem each_s (k : Nat) (hp : Plain Tryd.prog k) (g : Int → Int → Int) (hk : ∀ x y, Pure Tryd.prog 0 k [i64 x, i64 y] (fun v => v = i64 (g x y))) (a0 a1 a2 b0 b1 b2 : Int) :
    Pure Tryd.prog 0 26 [r3 a0 a1 a2, r3 b0 b1 b2, .func (.func k) #[] #[]] (fun v => v = r3 (g a0 b0) (g a1 b1) (g a2 b2)) := by
  refine Pure.body tt_ok mixed Tryd.func26 rfl (Nat.le_of_ble_eq_true rfl) ?_
  (conv => whnf)
  refine LoopG.unroll 4 ?_
  (conv => whnf)
  repeat (first | (refine CallG.val (hk _ _) hp rfl (Nat.zero_le _) ?_; (conv => whnf)) | (refine @And.intro (chkAll _ = true) _ ?_ ?_; (· kernel_rfl); (conv => whnf)) | (refine JoinG.direct ?_; (conv => whnf)) | (refine AppG.mk ?_; (conv => whnf)) | (refine And.intro ?_ ?_; (· (first | decide | omega | (simp only [IntKind.wrap_i64]; omega) | (simp only [List.length_append]; omega) | (simp only [IntKind.wrap_i64, List.length_append]; omega) | (simp only [IntKind.wrap_i64, List.length_append, Int.natCast_add]; omega) | exact keepP_same _ _ _ | (repeat (first | exact trivial | refine And.intro rfl ?_)))); (conv => whnf)))
  exact ⟨rfl, rfl⟩
def cl (x : Int) : Int := imax (imin x 1048576) 0
theorem right1_s (x y : Int) : Pure Tryd.prog 0 27 [i64 x, i64 y] (fun v => v = i64 (cl x)) := by
  refine Pure.body tt_ok mixed Tryd.func27 rfl (Nat.le_of_ble_eq_true rfl) ?_
  (conv => whnf)
  repeat (first | (refine CallG.val (span_s _ _ _) pl28 rfl (Nat.zero_le _) ?_; (conv => whnf)) | (refine @And.intro (chkAll _ = true) _ ?_ ?_; (· kernel_rfl); (conv => whnf)) | (refine JoinG.direct ?_; (conv => whnf)) | (refine AppG.mk ?_; (conv => whnf)) | (refine And.intro ?_ ?_; (· (first | decide | omega | (simp only [IntKind.wrap_i64]; omega) | (simp only [List.length_append]; omega) | (simp only [IntKind.wrap_i64, List.length_append]; omega) | (simp only [IntKind.wrap_i64, List.length_append, Int.natCast_add]; omega) | exact keepP_same _ _ _ | (repeat (first | exact trivial | refine And.intro rfl ?_)))); (conv => whnf)))
  exact ⟨rfl, rfl⟩
def okR (a : Int) : Bool := decide (0 ≤ a ∧ a ≤ 1048576)
def rightR (a b c : Int) : Bool := okR a && (okR b && okR c)
def fitsR (a b c x y z : Int) : Bool := decide (a ≤ x) && (decide (b ≤ y) && decide (c ≤ z))
theorem cl_eq (a : Int) : (a == cl a) = okR a := by
  unfold cl okR imax imin
  rw [Bool.eq_iff_iff]
  simp
  split <;> split <;> omega
theorem max_eq (a b : Int) : (imax a b == b) = decide (a ≤ b) := by
  unfold imax
  rw [Bool.eq_iff_iff]
  simp
  omega
theorem resRight_s (a b c : Int) : Pure Tryd.prog 0 21 [r3 a b c] (fun v => v = .bool (rightR a b c)) := by
  refine Pure.body tt_ok mixed Tryd.func21 rfl (Nat.le_of_ble_eq_true rfl) ?_
  (conv => whnf)
  repeat (first | (refine CallG.val (each_s _ pl27 (fun x _ => cl x) right1_s _ _ _ _ _ _) pl26 rfl (Nat.zero_le _) ?_; (conv => whnf)) | (refine @And.intro (chkAll _ = true) _ ?_ ?_; (· kernel_rfl); (conv => whnf)) | (refine JoinG.direct ?_; (conv => whnf)) | (refine AppG.mk ?_; (conv => whnf)) | (refine And.intro ?_ ?_; (· (first | decide | omega | (simp only [IntKind.wrap_i64]; omega) | (simp only [List.length_append]; omega) | (simp only [IntKind.wrap_i64, List.length_append]; omega) | (simp only [IntKind.wrap_i64, List.length_append, Int.natCast_add]; omega) | exact keepP_same _ _ _ | (repeat (first | exact trivial | refine And.intro rfl ?_)))); (conv => whnf)))
  refine ⟨?_, rfl⟩
  simp [cl_eq, rightR]
/-- one or the other -/
def chI (c : Bool) (x y : Int) : Int := match c with
  | true => x
  | false => y
@[simp] theorem chI_t (x y : Int) : chI true x y = x := rfl
@[simp] theorem chI_f (x y : Int) : chI false x y = y := rfl
abbrev rb (c : Bool) (x y z : Int) : Value := .tuple #[r3 (chI c x 0) (chI c y 0) (chI c z 0), .bool c]
def bothB (a b c x y z p q r : Int) : Bool := rightR a b c && (rightR x y z && rightR p q r)
theorem wrap_in {a : Int} (h : -9223372036854775808 ≤ a ∧ a ≤ 9223372036854775807) : IntKind.i64.wrap a = a := IntWalk.i64_in _ h
theorem okR_iff {a : Int} : okR a = true ↔ 0 ≤ a ∧ a ≤ 1048576 := by simp [okR]
theorem rightR_iff {a b c : Int} : rightR a b c = true ↔ (0 ≤ a ∧ a ≤ 1048576) ∧ (0 ≤ b ∧ b ≤ 1048576) ∧ (0 ≤ c ∧ c ≤ 1048576) := by simp [rightR, okR]
def addB (a b c x y z : Int) : Bool := bothB a b c x y z (a + x) (b + y) (c + z)
theorem add_wrap (a b c x y z : Int) : bothB a b c x y z (IntKind.i64.wrap (a + x)) (IntKind.i64.wrap (b + y)) (IntKind.i64.wrap (c + z)) = addB a b c x y z := by
  unfold addB bothB
  cases h1 : rightR a b c
  · rfl
  · cases h2 : rightR x y z
    · rfl
    · rw [rightR_iff] at h1 h2
      rw [wrap_in (by omega), wrap_in (by omega), wrap_in (by omega)]
def subB (a b c x y z : Int) : Bool := bothB a b c x y z (a - x) (b - y) (c - z)
theorem sub_wrap (a b c x y z : Int) : bothB a b c x y z (IntKind.i64.wrap (a - x)) (IntKind.i64.wrap (b - y)) (IntKind.i64.wrap (c - z)) = subB a b c x y z := by
  unfold subB bothB
  cases h1 : rightR a b c
  · rfl
  · cases h2 : rightR x y z
    · rfl
    · rw [rightR_iff] at h1 h2
      rw [wrap_in (by omega), wrap_in (by omega), wrap_in (by omega)]
theorem ch_add {a b c x y z : Int} : rb (addB a b c x y z) (IntKind.i64.wrap (a + x)) (IntKind.i64.wrap (b + y)) (IntKind.i64.wrap (c + z)) = rb (addB a b c x y z) (a + x) (b + y) (c + z) := by
  cases h : addB a b c x y z
  · rfl
  · simp only [addB, bothB, Bool.and_eq_true, rightR_iff] at h
    rw [wrap_in (by omega), wrap_in (by omega), wrap_in (by omega)]
theorem ch_sub {a b c x y z : Int} : rb (subB a b c x y z) (IntKind.i64.wrap (a - x)) (IntKind.i64.wrap (b - y)) (IntKind.i64.wrap (c - z)) = rb (subB a b c x y z) (a - x) (b - y) (c - z) := by
  cases h : subB a b c x y z
  · rfl
  · simp only [subB, bothB, Bool.and_eq_true, rightR_iff] at h
    rw [wrap_in (by omega), wrap_in (by omega), wrap_in (by omega)]
theorem refRight_s (a b c : Int) : Pure Tryd.prog 0 22 [r3 a b c] (fun v => v = .bool (rightR a b c)) := by
  refine Pure.body tt_ok mixed Tryd.func22 rfl (Nat.le_of_ble_eq_true rfl) ?_
  (conv => whnf)
  refine LoopG.unroll 4 ?_
  (conv => whnf)
  repeat' (first | (refine @And.intro (chkAll _ = true) _ ?_ ?_; (· kernel_rfl); (conv => whnf)) | (refine JoinG.direct ?_; (conv => whnf)) | (refine AppG.mk ?_; (conv => whnf)) | (refine both_intro ?_ ?_ <;> (conv => whnf)) | (exact VR.int _ _) | (exact VR.bool _) | (refine VR.ptr ?_; kernel_rfl) | (refine VR.slice ?_; kernel_rfl) | (exact VR.sliceN _ _) | (refine VR.map ?_; kernel_rfl) | (exact VR.clean _ rfl) | (refine VR.aggOf ?_) | (refine OR.cellsOf ?_) | (exact AR.same _ rfl) | (exact trivial) | (refine amb_no ?_ ?_; (· exact Nat.succ_ne_zero _); (conv => whnf)) | (refine And.intro ?_ ?_; (· (first | decide | omega | (simp only [IntKind.wrap_i64]; omega) | (simp only [List.length_append]; omega) | (simp only [IntKind.wrap_i64, List.length_append]; omega) | (simp only [IntKind.wrap_i64, List.length_append, Int.natCast_add]; omega) | exact keepP_same _ _ _ | (repeat (first | exact trivial | refine And.intro rfl ?_)))); (conv => whnf)) | (refine fun (nc : Nat) (hnc : _ ≤ nc) => ?_; (conv => whnf)) | (refine bif2_true ?_ ?_; (· assumption); (conv => whnf)) | (refine bif2_false ?_ ?_; (· assumption); (conv => whnf)) | (refine bif2_split (fun h => ?_) (fun h => ?_) <;> (conv => whnf)))
  all_goals (refine ⟨?_, rfl⟩; simp_all [rightR, okR])
  all_goals omega
theorem subB_eq (a b c x y z : Int) : subB a b c x y z = (rightR a b c && (rightR x y z && fitsR x y z a b c)) := by
  unfold subB bothB
  rw [Bool.eq_iff_iff]
  simp only [Bool.and_eq_true, rightR_iff, fitsR, decide_eq_true_eq]
  constructor
  · intro h; omega
  · intro h; omega
end Go.Proofs.YtpicmpfcmgocmaaDoor

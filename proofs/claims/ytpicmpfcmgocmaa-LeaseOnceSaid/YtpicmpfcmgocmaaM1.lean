/- Contracts of functions of the program and of the reference: what each call comes to. -/
import Derived.Test.YtpicmpfcmgocmaaGe
import Derived.Test.YtpicmpfcmgocmaaProg
namespace Go.Proofs.Ytpicmpfcmgocmaa
open Go.RowKit
def tt70 : TK := ⟨⟨.struct #[⟨ "Id", 3, 0, false, "", "", 0⟩, ⟨ "Inc", 3, 1, false, "", "", 8⟩, ⟨ "Load", 3, 2, false, "", "", 16⟩, ⟨ "Cap", 68, 3, false, "", "", 24⟩, ⟨ "Used", 68, 6, false, "", "", 48⟩, ⟨ "Up", 4, 9, false, "", "", 72⟩], 10, 80, (.agg #[.int .i64 0, .int .i64 0, .int .i64 0, .int .i64 0, .int .i64 0, .int .i64 0, .int .i64 0, .int .i64 0, .int .i64 0, .bool false])⟩, [.i .i64, .i .i64, .i .i64, .i .i64, .i .i64, .i .i64, .i .i64, .i .i64, .i .i64, .b]⟩
def tt3 : TK := ⟨⟨.int .i64, 1, 8, (.int .i64 0)⟩, []⟩
def tt68 : TK := ⟨⟨.array 3 3, 3, 24, (.agg #[.int .i64 0, .int .i64 0, .int .i64 0])⟩, [.i .i64, .i .i64, .i .i64]⟩
def tt40 : TK := ⟨⟨.struct #[⟨ "Holder", 3, 0, false, "", "", 0⟩, ⟨ "Epoch", 3, 1, false, "", "", 8⟩, ⟨ "Until", 3, 2, false, "", "", 16⟩], 3, 24, (.agg #[.int .i64 0, .int .i64 0, .int .i64 0])⟩, [.i .i64, .i .i64, .i .i64]⟩
def tt42 : TK := ⟨⟨.struct #[⟨ "Span", 3, 0, false, "", "", 0⟩, ⟨ "Lease", 40, 1, false, "", "", 8⟩], 4, 32, (.agg #[.int .i64 0, .int .i64 0, .int .i64 0, .int .i64 0])⟩, [.i .i64, .i .i64, .i .i64, .i .i64]⟩
def tt46 : TK := ⟨⟨.struct #[⟨ "Kind", 3, 0, false, "", "", 0⟩, ⟨ "Now", 3, 1, false, "", "", 8⟩, ⟨ "Who", 3, 2, false, "", "", 16⟩, ⟨ "Epoch", 3, 3, false, "", "", 24⟩], 4, 32, (.agg #[.int .i64 0, .int .i64 0, .int .i64 0, .int .i64 0])⟩, [.i .i64, .i .i64, .i .i64, .i .i64]⟩
def tt72 : TK := ⟨⟨.struct #[⟨ "Kind", 3, 0, false, "", "", 0⟩, ⟨ "Inc", 3, 1, false, "", "", 8⟩, ⟨ "Res", 68, 2, false, "", "", 16⟩], 5, 40, (.agg #[.int .i64 0, .int .i64 0, .int .i64 0, .int .i64 0, .int .i64 0])⟩, [.i .i64, .i .i64, .i .i64, .i .i64, .i .i64]⟩
def tt85 : TK := ⟨⟨.int .u64, 1, 8, (.int .u64 0)⟩, []⟩
def tt113 : TK := ⟨⟨.struct #[⟨ "so", 24, 0, false, "", "reeve/node", 0⟩, ⟨ "e", 36, 1, false, "", "reeve/node", 8⟩], 2, 16, (.agg #[.nilFunc, .int .i64 0])⟩, []⟩
def tt65 : TK := ⟨⟨.struct #[⟨ "span", 3, 0, false, "", "reeve/lease", 0⟩, ⟨ "lease", 63, 1, false, "", "reeve/lease", 8⟩], 2, 16, (.agg #[.int .i64 0, .pointer none])⟩, []⟩
def tt35 : TK := ⟨⟨.pointer 65, 1, 8, (.pointer none)⟩, []⟩
def tt4 : TK := ⟨⟨.bool, 1, 1, (.bool false)⟩, []⟩
def tt79 : TK := ⟨⟨.slice 68, 1, 24, (.slice none 0 0)⟩, []⟩
def tt34 : TK := ⟨⟨.slice 46, 1, 24, (.slice none 0 0)⟩, []⟩
def tt114 : TK := ⟨⟨.slice 113, 1, 24, (.slice none 0 0)⟩, []⟩
def tt66 : TK := ⟨⟨.slice 35, 1, 24, (.slice none 0 0)⟩, []⟩
def tt5 : TK := ⟨⟨.int .u8, 1, 1, (.int .u8 0)⟩, []⟩
def tt57 : TK := ⟨⟨.pointer 40, 1, 8, (.pointer none)⟩, []⟩
def tt61 : TK := ⟨⟨.unsafePointer, 1, 8, (.pointer none)⟩, []⟩
def tt26 : TK := ⟨⟨.slice 3, 1, 24, (.slice none 0 0)⟩, []⟩
def tt63 : TK := ⟨⟨.struct #[⟨ "_", 58, 0, false, "", "sync/atomic", 0⟩, ⟨ "_", 60, 0, false, "", "sync/atomic", 0⟩, ⟨ "v", 61, 0, false, "", "sync/atomic", 0⟩], 1, 8, (.agg #[.pointer none])⟩, []⟩
def tt96 : TK := ⟨⟨.func #[40] #[40] false, 1, 8, .nilFunc⟩, []⟩
def tt78 : TK := ⟨⟨.slice 72, 1, 24, (.slice none 0 0)⟩, []⟩
def tt24 : TK := ⟨⟨.func #[] #[4] false, 1, 8, .nilFunc⟩, []⟩
def tt36 : TK := ⟨⟨.int .i64, 1, 8, (.int .i64 0)⟩, []⟩
def tt58 : TK := ⟨⟨.array 0 57, 0, 0, (.agg #[])⟩, []⟩
def tt60 : TK := ⟨⟨.struct #[], 0, 0, (.agg #[])⟩, []⟩
def tt : List (Nat × TK) := [(70, tt70), (3, tt3), (68, tt68), (40, tt40), (42, tt42), (46, tt46), (72, tt72), (85, tt85), (113, tt113), (65, tt65), (35, tt35), (4, tt4), (79, tt79), (34, tt34), (114, tt114), (66, tt66), (5, tt5), (57, tt57), (61, tt61), (26, tt26), (63, tt63), (96, tt96), (78, tt78), (24, tt24), (36, tt36), (58, tt58), (60, tt60)]
theorem tt_ok : TKok Try.prog tt := TKok.cons ⟨by kernel_rfl, by kernel_rfl, Or.inr ⟨by kernel_rfl, by kernel_rfl, by kernel_rfl, by kernel_rfl⟩⟩ (TKok.cons ⟨by kernel_rfl, by kernel_rfl, Or.inl rfl⟩ (TKok.cons ⟨by kernel_rfl, by kernel_rfl, Or.inr ⟨by kernel_rfl, by kernel_rfl, by kernel_rfl, by kernel_rfl⟩⟩ (TKok.cons ⟨by kernel_rfl, by kernel_rfl, Or.inr ⟨by kernel_rfl, by kernel_rfl, by kernel_rfl, by kernel_rfl⟩⟩ (TKok.cons ⟨by kernel_rfl, by kernel_rfl, Or.inr ⟨by kernel_rfl, by kernel_rfl, by kernel_rfl, by kernel_rfl⟩⟩ (TKok.cons ⟨by kernel_rfl, by kernel_rfl, Or.inr ⟨by kernel_rfl, by kernel_rfl, by kernel_rfl, by kernel_rfl⟩⟩ (TKok.cons ⟨by kernel_rfl, by kernel_rfl, Or.inr ⟨by kernel_rfl, by kernel_rfl, by kernel_rfl, by kernel_rfl⟩⟩ (TKok.cons ⟨by kernel_rfl, by kernel_rfl, Or.inl rfl⟩ (TKok.cons ⟨by kernel_rfl, by kernel_rfl, Or.inl rfl⟩ (TKok.cons ⟨by kernel_rfl, by kernel_rfl, Or.inl rfl⟩ (TKok.cons ⟨by kernel_rfl, by kernel_rfl, Or.inl rfl⟩ (TKok.cons ⟨by kernel_rfl, by kernel_rfl, Or.inl rfl⟩ (TKok.cons ⟨by kernel_rfl, by kernel_rfl, Or.inl rfl⟩ (TKok.cons ⟨by kernel_rfl, by kernel_rfl, Or.inl rfl⟩ (TKok.cons ⟨by kernel_rfl, by kernel_rfl, Or.inl rfl⟩ (TKok.cons ⟨by kernel_rfl, by kernel_rfl, Or.inl rfl⟩ (TKok.cons ⟨by kernel_rfl, by kernel_rfl, Or.inl rfl⟩ (TKok.cons ⟨by kernel_rfl, by kernel_rfl, Or.inl rfl⟩ (TKok.cons ⟨by kernel_rfl, by kernel_rfl, Or.inl rfl⟩ (TKok.cons ⟨by kernel_rfl, by kernel_rfl, Or.inl rfl⟩ (TKok.cons ⟨by kernel_rfl, by kernel_rfl, Or.inl rfl⟩ (TKok.cons ⟨by kernel_rfl, by kernel_rfl, Or.inl rfl⟩ (TKok.cons ⟨by kernel_rfl, by kernel_rfl, Or.inl rfl⟩ (TKok.cons ⟨by kernel_rfl, by kernel_rfl, Or.inl rfl⟩ (TKok.cons ⟨by kernel_rfl, by kernel_rfl, Or.inl rfl⟩ (TKok.cons ⟨by kernel_rfl, by kernel_rfl, Or.inl rfl⟩ (TKok.cons ⟨by kernel_rfl, by kernel_rfl, Or.inl rfl⟩ (TKok.nil _)))))))))))))))))))))))))))
theorem mixed : Try.prog.follows .mixedOrders = true := by kernel_rfl
theorem pl22 : Plain Try.prog 22 := Plain.of Try.func22 (by kernel_rfl) rfl
theorem pl24 : Plain Try.prog 24 := Plain.of Try.func24 (by kernel_rfl) rfl
theorem pl75 : Plain Try.prog 75 := Plain.of Try.func75 (by kernel_rfl) rfl
theorem pl76 : Plain Try.prog 76 := Plain.of Try.func76 (by kernel_rfl) rfl
theorem pl98 : Plain Try.prog 98 := Plain.of Try.func98 (by kernel_rfl) rfl
theorem pl100 : Plain Try.prog 100 := Plain.of Try.func100 (by kernel_rfl) rfl
theorem pl106 : Plain Try.prog 106 := Plain.of Try.func106 (by kernel_rfl) rfl
theorem pl93 : Plain Try.prog 93 := Plain.of Try.func93 (by kernel_rfl) rfl
theorem pl94 : Plain Try.prog 94 := Plain.of Try.func94 (by kernel_rfl) rfl
theorem pl99 : Plain Try.prog 99 := Plain.of Try.func99 (by kernel_rfl) rfl
theorem pl109 : Plain Try.prog 109 := Plain.of Try.func109 (by kernel_rfl) rfl
theorem pl107 : Plain Try.prog 107 := Plain.of Try.func107 (by kernel_rfl) rfl
theorem pl108 : Plain Try.prog 108 := Plain.of Try.func108 (by kernel_rfl) rfl
theorem pl72 : Plain Try.prog 72 := Plain.of Try.func72 (by kernel_rfl) rfl
theorem pl47 : Plain Try.prog 47 := Plain.of Try.func47 (by kernel_rfl) rfl
theorem pl74 : Plain Try.prog 74 := Plain.of Try.func74 (by kernel_rfl) rfl
theorem pl48 : Plain Try.prog 48 := Plain.of Try.func48 (by kernel_rfl) rfl
abbrev i64 (a : Int) : Value := .int .i64 a
abbrev r3 (a b c : Int) : Value := .agg #[.int .i64 a, .int .i64 b, .int .i64 c]
def rightB (a b c : Int) : Bool := decide (b ≤ a) && decide (a ≤ c)
theorem right_s (a b c : Int) : Pure Try.prog 0 22 [i64 a, i64 b, i64 c] (fun v => v = .bool (rightB a b c)) := by
  refine Pure.body tt_ok mixed Try.func22 rfl (Nat.le_of_ble_eq_true rfl) ?_
  (conv => whnf)
  repeat' (first | (refine @And.intro (chkAll _ = true) _ ?_ ?_; (· kernel_rfl); (conv => whnf)) | (refine JoinG.direct ?_; (conv => whnf)) | (refine both_intro ?_ ?_ <;> (conv => whnf)) | (exact VR.int _ _) | (exact VR.bool _) | (refine VR.ptr ?_; kernel_rfl) | (refine VR.slice ?_; kernel_rfl) | (exact VR.sliceN _ _) | (refine VR.map ?_; kernel_rfl) | (exact VR.clean _ rfl) | (refine VR.aggOf ?_) | (refine OR.cellsOf ?_) | (exact AR.same _ rfl) | (exact trivial) | (refine amb_no ?_ ?_; (· exact Nat.succ_ne_zero _); (conv => whnf)) | (refine And.intro ?_ ?_; (· (first | decide | omega | (simp only [IntKind.wrap_i64]; omega) | (simp only [List.length_append]; omega) | (simp only [IntKind.wrap_i64, List.length_append]; omega) | (simp only [IntKind.wrap_i64, List.length_append, Int.natCast_add]; omega) | exact keepP_same _ _ _ | (repeat (first | exact trivial | refine And.intro rfl ?_)))); (conv => whnf)) | (refine fun (nc : Nat) (hnc : _ ≤ nc) => ?_; (conv => whnf)) | (refine bif2_true ?_ ?_; (· assumption); (conv => whnf)) | (refine bif2_false ?_ ?_; (· assumption); (conv => whnf)) | (refine bif2_split (fun h => ?_) (fun h => ?_) <;> (conv => whnf)))
  all_goals (refine ⟨?_, rfl⟩; simp [*, rightB])
theorem span_s (a b c : Int) : Pure Try.prog 0 24 [i64 a, i64 b, i64 c] (fun v => v = i64 (imax (imin a c) b)) := by
  refine Pure.body tt_ok mixed Try.func24 rfl (Nat.le_of_ble_eq_true rfl) ?_
  (conv => whnf)
  exact ⟨rfl, rfl⟩
theorem each_s (k : Nat) (hp : Plain Try.prog k) (g : Int → Int → Int) (hk : ∀ x y, Pure Try.prog 0 k [i64 x, i64 y] (fun v => v = i64 (g x y))) (a0 a1 a2 b0 b1 b2 : Int) :
    Pure Try.prog 0 98 [r3 a0 a1 a2, r3 b0 b1 b2, .func (.func k) #[] #[]] (fun v => v = r3 (g a0 b0) (g a1 b1) (g a2 b2)) := by
  refine Pure.body tt_ok mixed Try.func98 rfl (Nat.le_of_ble_eq_true rfl) ?_
  (conv => whnf)
  refine LoopG.unroll 4 ?_
  (conv => whnf)
  repeat (first | (refine CallG.val (hk _ _) hp rfl (Nat.zero_le _) ?_; (conv => whnf)) | (refine @And.intro (chkAll _ = true) _ ?_ ?_; (· kernel_rfl); (conv => whnf)) | (refine JoinG.direct ?_; (conv => whnf)) | (refine And.intro ?_ ?_; (· (first | decide | omega | (simp only [IntKind.wrap_i64]; omega) | (simp only [List.length_append]; omega) | (simp only [IntKind.wrap_i64, List.length_append]; omega) | (simp only [IntKind.wrap_i64, List.length_append, Int.natCast_add]; omega) | exact keepP_same _ _ _ | (repeat (first | exact trivial | refine And.intro rfl ?_)))); (conv => whnf)))
  exact ⟨rfl, rfl⟩
def cl (x : Int) : Int := imax (imin x 1048576) 0
theorem right1_s (x y : Int) : Pure Try.prog 0 99 [i64 x, i64 y] (fun v => v = i64 (cl x)) := by
  refine Pure.body tt_ok mixed Try.func99 rfl (Nat.le_of_ble_eq_true rfl) ?_
  (conv => whnf)
  repeat (first | (refine CallG.val (span_s _ _ _) pl24 rfl (Nat.zero_le _) ?_; (conv => whnf)) | (refine @And.intro (chkAll _ = true) _ ?_ ?_; (· kernel_rfl); (conv => whnf)) | (refine JoinG.direct ?_; (conv => whnf)) | (refine And.intro ?_ ?_; (· (first | decide | omega | (simp only [IntKind.wrap_i64]; omega) | (simp only [List.length_append]; omega) | (simp only [IntKind.wrap_i64, List.length_append]; omega) | (simp only [IntKind.wrap_i64, List.length_append, Int.natCast_add]; omega) | exact keepP_same _ _ _ | (repeat (first | exact trivial | refine And.intro rfl ?_)))); (conv => whnf)))
  exact ⟨rfl, rfl⟩
theorem most1_s (x y : Int) : Pure Try.prog 0 109 [i64 x, i64 y] (fun v => v = i64 (imax x y)) := by
  refine Pure.body tt_ok mixed Try.func109 rfl (Nat.le_of_ble_eq_true rfl) ?_
  (conv => whnf)
  exact ⟨rfl, rfl⟩
theorem add1_s (x y : Int) : Pure Try.prog 0 107 [i64 x, i64 y] (fun v => v = i64 (IntKind.i64.wrap (x + y))) := by
  refine Pure.body tt_ok mixed Try.func107 rfl (Nat.le_of_ble_eq_true rfl) ?_
  (conv => whnf)
  exact ⟨rfl, rfl⟩
theorem sub1_s (x y : Int) : Pure Try.prog 0 108 [i64 x, i64 y] (fun v => v = i64 (IntKind.i64.wrap (x - y))) := by
  refine Pure.body tt_ok mixed Try.func108 rfl (Nat.le_of_ble_eq_true rfl) ?_
  (conv => whnf)
  exact ⟨rfl, rfl⟩
def okR (a : Int) : Bool := decide (0 ≤ a ∧ a ≤ 1048576)
def rightR (a b c : Int) : Bool := okR a && (okR b && okR c)
def fitsR (a b c x y z : Int) : Bool := decide (a ≤ x) && (decide (b ≤ y) && decide (c ≤ z))
theorem cl_eq (a : Int) : (a == cl a) = okR a := by
  unfold cl okR imax imin
  rw [Bool.eq_iff_iff]
  simp
  split <;> split <;> omega
theorem max_eq (a b : Int) : (imax a b == b) = decide (a ≤ b) := by
  unfold imax
  rw [Bool.eq_iff_iff]
  simp
  omega
theorem resRight_s (a b c : Int) : Pure Try.prog 0 75 [r3 a b c] (fun v => v = .bool (rightR a b c)) := by
  refine Pure.body tt_ok mixed Try.func75 rfl (Nat.le_of_ble_eq_true rfl) ?_
  (conv => whnf)
  repeat (first | (refine CallG.val (each_s _ pl99 (fun x _ => cl x) right1_s _ _ _ _ _ _) pl98 rfl (Nat.zero_le _) ?_; (conv => whnf)) | (refine @And.intro (chkAll _ = true) _ ?_ ?_; (· kernel_rfl); (conv => whnf)) | (refine JoinG.direct ?_; (conv => whnf)) | (refine And.intro ?_ ?_; (· (first | decide | omega | (simp only [IntKind.wrap_i64]; omega) | (simp only [List.length_append]; omega) | (simp only [IntKind.wrap_i64, List.length_append]; omega) | (simp only [IntKind.wrap_i64, List.length_append, Int.natCast_add]; omega) | exact keepP_same _ _ _ | (repeat (first | exact trivial | refine And.intro rfl ?_)))); (conv => whnf)))
  refine ⟨?_, rfl⟩
  simp [cl_eq, rightR]
theorem most_s (a b c x y z : Int) : Pure Try.prog 0 100 [r3 a b c, r3 x y z] (fun v => v = r3 (imax a x) (imax b y) (imax c z)) := by
  refine Pure.body tt_ok mixed Try.func100 rfl (Nat.le_of_ble_eq_true rfl) ?_
  (conv => whnf)
  repeat (first | (refine CallG.val (each_s _ pl109 imax most1_s _ _ _ _ _ _) pl98 rfl (Nat.zero_le _) ?_; (conv => whnf)) | (refine @And.intro (chkAll _ = true) _ ?_ ?_; (· kernel_rfl); (conv => whnf)) | (refine JoinG.direct ?_; (conv => whnf)) | (refine And.intro ?_ ?_; (· (first | decide | omega | (simp only [IntKind.wrap_i64]; omega) | (simp only [List.length_append]; omega) | (simp only [IntKind.wrap_i64, List.length_append]; omega) | (simp only [IntKind.wrap_i64, List.length_append, Int.natCast_add]; omega) | exact keepP_same _ _ _ | (repeat (first | exact trivial | refine And.intro rfl ?_)))); (conv => whnf)))
  exact ⟨rfl, rfl⟩
theorem fits_s (a b c x y z : Int) : Pure Try.prog 0 76 [r3 a b c, r3 x y z] (fun v => v = .bool (fitsR a b c x y z)) := by
  refine Pure.body tt_ok mixed Try.func76 rfl (Nat.le_of_ble_eq_true rfl) ?_
  (conv => whnf)
  repeat (first | (refine CallG.val (most_s _ _ _ _ _ _) pl100 rfl (Nat.zero_le _) ?_; (conv => whnf)) | (refine @And.intro (chkAll _ = true) _ ?_ ?_; (· kernel_rfl); (conv => whnf)) | (refine JoinG.direct ?_; (conv => whnf)) | (refine And.intro ?_ ?_; (· (first | decide | omega | (simp only [IntKind.wrap_i64]; omega) | (simp only [List.length_append]; omega) | (simp only [IntKind.wrap_i64, List.length_append]; omega) | (simp only [IntKind.wrap_i64, List.length_append, Int.natCast_add]; omega) | exact keepP_same _ _ _ | (repeat (first | exact trivial | refine And.intro rfl ?_)))); (conv => whnf)))
  refine ⟨?_, rfl⟩
  simp [max_eq, fitsR]
/-- one or the other -/
def chI (c : Bool) (x y : Int) : Int := match c with
  | true => x
  | false => y
@[simp] theorem chI_t (x y : Int) : chI true x y = x := rfl
@[simp] theorem chI_f (x y : Int) : chI false x y = y := rfl
abbrev rb (c : Bool) (x y z : Int) : Value := .tuple #[r3 (chI c x 0) (chI c y 0) (chI c z 0), .bool c]
def bothB (a b c x y z p q r : Int) : Bool := rightR a b c && (rightR x y z && rightR p q r)
theorem both_s (k : Nat) (hp : Plain Try.prog k) (g : Int → Int → Int) (hk : ∀ x y, Pure Try.prog 0 k [i64 x, i64 y] (fun v => v = i64 (g x y))) (a b c x y z : Int) :
    Pure Try.prog 0 106 [r3 a b c, r3 x y z, .func (.func k) #[] #[]] (fun v => v = rb (bothB a b c x y z (g a x) (g b y) (g c z)) (g a x) (g b y) (g c z)) := by
  refine Pure.body tt_ok mixed Try.func106 rfl (Nat.le_of_ble_eq_true rfl) ?_
  (conv => whnf)
  repeat' (first | (refine CallG.val (resRight_s _ _ _) pl75 rfl (Nat.zero_le _) ?_; (conv => whnf)) | (refine CallG.val (each_s _ hp g hk _ _ _ _ _ _) pl98 rfl (Nat.zero_le _) ?_; (conv => whnf)) | (refine @And.intro (chkAll _ = true) _ ?_ ?_; (· kernel_rfl); (conv => whnf)) | (refine JoinG.direct ?_; (conv => whnf)) | (refine both_intro ?_ ?_ <;> (conv => whnf)) | (exact VR.int _ _) | (exact VR.bool _) | (refine VR.ptr ?_; kernel_rfl) | (refine VR.slice ?_; kernel_rfl) | (exact VR.sliceN _ _) | (refine VR.map ?_; kernel_rfl) | (exact VR.clean _ rfl) | (refine VR.aggOf ?_) | (refine OR.cellsOf ?_) | (exact AR.same _ rfl) | (exact trivial) | (refine amb_no ?_ ?_; (· exact Nat.succ_ne_zero _); (conv => whnf)) | (refine And.intro ?_ ?_; (· (first | decide | omega | (simp only [IntKind.wrap_i64]; omega) | (simp only [List.length_append]; omega) | (simp only [IntKind.wrap_i64, List.length_append]; omega) | (simp only [IntKind.wrap_i64, List.length_append, Int.natCast_add]; omega) | exact keepP_same _ _ _ | (repeat (first | exact trivial | refine And.intro rfl ?_)))); (conv => whnf)) | (refine fun (nc : Nat) (hnc : _ ≤ nc) => ?_; (conv => whnf)) | (refine bif2_true ?_ ?_; (· assumption); (conv => whnf)) | (refine bif2_false ?_ ?_; (· assumption); (conv => whnf)) | (refine bif2_split (fun h => ?_) (fun h => ?_) <;> (conv => whnf)))
  all_goals (refine ⟨?_, rfl⟩; simp_all [bothB])
theorem wrap_in {a : Int} (h : -9223372036854775808 ≤ a ∧ a ≤ 9223372036854775807) : IntKind.i64.wrap a = a := IntWalk.i64_in _ h
theorem okR_iff {a : Int} : okR a = true ↔ 0 ≤ a ∧ a ≤ 1048576 := by simp [okR]
theorem rightR_iff {a b c : Int} : rightR a b c = true ↔ (0 ≤ a ∧ a ≤ 1048576) ∧ (0 ≤ b ∧ b ≤ 1048576) ∧ (0 ≤ c ∧ c ≤ 1048576) := by simp [rightR, okR]
def addB (a b c x y z : Int) : Bool := bothB a b c x y z (a + x) (b + y) (c + z)
theorem add_wrap (a b c x y z : Int) : bothB a b c x y z (IntKind.i64.wrap (a + x)) (IntKind.i64.wrap (b + y)) (IntKind.i64.wrap (c + z)) = addB a b c x y z := by
  unfold addB bothB
  cases h1 : rightR a b c
  · rfl
  · cases h2 : rightR x y z
    · rfl
    · rw [rightR_iff] at h1 h2
      rw [wrap_in (by omega), wrap_in (by omega), wrap_in (by omega)]
def subB (a b c x y z : Int) : Bool := bothB a b c x y z (a - x) (b - y) (c - z)
theorem sub_wrap (a b c x y z : Int) : bothB a b c x y z (IntKind.i64.wrap (a - x)) (IntKind.i64.wrap (b - y)) (IntKind.i64.wrap (c - z)) = subB a b c x y z := by
  unfold subB bothB
  cases h1 : rightR a b c
  · rfl
  · cases h2 : rightR x y z
    · rfl
    · rw [rightR_iff] at h1 h2
      rw [wrap_in (by omega), wrap_in (by omega), wrap_in (by omega)]
theorem ch_add {a b c x y z : Int} : rb (addB a b c x y z) (IntKind.i64.wrap (a + x)) (IntKind.i64.wrap (b + y)) (IntKind.i64.wrap (c + z)) = rb (addB a b c x y z) (a + x) (b + y) (c + z) := by
  cases h : addB a b c x y z
  · rfl
  · simp only [addB, bothB, Bool.and_eq_true, rightR_iff] at h
    rw [wrap_in (by omega), wrap_in (by omega), wrap_in (by omega)]
theorem ch_sub {a b c x y z : Int} : rb (subB a b c x y z) (IntKind.i64.wrap (a - x)) (IntKind.i64.wrap (b - y)) (IntKind.i64.wrap (c - z)) = rb (subB a b c x y z) (a - x) (b - y) (c - z) := by
  cases h : subB a b c x y z
  · rfl
  · simp only [subB, bothB, Bool.and_eq_true, rightR_iff] at h
    rw [wrap_in (by omega), wrap_in (by omega), wrap_in (by omega)]
theorem resAdd_s (a b c x y z : Int) : Pure Try.prog 0 93 [r3 a b c, r3 x y z] (fun v => v = rb (addB a b c x y z) (a + x) (b + y) (c + z)) := by
  rw [← ch_add, ← add_wrap]
  refine Pure.body tt_ok mixed Try.func93 rfl (Nat.le_of_ble_eq_true rfl) ?_
  (conv => whnf)
  repeat' (first | (refine CallG.val (both_s _ pl107 _ add1_s _ _ _ _ _ _) pl106 rfl (Nat.zero_le _) ?_; (conv => whnf)) | (refine @And.intro (chkAll _ = true) _ ?_ ?_; (· kernel_rfl); (conv => whnf)) | (refine JoinG.direct ?_; (conv => whnf)) | (refine both_intro ?_ ?_ <;> (conv => whnf)) | (exact VR.int _ _) | (exact VR.bool _) | (refine VR.ptr ?_; kernel_rfl) | (refine VR.slice ?_; kernel_rfl) | (exact VR.sliceN _ _) | (refine VR.map ?_; kernel_rfl) | (exact VR.clean _ rfl) | (refine VR.aggOf ?_) | (refine OR.cellsOf ?_) | (exact AR.same _ rfl) | (exact trivial) | (refine amb_no ?_ ?_; (· exact Nat.succ_ne_zero _); (conv => whnf)) | (refine And.intro ?_ ?_; (· (first | decide | omega | (simp only [IntKind.wrap_i64]; omega) | (simp only [List.length_append]; omega) | (simp only [IntKind.wrap_i64, List.length_append]; omega) | (simp only [IntKind.wrap_i64, List.length_append, Int.natCast_add]; omega) | exact keepP_same _ _ _ | (repeat (first | exact trivial | refine And.intro rfl ?_)))); (conv => whnf)) | (refine fun (nc : Nat) (hnc : _ ≤ nc) => ?_; (conv => whnf)) | (refine bif2_true ?_ ?_; (· assumption); (conv => whnf)) | (refine bif2_false ?_ ?_; (· assumption); (conv => whnf)) | (refine bif2_split (fun h => ?_) (fun h => ?_) <;> (conv => whnf)))
  exact ⟨rfl, rfl⟩
theorem resSub_s (a b c x y z : Int) : Pure Try.prog 0 94 [r3 a b c, r3 x y z] (fun v => v = rb (subB a b c x y z) (a - x) (b - y) (c - z)) := by
  rw [← ch_sub, ← sub_wrap]
  refine Pure.body tt_ok mixed Try.func94 rfl (Nat.le_of_ble_eq_true rfl) ?_
  (conv => whnf)
  repeat' (first | (refine CallG.val (both_s _ pl108 _ sub1_s _ _ _ _ _ _) pl106 rfl (Nat.zero_le _) ?_; (conv => whnf)) | (refine @And.intro (chkAll _ = true) _ ?_ ?_; (· kernel_rfl); (conv => whnf)) | (refine JoinG.direct ?_; (conv => whnf)) | (refine both_intro ?_ ?_ <;> (conv => whnf)) | (exact VR.int _ _) | (exact VR.bool _) | (refine VR.ptr ?_; kernel_rfl) | (refine VR.slice ?_; kernel_rfl) | (exact VR.sliceN _ _) | (refine VR.map ?_; kernel_rfl) | (exact VR.clean _ rfl) | (refine VR.aggOf ?_) | (refine OR.cellsOf ?_) | (exact AR.same _ rfl) | (exact trivial) | (refine amb_no ?_ ?_; (· exact Nat.succ_ne_zero _); (conv => whnf)) | (refine And.intro ?_ ?_; (· (first | decide | omega | (simp only [IntKind.wrap_i64]; omega) | (simp only [List.length_append]; omega) | (simp only [IntKind.wrap_i64, List.length_append]; omega) | (simp only [IntKind.wrap_i64, List.length_append, Int.natCast_add]; omega) | exact keepP_same _ _ _ | (repeat (first | exact trivial | refine And.intro rfl ?_)))); (conv => whnf)) | (refine fun (nc : Nat) (hnc : _ ≤ nc) => ?_; (conv => whnf)) | (refine bif2_true ?_ ?_; (· assumption); (conv => whnf)) | (refine bif2_false ?_ ?_; (· assumption); (conv => whnf)) | (refine bif2_split (fun h => ?_) (fun h => ?_) <;> (conv => whnf)))
  exact ⟨rfl, rfl⟩
/-! the reference -/
theorem refRight_s (a b c : Int) : Pure Try.prog 0 72 [r3 a b c] (fun v => v = .bool (rightR a b c)) := by
  refine Pure.body tt_ok mixed Try.func72 rfl (Nat.le_of_ble_eq_true rfl) ?_
  (conv => whnf)
  refine LoopG.unroll 4 ?_
  (conv => whnf)
  repeat' (first | (refine @And.intro (chkAll _ = true) _ ?_ ?_; (· kernel_rfl); (conv => whnf)) | (refine JoinG.direct ?_; (conv => whnf)) | (refine both_intro ?_ ?_ <;> (conv => whnf)) | (exact VR.int _ _) | (exact VR.bool _) | (refine VR.ptr ?_; kernel_rfl) | (refine VR.slice ?_; kernel_rfl) | (exact VR.sliceN _ _) | (refine VR.map ?_; kernel_rfl) | (exact VR.clean _ rfl) | (refine VR.aggOf ?_) | (refine OR.cellsOf ?_) | (exact AR.same _ rfl) | (exact trivial) | (refine amb_no ?_ ?_; (· exact Nat.succ_ne_zero _); (conv => whnf)) | (refine And.intro ?_ ?_; (· (first | decide | omega | (simp only [IntKind.wrap_i64]; omega) | (simp only [List.length_append]; omega) | (simp only [IntKind.wrap_i64, List.length_append]; omega) | (simp only [IntKind.wrap_i64, List.length_append, Int.natCast_add]; omega) | exact keepP_same _ _ _ | (repeat (first | exact trivial | refine And.intro rfl ?_)))); (conv => whnf)) | (refine fun (nc : Nat) (hnc : _ ≤ nc) => ?_; (conv => whnf)) | (refine bif2_true ?_ ?_; (· assumption); (conv => whnf)) | (refine bif2_false ?_ ?_; (· assumption); (conv => whnf)) | (refine bif2_split (fun h => ?_) (fun h => ?_) <;> (conv => whnf)))
  all_goals (refine ⟨?_, rfl⟩; simp_all [rightR, okR])
  all_goals omega
theorem refFits_s (a b c x y z : Int) : Pure Try.prog 0 48 [r3 a b c, r3 x y z] (fun v => v = .bool (fitsR a b c x y z)) := by
  refine Pure.body tt_ok mixed Try.func48 rfl (Nat.le_of_ble_eq_true rfl) ?_
  (conv => whnf)
  repeat' (first | (refine @And.intro (chkAll _ = true) _ ?_ ?_; (· kernel_rfl); (conv => whnf)) | (refine JoinG.direct ?_; (conv => whnf)) | (refine both_intro ?_ ?_ <;> (conv => whnf)) | (exact VR.int _ _) | (exact VR.bool _) | (refine VR.ptr ?_; kernel_rfl) | (refine VR.slice ?_; kernel_rfl) | (exact VR.sliceN _ _) | (refine VR.map ?_; kernel_rfl) | (exact VR.clean _ rfl) | (refine VR.aggOf ?_) | (refine OR.cellsOf ?_) | (exact AR.same _ rfl) | (exact trivial) | (refine amb_no ?_ ?_; (· exact Nat.succ_ne_zero _); (conv => whnf)) | (refine And.intro ?_ ?_; (· (first | decide | omega | (simp only [IntKind.wrap_i64]; omega) | (simp only [List.length_append]; omega) | (simp only [IntKind.wrap_i64, List.length_append]; omega) | (simp only [IntKind.wrap_i64, List.length_append, Int.natCast_add]; omega) | exact keepP_same _ _ _ | (repeat (first | exact trivial | refine And.intro rfl ?_)))); (conv => whnf)) | (refine fun (nc : Nat) (hnc : _ ≤ nc) => ?_; (conv => whnf)) | (refine bif2_true ?_ ?_; (· assumption); (conv => whnf)) | (refine bif2_false ?_ ?_; (· assumption); (conv => whnf)) | (refine bif2_split (fun h => ?_) (fun h => ?_) <;> (conv => whnf)))
  all_goals (refine ⟨?_, rfl⟩; simp_all [fitsR])
  all_goals omega
theorem refAdd_s (a b c x y z : Int) : Pure Try.prog 0 47 [r3 a b c, r3 x y z] (fun v => v = rb (addB a b c x y z) (a + x) (b + y) (c + z)) := by
  rw [← ch_add, ← add_wrap]
  refine Pure.body tt_ok mixed Try.func47 rfl (Nat.le_of_ble_eq_true rfl) ?_
  (conv => whnf)
  repeat' (first | (refine CallG.val (refRight_s _ _ _) pl72 rfl (Nat.zero_le _) ?_; (conv => whnf)) | (refine @And.intro (chkAll _ = true) _ ?_ ?_; (· kernel_rfl); (conv => whnf)) | (refine JoinG.direct ?_; (conv => whnf)) | (refine both_intro ?_ ?_ <;> (conv => whnf)) | (exact VR.int _ _) | (exact VR.bool _) | (refine VR.ptr ?_; kernel_rfl) | (refine VR.slice ?_; kernel_rfl) | (exact VR.sliceN _ _) | (refine VR.map ?_; kernel_rfl) | (exact VR.clean _ rfl) | (refine VR.aggOf ?_) | (refine OR.cellsOf ?_) | (exact AR.same _ rfl) | (exact trivial) | (refine amb_no ?_ ?_; (· exact Nat.succ_ne_zero _); (conv => whnf)) | (refine And.intro ?_ ?_; (· (first | decide | omega | (simp only [IntKind.wrap_i64]; omega) | (simp only [List.length_append]; omega) | (simp only [IntKind.wrap_i64, List.length_append]; omega) | (simp only [IntKind.wrap_i64, List.length_append, Int.natCast_add]; omega) | exact keepP_same _ _ _ | (repeat (first | exact trivial | refine And.intro rfl ?_)))); (conv => whnf)) | (refine fun (nc : Nat) (hnc : _ ≤ nc) => ?_; (conv => whnf)) | (refine bif2_true ?_ ?_; (· assumption); (conv => whnf)) | (refine bif2_false ?_ ?_; (· assumption); (conv => whnf)) | (refine bif2_split (fun h => ?_) (fun h => ?_) <;> (conv => whnf)))
  all_goals (refine ⟨?_, rfl⟩; simp_all [bothB])
theorem subB_eq (a b c x y z : Int) : subB a b c x y z = (rightR a b c && (rightR x y z && fitsR x y z a b c)) := by
  unfold subB bothB
  rw [Bool.eq_iff_iff]
  simp only [Bool.and_eq_true, rightR_iff, fitsR, decide_eq_true_eq]
  constructor
  · intro h; omega
  · intro h; omega
theorem refSub_s (a b c x y z : Int) : Pure Try.prog 0 74 [r3 a b c, r3 x y z] (fun v => v = rb (subB a b c x y z) (a - x) (b - y) (c - z)) := by
  rw [← ch_sub]
  refine Pure.body tt_ok mixed Try.func74 rfl (Nat.le_of_ble_eq_true rfl) ?_
  (conv => whnf)
  repeat' (first | (refine CallG.val (refRight_s _ _ _) pl72 rfl (Nat.zero_le _) ?_; (conv => whnf)) | (refine CallG.val (refFits_s _ _ _ _ _ _) pl48 rfl (Nat.zero_le _) ?_; (conv => whnf)) | (refine @And.intro (chkAll _ = true) _ ?_ ?_; (· kernel_rfl); (conv => whnf)) | (refine JoinG.direct ?_; (conv => whnf)) | (refine both_intro ?_ ?_ <;> (conv => whnf)) | (exact VR.int _ _) | (exact VR.bool _) | (refine VR.ptr ?_; kernel_rfl) | (refine VR.slice ?_; kernel_rfl) | (exact VR.sliceN _ _) | (refine VR.map ?_; kernel_rfl) | (exact VR.clean _ rfl) | (refine VR.aggOf ?_) | (refine OR.cellsOf ?_) | (exact AR.same _ rfl) | (exact trivial) | (refine amb_no ?_ ?_; (· exact Nat.succ_ne_zero _); (conv => whnf)) | (refine And.intro ?_ ?_; (· (first | decide | omega | (simp only [IntKind.wrap_i64]; omega) | (simp only [List.length_append]; omega) | (simp only [IntKind.wrap_i64, List.length_append]; omega) | (simp only [IntKind.wrap_i64, List.length_append, Int.natCast_add]; omega) | exact keepP_same _ _ _ | (repeat (first | exact trivial | refine And.intro rfl ?_)))); (conv => whnf)) | (refine fun (nc : Nat) (hnc : _ ≤ nc) => ?_; (conv => whnf)) | (refine bif2_true ?_ ?_; (· assumption); (conv => whnf)) | (refine bif2_false ?_ ?_; (· assumption); (conv => whnf)) | (refine bif2_split (fun h => ?_) (fun h => ?_) <;> (conv => whnf)))
  all_goals (refine ⟨?_, rfl⟩; simp_all [subB_eq])
end Go.Proofs.Ytpicmpfcmgocmaa

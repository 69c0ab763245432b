/- Contracts of functions of the program and of the reference: what each call comes to. -/
import Derived.Test.YtkcmhcgmiflgbaaDoorGe
import Derived.Test.YtkcmhcgmiflgbaaDoorProg
namespace Go.Proofs.YtkcmhcgmiflgbaaDoor
open Go.RowKit
def tt3 : TK := ⟨⟨.int .i64, 1, 8, (.int .i64 0)⟩, []⟩
def tt33 : TK := ⟨⟨.struct #[⟨ "Kind", 3, 0, false, "", "", 0⟩, ⟨ "From", 3, 1, false, "", "", 8⟩, ⟨ "To", 3, 2, false, "", "", 16⟩, ⟨ "Epoch", 3, 3, false, "", "", 24⟩, ⟨ "Inc", 3, 4, false, "", "", 32⟩, ⟨ "Job", 3, 5, false, "", "", 40⟩, ⟨ "Tick", 3, 6, false, "", "", 48⟩, ⟨ "Prio", 3, 7, false, "", "", 56⟩, ⟨ "Code", 3, 8, false, "", "", 64⟩, ⟨ "Res", 31, 9, false, "", "", 72⟩], 12, 96, (.agg #[.int .i64 0, .int .i64 0, .int .i64 0, .int .i64 0, .int .i64 0, .int .i64 0, .int .i64 0, .int .i64 0, .int .i64 0, .int .i64 0, .int .i64 0, .int .i64 0])⟩, [.i .i64, .i .i64, .i .i64, .i .i64, .i .i64, .i .i64, .i .i64, .i .i64, .i .i64, .i .i64, .i .i64, .i .i64]⟩
def tt61 : TK := ⟨⟨.array 2 3, 2, 16, (.agg #[.int .i64 0, .int .i64 0])⟩, [.i .i64, .i .i64]⟩
def tt53 : TK := ⟨⟨.slice 61, 1, 24, (.slice none 0 0)⟩, []⟩
def tt29 : TK := ⟨⟨.slice 33, 1, 24, (.slice none 0 0)⟩, []⟩
def tt48 : TK := ⟨⟨.slice 3, 1, 24, (.slice none 0 0)⟩, []⟩
def tt35 : TK := ⟨⟨.struct #[⟨ "Kind", 3, 0, false, "", "", 0⟩, ⟨ "From", 3, 1, false, "", "", 8⟩, ⟨ "To", 3, 2, false, "", "", 16⟩, ⟨ "Place", 3, 3, false, "", "", 24⟩, ⟨ "Msg", 33, 4, false, "", "", 32⟩], 16, 128, (.agg #[.int .i64 0, .int .i64 0, .int .i64 0, .int .i64 0, .int .i64 0, .int .i64 0, .int .i64 0, .int .i64 0, .int .i64 0, .int .i64 0, .int .i64 0, .int .i64 0, .int .i64 0, .int .i64 0, .int .i64 0, .int .i64 0])⟩, [.i .i64, .i .i64, .i .i64, .i .i64, .i .i64, .i .i64, .i .i64, .i .i64, .i .i64, .i .i64, .i .i64, .i .i64, .i .i64, .i .i64, .i .i64, .i .i64]⟩
def tt31 : TK := ⟨⟨.array 3 3, 3, 24, (.agg #[.int .i64 0, .int .i64 0, .int .i64 0])⟩, [.i .i64, .i .i64, .i .i64]⟩
def tt4 : TK := ⟨⟨.bool, 1, 1, (.bool false)⟩, []⟩
def tt26 : TK := ⟨⟨.map 61 29, 1, 8, (.map none)⟩, []⟩
def tt5 : TK := ⟨⟨.int .u8, 1, 1, (.int .u8 0)⟩, []⟩
def tt77 : TK := ⟨⟨.pointer 33, 1, 8, (.pointer none)⟩, []⟩
def tt36 : TK := ⟨⟨.int .i64, 1, 8, (.int .i64 0)⟩, []⟩
def tt107 : TK := ⟨⟨.int .u64, 1, 8, (.int .u64 0)⟩, []⟩
def tt28 : TK := ⟨⟨.struct #[⟨ "links", 26, 0, false, "", "reeve/net", 0⟩], 1, 8, (.agg #[.map none])⟩, []⟩
def tt75 : TK := ⟨⟨.slice 85, 1, 24, (.slice none 0 0)⟩, []⟩
def tt88 : TK := ⟨⟨.struct #[⟨ "n", 85, 0, false, "", "reeve/msg", 0⟩, ⟨ "least", 3, 1, false, "", "reeve/msg", 8⟩, ⟨ "most", 3, 2, false, "", "reeve/msg", 16⟩], 3, 24, (.agg #[.pointer none, .int .i64 0, .int .i64 0])⟩, []⟩
def tt9 : TK := ⟨⟨.string, 1, 16, (.string ⟨#[]⟩)⟩, []⟩
def tt83 : TK := ⟨⟨.int .u64, 1, 8, (.int .u64 0)⟩, []⟩
def tt102 : TK := ⟨⟨.int .u64, 1, 8, (.int .u64 0)⟩, []⟩
def tt22 : TK := ⟨⟨.slice 35, 1, 24, (.slice none 0 0)⟩, []⟩
def tt85 : TK := ⟨⟨.pointer 3, 1, 8, (.pointer none)⟩, []⟩
def tt100 : TK := ⟨⟨.int .u32, 1, 4, (.int .u32 0)⟩, []⟩
def tt24 : TK := ⟨⟨.pointer 28, 1, 8, (.pointer none)⟩, []⟩
def tt78 : TK := ⟨⟨.array 8 61, 16, 128, (.agg #[.int .i64 0, .int .i64 0, .int .i64 0, .int .i64 0, .int .i64 0, .int .i64 0, .int .i64 0, .int .i64 0, .int .i64 0, .int .i64 0, .int .i64 0, .int .i64 0, .int .i64 0, .int .i64 0, .int .i64 0, .int .i64 0])⟩, [.i .i64, .i .i64, .i .i64, .i .i64, .i .i64, .i .i64, .i .i64, .i .i64, .i .i64, .i .i64, .i .i64, .i .i64, .i .i64, .i .i64, .i .i64, .i .i64]⟩
def tt89 : TK := ⟨⟨.slice 88, 1, 24, (.slice none 0 0)⟩, []⟩
def tt59 : TK := ⟨⟨.slice 5, 1, 24, (.slice none 0 0)⟩, []⟩
def tt84 : TK := ⟨⟨.slice 9, 1, 24, (.slice none 0 0)⟩, []⟩
def tt92 : TK := ⟨⟨.int .i64, 1, 8, (.int .i64 0)⟩, []⟩
def tt : List (Nat × TK) := [(3, tt3), (33, tt33), (61, tt61), (53, tt53), (29, tt29), (48, tt48), (35, tt35), (31, tt31), (4, tt4), (26, tt26), (5, tt5), (77, tt77), (36, tt36), (107, tt107), (28, tt28), (75, tt75), (88, tt88), (9, tt9), (83, tt83), (102, tt102), (22, tt22), (85, tt85), (100, tt100), (24, tt24), (78, tt78), (89, tt89), (59, tt59), (84, tt84), (92, tt92)]
theorem tt_ok : TKok Tryd.prog tt := TKok.cons ⟨by kernel_rfl, by kernel_rfl, Or.inl rfl⟩ (TKok.cons ⟨by kernel_rfl, by kernel_rfl, Or.inr ⟨by kernel_rfl, by kernel_rfl, by kernel_rfl, by kernel_rfl⟩⟩ (TKok.cons ⟨by kernel_rfl, by kernel_rfl, Or.inr ⟨by kernel_rfl, by kernel_rfl, by kernel_rfl, by kernel_rfl⟩⟩ (TKok.cons ⟨by kernel_rfl, by kernel_rfl, Or.inl rfl⟩ (TKok.cons ⟨by kernel_rfl, by kernel_rfl, Or.inl rfl⟩ (TKok.cons ⟨by kernel_rfl, by kernel_rfl, Or.inl rfl⟩ (TKok.cons ⟨by kernel_rfl, by kernel_rfl, Or.inr ⟨by kernel_rfl, by kernel_rfl, by kernel_rfl, by kernel_rfl⟩⟩ (TKok.cons ⟨by kernel_rfl, by kernel_rfl, Or.inr ⟨by kernel_rfl, by kernel_rfl, by kernel_rfl, by kernel_rfl⟩⟩ (TKok.cons ⟨by kernel_rfl, by kernel_rfl, Or.inl rfl⟩ (TKok.cons ⟨by kernel_rfl, by kernel_rfl, Or.inl rfl⟩ (TKok.cons ⟨by kernel_rfl, by kernel_rfl, Or.inl rfl⟩ (TKok.cons ⟨by kernel_rfl, by kernel_rfl, Or.inl rfl⟩ (TKok.cons ⟨by kernel_rfl, by kernel_rfl, Or.inl rfl⟩ (TKok.cons ⟨by kernel_rfl, by kernel_rfl, Or.inl rfl⟩ (TKok.cons ⟨by kernel_rfl, by kernel_rfl, Or.inl rfl⟩ (TKok.cons ⟨by kernel_rfl, by kernel_rfl, Or.inl rfl⟩ (TKok.cons ⟨by kernel_rfl, by kernel_rfl, Or.inl rfl⟩ (TKok.cons ⟨by kernel_rfl, by kernel_rfl, Or.inl rfl⟩ (TKok.cons ⟨by kernel_rfl, by kernel_rfl, Or.inl rfl⟩ (TKok.cons ⟨by kernel_rfl, by kernel_rfl, Or.inl rfl⟩ (TKok.cons ⟨by kernel_rfl, by kernel_rfl, Or.inl rfl⟩ (TKok.cons ⟨by kernel_rfl, by kernel_rfl, Or.inl rfl⟩ (TKok.cons ⟨by kernel_rfl, by kernel_rfl, Or.inl rfl⟩ (TKok.cons ⟨by kernel_rfl, by kernel_rfl, Or.inl rfl⟩ (TKok.cons ⟨by kernel_rfl, by kernel_rfl, Or.inr ⟨by kernel_rfl, by kernel_rfl, by kernel_rfl, by kernel_rfl⟩⟩ (TKok.cons ⟨by kernel_rfl, by kernel_rfl, Or.inl rfl⟩ (TKok.cons ⟨by kernel_rfl, by kernel_rfl, Or.inl rfl⟩ (TKok.cons ⟨by kernel_rfl, by kernel_rfl, Or.inl rfl⟩ (TKok.cons ⟨by kernel_rfl, by kernel_rfl, Or.inl rfl⟩ (TKok.nil _)))))))))))))))))))))))))))))
theorem mixed : Tryd.prog.follows .mixedOrders = true := by kernel_rfl
theorem pl47 : Plain Tryd.prog 47 := Plain.of Tryd.func47 (by kernel_rfl) rfl
theorem pl64 : Plain Tryd.prog 64 := Plain.of Tryd.func64 (by kernel_rfl) rfl
theorem pl49 : Plain Tryd.prog 49 := Plain.of Tryd.func49 (by kernel_rfl) rfl
theorem pl62 : Plain Tryd.prog 62 := Plain.of Tryd.func62 (by kernel_rfl) rfl
theorem pl63 : Plain Tryd.prog 63 := Plain.of Tryd.func63 (by kernel_rfl) rfl
theorem pl37 : Plain Tryd.prog 37 := Plain.of Tryd.func37 (by kernel_rfl) rfl
abbrev i64 (a : Int) : Value := .int .i64 a
abbrev r3 (a b c : Int) : Value := .agg #[.int .i64 a, .int .i64 b, .int .i64 c]
def rightB (a b c : Int) : Bool := decide (b ≤ a) && decide (a ≤ c)
theorem right_s (a b c : Int) : Pure Tryd.prog 0 47 [i64 a, i64 b, i64 c] (fun v => v = .bool (rightB a b c)) := by
  refine Pure.body tt_ok mixed Tryd.func47 rfl (Nat.le_of_ble_eq_true rfl) ?_
  (conv => whnf)
  repeat' (first | (refine @And.intro (chkAll _ = true) _ ?_ ?_; (· kernel_rfl); (conv => whnf)) | (refine JoinG.direct ?_; (conv => whnf)) | (refine AppG.mk ?_; (conv => whnf)) | (refine both_intro ?_ ?_ <;> (conv => whnf)) | (exact VR.int _ _) | (exact VR.bool _) | (refine VR.ptr ?_; kernel_rfl) | (refine VR.slice ?_; kernel_rfl) | (exact VR.sliceN _ _) | (refine VR.map ?_; kernel_rfl) | (exact VR.clean _ rfl) | (refine VR.aggOf ?_) | (refine OR.cellsOf ?_) | (exact AR.same _ rfl) | (exact trivial) | (refine amb_no ?_ ?_; (· exact Nat.succ_ne_zero _); (conv => whnf)) | (refine And.intro ?_ ?_; (· (first | decide | omega | (simp only [IntKind.wrap_i64]; omega) | (simp only [List.length_append]; omega) | (simp only [IntKind.wrap_i64, List.length_append]; omega) | (simp only [IntKind.wrap_i64, List.length_append, Int.natCast_add]; omega) | exact keepP_same _ _ _ | (repeat (first | exact trivial | refine And.intro rfl ?_)))); (conv => whnf)) | (refine fun (nc : Nat) (hnc : _ ≤ nc) => ?_; (conv => whnf)) | (refine bif2_true ?_ ?_; (· assumption); (conv => whnf)) | (refine bif2_false ?_ ?_; (· assumption); (conv => whnf)) | (refine bif2_split (fun h => ?_) (fun h => ?_) <;> (conv => whnf)))
  all_goals (refine ⟨?_, rfl⟩; simp [*, rightB])
theorem span_s (a b c : Int) : Pure Tryd.prog 0 64 [i64 a, i64 b, i64 c] (fun v => v = i64 (imax (imin a c) b)) := by
  refine Pure.body tt_ok mixed Tryd.func64 rfl (Nat.le_of_ble_eq_true rfl) ?_
  (conv => whnf)
  exact ⟨rfl, rfl⟩
theorem each_s (k : Nat) (hp : Plain Tryd.prog k) (g : Int → Int → Int) (hk : ∀ x y, Pure Tryd.prog 0 k [i64 x, i64 y] (fun v => v = i64 (g x y))) (a0 a1 a2 b0 b1 b2 : Int) :
    Pure Tryd.prog 0 62 [r3 a0 a1 a2, r3 b0 b1 b2, .func (.func k) #[] #[]] (fun v => v = r3 (g a0 b0) (g a1 b1) (g a2 b2)) := by
  refine Pure.body tt_ok mixed Tryd.func62 rfl (Nat.le_of_ble_eq_true rfl) ?_
  (conv => whnf)
  refine LoopG.unroll 4 ?_
  (conv => whnf)
  repeat (first | (refine CallG.val (hk _ _) hp rfl (Nat.zero_le _) ?_; (conv => whnf)) | (refine @And.intro (chkAll _ = true) _ ?_ ?_; (· kernel_rfl); (conv => whnf)) | (refine JoinG.direct ?_; (conv => whnf)) | (refine AppG.mk ?_; (conv => whnf)) | (refine And.intro ?_ ?_; (· (first | decide | omega | (simp only []; omega) | (simp only []; omega) | (simp only []; omega) | (simp only []; omega) | exact keepP_same _ _ _ | (repeat (first | exact trivial | refine And.intro rfl ?_)))); (conv => whnf)))
  exact ⟨rfl, rfl⟩
def cl (x : Int) : Int := imax (imin x 1048576) 0
theorem right1_s (x y : Int) : Pure Tryd.prog 0 63 [i64 x, i64 y] (fun v => v = i64 (cl x)) := by
  refine Pure.body tt_ok mixed Tryd.func63 rfl (Nat.le_of_ble_eq_true rfl) ?_
  (conv => whnf)
  repeat (first | (refine CallG.val (span_s _ _ _) pl64 rfl (Nat.zero_le _) ?_; (conv => whnf)) | (refine @And.intro (chkAll _ = true) _ ?_ ?_; (· kernel_rfl); (conv => whnf)) | (refine JoinG.direct ?_; (conv => whnf)) | (refine AppG.mk ?_; (conv => whnf)) | (refine And.intro ?_ ?_; (· (first | decide | omega | (simp only [IntKind.wrap_i64]; omega) | (simp only [List.length_append]; omega) | (simp only [IntKind.wrap_i64, List.length_append]; omega) | (simp only [IntKind.wrap_i64, List.length_append, Int.natCast_add]; omega) | exact keepP_same _ _ _ | (repeat (first | exact trivial | refine And.intro rfl ?_)))); (conv => whnf)))
  exact ⟨rfl, rfl⟩
def okR (a : Int) : Bool := decide (0 ≤ a ∧ a ≤ 1048576)
def rightR (a b c : Int) : Bool := okR a && (okR b && okR c)
def fitsR (a b c x y z : Int) : Bool := decide (a ≤ x) && (decide (b ≤ y) && decide (c ≤ z))
theorem cl_eq (a : Int) : (a == cl a) = okR a := by
  unfold cl okR imax imin
  rw [Bool.eq_iff_iff]
  simp
  split <;> split <;> omega
theorem max_eq (a b : Int) : (imax a b == b) = decide (a ≤ b) := by
  unfold imax
  rw [Bool.eq_iff_iff]
  simp
  omega
theorem resRight_s (a b c : Int) : Pure Tryd.prog 0 49 [r3 a b c] (fun v => v = .bool (rightR a b c)) := by
  refine Pure.body tt_ok mixed Tryd.func49 rfl (Nat.le_of_ble_eq_true rfl) ?_
  (conv => whnf)
  repeat (first | (refine CallG.val (each_s _ pl63 (fun x _ => cl x) right1_s _ _ _ _ _ _) pl62 rfl (Nat.zero_le _) ?_; (conv => whnf)) | (refine @And.intro (chkAll _ = true) _ ?_ ?_; (· kernel_rfl); (conv => whnf)) | (refine JoinG.direct ?_; (conv => whnf)) | (refine AppG.mk ?_; (conv => whnf)) | (refine And.intro ?_ ?_; (· (first | decide | omega | (simp only []; omega) | (simp only []; omega) | (simp only []; omega) | (simp only []; omega) | exact keepP_same _ _ _ | (repeat (first | exact trivial | refine And.intro rfl ?_)))); (conv => whnf)))
  refine ⟨?_, rfl⟩
  simp [cl_eq, rightR]
/-- one or the other -/
def chI (c : Bool) (x y : Int) : Int := match c with
  | true => x
  | false => y
@[simp] theorem chI_t (x y : Int) : chI true x y = x := rfl
@[simp] theorem chI_f (x y : Int) : chI false x y = y := rfl
abbrev rb (c : Bool) (x y z : Int) : Value := .tuple #[r3 (chI c x 0) (chI c y 0) (chI c z 0), .bool c]
def bothB (a b c x y z p q r : Int) : Bool := rightR a b c && (rightR x y z && rightR p q r)
theorem wrap_in {a : Int} (h : -9223372036854775808 ≤ a ∧ a ≤ 9223372036854775807) : IntKind.i64.wrap a = a := IntWalk.i64_in _ h
theorem okR_iff {a : Int} : okR a = true ↔ 0 ≤ a ∧ a ≤ 1048576 := by simp [okR]
theorem rightR_iff {a b c : Int} : rightR a b c = true ↔ (0 ≤ a ∧ a ≤ 1048576) ∧ (0 ≤ b ∧ b ≤ 1048576) ∧ (0 ≤ c ∧ c ≤ 1048576) := by simp [rightR, okR]
def addB (a b c x y z : Int) : Bool := bothB a b c x y z (a + x) (b + y) (c + z)
theorem add_wrap (a b c x y z : Int) : bothB a b c x y z (IntKind.i64.wrap (a + x)) (IntKind.i64.wrap (b + y)) (IntKind.i64.wrap (c + z)) = addB a b c x y z := by
  unfold addB bothB
  cases h1 : rightR a b c
  · rfl
  · cases h2 : rightR x y z
    · rfl
    · rw [rightR_iff] at h1 h2
      rw [wrap_in (by omega), wrap_in (by omega), wrap_in (by omega)]
def subB (a b c x y z : Int) : Bool := bothB a b c x y z (a - x) (b - y) (c - z)
theorem sub_wrap (a b c x y z : Int) : bothB a b c x y z (IntKind.i64.wrap (a - x)) (IntKind.i64.wrap (b - y)) (IntKind.i64.wrap (c - z)) = subB a b c x y z := by
  unfold subB bothB
  cases h1 : rightR a b c
  · rfl
  · cases h2 : rightR x y z
    · rfl
    · rw [rightR_iff] at h1 h2
      rw [wrap_in (by omega), wrap_in (by omega), wrap_in (by omega)]
theorem ch_add {a b c x y z : Int} : rb (addB a b c x y z) (IntKind.i64.wrap (a + x)) (IntKind.i64.wrap (b + y)) (IntKind.i64.wrap (c + z)) = rb (addB a b c x y z) (a + x) (b + y) (c + z) := by
  cases h : addB a b c x y z
  · rfl
  · simp only [addB, bothB, Bool.and_eq_true, rightR_iff] at h
    rw [wrap_in (by omega), wrap_in (by omega), wrap_in (by omega)]
theorem ch_sub {a b c x y z : Int} : rb (subB a b c x y z) (IntKind.i64.wrap (a - x)) (IntKind.i64.wrap (b - y)) (IntKind.i64.wrap (c - z)) = rb (subB a b c x y z) (a - x) (b - y) (c - z) := by
  cases h : subB a b c x y z
  · rfl
  · simp only [subB, bothB, Bool.and_eq_true, rightR_iff] at h
    rw [wrap_in (by omega), wrap_in (by omega), wrap_in (by omega)]
theorem refRight_s (a b c : Int) : Pure Tryd.prog 0 37 [r3 a b c] (fun v => v = .bool (rightR a b c)) := by
  refine Pure.body tt_ok mixed Tryd.func37 rfl (Nat.le_of_ble_eq_true rfl) ?_
  (conv => whnf)
  refine LoopG.unroll 4 ?_
  (conv => whnf)
  repeat' (first | (refine @And.intro (chkAll _ = true) _ ?_ ?_; (· kernel_rfl); (conv => whnf)) | (refine JoinG.direct ?_; (conv => whnf)) | (refine AppG.mk ?_; (conv => whnf)) | (refine both_intro ?_ ?_ <;> (conv => whnf)) | (exact VR.int _ _) | (exact VR.bool _) | (refine VR.ptr ?_; kernel_rfl) | (refine VR.slice ?_; kernel_rfl) | (exact VR.sliceN _ _) | (refine VR.map ?_; kernel_rfl) | (exact VR.clean _ rfl) | (refine VR.aggOf ?_) | (refine OR.cellsOf ?_) | (exact AR.same _ rfl) | (exact trivial) | (refine amb_no ?_ ?_; (· exact Nat.succ_ne_zero _); (conv => whnf)) | (refine And.intro ?_ ?_; (· (first | decide | omega | (simp only [IntKind.wrap_i64]; omega) | (simp only [List.length_append]; omega) | (simp only [IntKind.wrap_i64, List.length_append]; omega) | (simp only [IntKind.wrap_i64, List.length_append, Int.natCast_add]; omega) | exact keepP_same _ _ _ | (repeat (first | exact trivial | refine And.intro rfl ?_)))); (conv => whnf)) | (refine fun (nc : Nat) (hnc : _ ≤ nc) => ?_; (conv => whnf)) | (refine bif2_true ?_ ?_; (· assumption); (conv => whnf)) | (refine bif2_false ?_ ?_; (· assumption); (conv => whnf)) | (refine bif2_split (fun h => ?_) (fun h => ?_) <;> (conv => whnf)))
  all_goals (refine ⟨?_, rfl⟩; simp_all [rightR, okR])
  all_goals omega
theorem subB_eq (a b c x y z : Int) : subB a b c x y z = (rightR a b c && (rightR x y z && fitsR x y z a b c)) := by
  unfold subB bothB
  rw [Bool.eq_iff_iff]
  simp only [Bool.and_eq_true, rightR_iff, fitsR, decide_eq_true_eq]
  constructor
  · intro h; omega
  · intro h; omega
end Go.Proofs.YtkcmhcgmiflgbaaDoor

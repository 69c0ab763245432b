/- Contracts of functions of the program and of the reference: what each call comes to. -/
import Derived.Test.YtdligbcmhjhkfaaGe
import Derived.Test.YtdligbcmhjhkfaaProg
namespace Go.Proofs.Ytdligbcmhjhkfaa
open Go.RowKit
def tt3 : TK := ⟨⟨.int .i64, 1, 8, (.int .i64 0)⟩, []⟩
def tt24 : TK := ⟨⟨.array 3 3, 3, 24, (.agg #[.int .i64 0, .int .i64 0, .int .i64 0])⟩, [.i .i64, .i .i64, .i .i64]⟩
def tt41 : TK := ⟨⟨.slice 103, 1, 24, (.slice none 0 0)⟩, []⟩
def tt62 : TK := ⟨⟨.struct #[⟨ "Id", 3, 0, false, "", "", 0⟩, ⟨ "Prio", 3, 1, false, "", "", 8⟩, ⟨ "Seq", 3, 2, false, "", "", 16⟩, ⟨ "Phase", 3, 3, false, "", "", 24⟩, ⟨ "Node", 3, 4, false, "", "", 32⟩, ⟨ "Need", 60, 5, false, "", "", 40⟩], 8, 64, (.agg #[.int .i64 0, .int .i64 0, .int .i64 0, .int .i64 0, .int .i64 0, .int .i64 0, .int .i64 0, .int .i64 0])⟩, [.i .i64, .i .i64, .i .i64, .i .i64, .i .i64, .i .i64, .i .i64, .i .i64]⟩
def tt103 : TK := ⟨⟨.struct #[⟨ "id", 3, 0, false, "", "reeve/heap", 0⟩, ⟨ "key", 24, 1, false, "", "reeve/heap", 8⟩], 4, 32, (.agg #[.int .i64 0, .int .i64 0, .int .i64 0, .int .i64 0])⟩, [.i .i64, .i .i64, .i .i64, .i .i64]⟩
def tt87 : TK := ⟨⟨.struct #[⟨ "Id", 3, 0, false, "", "", 0⟩, ⟨ "Inc", 3, 1, false, "", "", 8⟩, ⟨ "Load", 3, 2, false, "", "", 16⟩, ⟨ "Cap", 60, 3, false, "", "", 24⟩, ⟨ "Used", 60, 6, false, "", "", 48⟩, ⟨ "Up", 4, 9, false, "", "", 72⟩], 10, 80, (.agg #[.int .i64 0, .int .i64 0, .int .i64 0, .int .i64 0, .int .i64 0, .int .i64 0, .int .i64 0, .int .i64 0, .int .i64 0, .bool false])⟩, [.i .i64, .i .i64, .i .i64, .i .i64, .i .i64, .i .i64, .i .i64, .i .i64, .i .i64, .b]⟩
def tt60 : TK := ⟨⟨.array 3 3, 3, 24, (.agg #[.int .i64 0, .int .i64 0, .int .i64 0])⟩, [.i .i64, .i .i64, .i .i64]⟩
def tt4 : TK := ⟨⟨.bool, 1, 1, (.bool false)⟩, []⟩
def tt97 : TK := ⟨⟨.slice 87, 1, 24, (.slice none 0 0)⟩, []⟩
def tt68 : TK := ⟨⟨.slice 62, 1, 24, (.slice none 0 0)⟩, []⟩
def tt32 : TK := ⟨⟨.slice 3, 1, 24, (.slice none 0 0)⟩, []⟩
def tt44 : TK := ⟨⟨.struct #[⟨ "l", 41, 0, false, "", "reeve/heap", 0⟩, ⟨ "at", 42, 1, false, "", "reeve/heap", 24⟩], 2, 32, (.agg #[.slice none 0 0, .map none])⟩, []⟩
def tt22 : TK := ⟨⟨.slice 29, 1, 24, (.slice none 0 0)⟩, []⟩
def tt45 : TK := ⟨⟨.slice 49, 1, 24, (.slice none 0 0)⟩, []⟩
def tt29 : TK := ⟨⟨.struct #[⟨ "Kind", 3, 0, false, "", "", 0⟩, ⟨ "Id", 3, 1, false, "", "", 8⟩, ⟨ "Key", 24, 2, false, "", "", 16⟩], 5, 40, (.agg #[.int .i64 0, .int .i64 0, .int .i64 0, .int .i64 0, .int .i64 0])⟩, [.i .i64, .i .i64, .i .i64, .i .i64, .i .i64]⟩
def tt49 : TK := ⟨⟨.struct #[⟨ "Id", 3, 0, false, "", "", 0⟩, ⟨ "Key", 24, 1, false, "", "", 8⟩], 4, 32, (.agg #[.int .i64 0, .int .i64 0, .int .i64 0, .int .i64 0])⟩, [.i .i64, .i .i64, .i .i64, .i .i64]⟩
def tt143 : TK := ⟨⟨.int .u64, 1, 8, (.int .u64 0)⟩, []⟩
def tt123 : TK := ⟨⟨.int .u64, 1, 8, (.int .u64 0)⟩, []⟩
def tt74 : TK := ⟨⟨.struct #[⟨ "Heap", 44, 0, true, "", "", 0⟩, ⟨ "jobs", 72, 2, false, "", "reeve/queue", 32⟩], 3, 40, (.agg #[.slice none 0 0, .map none, .map none])⟩, []⟩
def tt42 : TK := ⟨⟨.map 3 3, 1, 8, (.map none)⟩, []⟩
def tt72 : TK := ⟨⟨.map 3 62, 1, 8, (.map none)⟩, []⟩
def tt85 : TK := ⟨⟨.struct #[⟨ "Heap", 44, 0, true, "", "", 0⟩, ⟨ "need", 60, 2, false, "", "reeve/shelf", 32⟩], 5, 56, (.agg #[.slice none 0 0, .map none, .int .i64 0, .int .i64 0, .int .i64 0])⟩, []⟩
def tt57 : TK := ⟨⟨.slice 64, 1, 24, (.slice none 0 0)⟩, []⟩
def tt64 : TK := ⟨⟨.struct #[⟨ "Kind", 3, 0, false, "", "", 0⟩, ⟨ "Job", 62, 1, false, "", "", 8⟩], 9, 72, (.agg #[.int .i64 0, .int .i64 0, .int .i64 0, .int .i64 0, .int .i64 0, .int .i64 0, .int .i64 0, .int .i64 0, .int .i64 0])⟩, [.i .i64, .i .i64, .i .i64, .i .i64, .i .i64, .i .i64, .i .i64, .i .i64, .i .i64]⟩
def tt139 : TK := ⟨⟨.int .u64, 1, 8, (.int .u64 0)⟩, []⟩
def tt58 : TK := ⟨⟨.pointer 74, 1, 8, (.pointer none)⟩, []⟩
def tt82 : TK := ⟨⟨.pointer 85, 1, 8, (.pointer none)⟩, []⟩
def tt137 : TK := ⟨⟨.int .u32, 1, 4, (.int .u32 0)⟩, []⟩
def tt26 : TK := ⟨⟨.pointer 44, 1, 8, (.pointer none)⟩, []⟩
def tt81 : TK := ⟨⟨.slice 89, 1, 24, (.slice none 0 0)⟩, []⟩
def tt5 : TK := ⟨⟨.int .u8, 1, 1, (.int .u8 0)⟩, []⟩
def tt39 : TK := ⟨⟨.array 2 24, 6, 48, (.agg #[.int .i64 0, .int .i64 0, .int .i64 0, .int .i64 0, .int .i64 0, .int .i64 0])⟩, [.i .i64, .i .i64, .i .i64, .i .i64, .i .i64, .i .i64]⟩
def tt89 : TK := ⟨⟨.struct #[⟨ "Kind", 3, 0, false, "", "", 0⟩, ⟨ "Node", 87, 1, false, "", "", 8⟩], 11, 88, (.agg #[.int .i64 0, .int .i64 0, .int .i64 0, .int .i64 0, .int .i64 0, .int .i64 0, .int .i64 0, .int .i64 0, .int .i64 0, .int .i64 0, .bool false])⟩, [.i .i64, .i .i64, .i .i64, .i .i64, .i .i64, .i .i64, .i .i64, .i .i64, .i .i64, .i .i64, .b]⟩
def tt9 : TK := ⟨⟨.string, 1, 16, (.string ⟨#[]⟩)⟩, []⟩
def tt130 : TK := ⟨⟨.int .i64, 1, 8, (.int .i64 0)⟩, []⟩
def tt : List (Nat × TK) := [(3, tt3), (24, tt24), (41, tt41), (62, tt62), (103, tt103), (87, tt87), (60, tt60), (4, tt4), (97, tt97), (68, tt68), (32, tt32), (44, tt44), (22, tt22), (45, tt45), (29, tt29), (49, tt49), (143, tt143), (123, tt123), (74, tt74), (42, tt42), (72, tt72), (85, tt85), (57, tt57), (64, tt64), (139, tt139), (58, tt58), (82, tt82), (137, tt137), (26, tt26), (81, tt81), (5, tt5), (39, tt39), (89, tt89), (9, tt9), (130, tt130)]
theorem tt_ok : TKok Try.prog tt := TKok.cons ⟨by kernel_rfl, by kernel_rfl, Or.inl rfl⟩ (TKok.cons ⟨by kernel_rfl, by kernel_rfl, Or.inr ⟨by kernel_rfl, by kernel_rfl, by kernel_rfl, by kernel_rfl⟩⟩ (TKok.cons ⟨by kernel_rfl, by kernel_rfl, Or.inl rfl⟩ (TKok.cons ⟨by kernel_rfl, by kernel_rfl, Or.inr ⟨by kernel_rfl, by kernel_rfl, by kernel_rfl, by kernel_rfl⟩⟩ (TKok.cons ⟨by kernel_rfl, by kernel_rfl, Or.inr ⟨by kernel_rfl, by kernel_rfl, by kernel_rfl, by kernel_rfl⟩⟩ (TKok.cons ⟨by kernel_rfl, by kernel_rfl, Or.inr ⟨by kernel_rfl, by kernel_rfl, by kernel_rfl, by kernel_rfl⟩⟩ (TKok.cons ⟨by kernel_rfl, by kernel_rfl, Or.inr ⟨by kernel_rfl, by kernel_rfl, by kernel_rfl, by kernel_rfl⟩⟩ (TKok.cons ⟨by kernel_rfl, by kernel_rfl, Or.inl rfl⟩ (TKok.cons ⟨by kernel_rfl, by kernel_rfl, Or.inl rfl⟩ (TKok.cons ⟨by kernel_rfl, by kernel_rfl, Or.inl rfl⟩ (TKok.cons ⟨by kernel_rfl, by kernel_rfl, Or.inl rfl⟩ (TKok.cons ⟨by kernel_rfl, by kernel_rfl, Or.inl rfl⟩ (TKok.cons ⟨by kernel_rfl, by kernel_rfl, Or.inl rfl⟩ (TKok.cons ⟨by kernel_rfl, by kernel_rfl, Or.inl rfl⟩ (TKok.cons ⟨by kernel_rfl, by kernel_rfl, Or.inr ⟨by kernel_rfl, by kernel_rfl, by kernel_rfl, by kernel_rfl⟩⟩ (TKok.cons ⟨by kernel_rfl, by kernel_rfl, Or.inr ⟨by kernel_rfl, by kernel_rfl, by kernel_rfl, by kernel_rfl⟩⟩ (TKok.cons ⟨by kernel_rfl, by kernel_rfl, Or.inl rfl⟩ (TKok.cons ⟨by kernel_rfl, by kernel_rfl, Or.inl rfl⟩ (TKok.cons ⟨by kernel_rfl, by kernel_rfl, Or.inl rfl⟩ (TKok.cons ⟨by kernel_rfl, by kernel_rfl, Or.inl rfl⟩ (TKok.cons ⟨by kernel_rfl, by kernel_rfl, Or.inl rfl⟩ (TKok.cons ⟨by kernel_rfl, by kernel_rfl, Or.inl rfl⟩ (TKok.cons ⟨by kernel_rfl, by kernel_rfl, Or.inl rfl⟩ (TKok.cons ⟨by kernel_rfl, by kernel_rfl, Or.inr ⟨by kernel_rfl, by kernel_rfl, by kernel_rfl, by kernel_rfl⟩⟩ (TKok.cons ⟨by kernel_rfl, by kernel_rfl, Or.inl rfl⟩ (TKok.cons ⟨by kernel_rfl, by kernel_rfl, Or.inl rfl⟩ (TKok.cons ⟨by kernel_rfl, by kernel_rfl, Or.inl rfl⟩ (TKok.cons ⟨by kernel_rfl, by kernel_rfl, Or.inl rfl⟩ (TKok.cons ⟨by kernel_rfl, by kernel_rfl, Or.inl rfl⟩ (TKok.cons ⟨by kernel_rfl, by kernel_rfl, Or.inl rfl⟩ (TKok.cons ⟨by kernel_rfl, by kernel_rfl, Or.inl rfl⟩ (TKok.cons ⟨by kernel_rfl, by kernel_rfl, Or.inr ⟨by kernel_rfl, by kernel_rfl, by kernel_rfl, by kernel_rfl⟩⟩ (TKok.cons ⟨by kernel_rfl, by kernel_rfl, Or.inr ⟨by kernel_rfl, by kernel_rfl, by kernel_rfl, by kernel_rfl⟩⟩ (TKok.cons ⟨by kernel_rfl, by kernel_rfl, Or.inl rfl⟩ (TKok.cons ⟨by kernel_rfl, by kernel_rfl, Or.inl rfl⟩ (TKok.nil _)))))))))))))))))))))))))))))))))))
theorem mixed : Try.prog.follows .mixedOrders = true := by kernel_rfl
theorem pl76 : Plain Try.prog 76 := Plain.of Try.func76 (by kernel_rfl) rfl
theorem pl99 : Plain Try.prog 99 := Plain.of Try.func99 (by kernel_rfl) rfl
theorem pl91 : Plain Try.prog 91 := Plain.of Try.func91 (by kernel_rfl) rfl
theorem pl100 : Plain Try.prog 100 := Plain.of Try.func100 (by kernel_rfl) rfl
abbrev i64 (a : Int) : Value := .int .i64 a
abbrev r3 (a b c : Int) : Value := .agg #[.int .i64 a, .int .i64 b, .int .i64 c]
def rightB (a b c : Int) : Bool := decide (b ≤ a) && decide (a ≤ c)
theorem each_s (k : Nat) (hp : Plain Try.prog k) (g : Int → Int → Int) (hk : ∀ x y, Pure Try.prog 0 k [i64 x, i64 y] (fun v => v = i64 (g x y))) (a0 a1 a2 b0 b1 b2 : Int) :
    Pure Try.prog 0 99 [r3 a0 a1 a2, r3 b0 b1 b2, .func (.func k) #[] #[]] (fun v => v = r3 (g a0 b0) (g a1 b1) (g a2 b2)) := by
  refine Pure.body tt_ok mixed Try.func99 rfl (Nat.le_of_ble_eq_true rfl) ?_
  (conv => whnf)
  refine LoopG.unroll 4 ?_
  (conv => whnf)
  repeat (first | (refine CallG.val (hk _ _) hp rfl (Nat.zero_le _) ?_; (conv => whnf)) | (refine @And.intro (chkAll _ = true) _ ?_ ?_; (· kernel_rfl); (conv => whnf)) | (refine JoinG.direct ?_; (conv => whnf)) | (refine AppG.mk ?_; (conv => whnf)) | (refine And.intro ?_ ?_; (· (first | decide | omega | (simp only [IntKind.wrap_i64]; omega) | (simp only [List.length_append]; omega) | (simp only [IntKind.wrap_i64, List.length_append]; omega) | (simp only [IntKind.wrap_i64, List.length_append, Int.natCast_add]; omega) | exact keepP_same _ _ _ | (repeat (first | exact trivial | refine And.intro rfl ?_)))); (conv => whnf)))
  exact ⟨rfl, rfl⟩
def cl (x : Int) : Int := imax (imin x 1048576) 0
theorem most1_s (x y : Int) : Pure Try.prog 0 100 [i64 x, i64 y] (fun v => v = i64 (imax x y)) := by
  refine Pure.body tt_ok mixed Try.func100 rfl (Nat.le_of_ble_eq_true rfl) ?_
  (conv => whnf)
  exact ⟨rfl, rfl⟩
def okR (a : Int) : Bool := decide (0 ≤ a ∧ a ≤ 1048576)
def rightR (a b c : Int) : Bool := okR a && (okR b && okR c)
def fitsR (a b c x y z : Int) : Bool := decide (a ≤ x) && (decide (b ≤ y) && decide (c ≤ z))
theorem cl_eq (a : Int) : (a == cl a) = okR a := by
  unfold cl okR imax imin
  rw [Bool.eq_iff_iff]
  simp
  split <;> split <;> omega
theorem max_eq (a b : Int) : (imax a b == b) = decide (a ≤ b) := by
  unfold imax
  rw [Bool.eq_iff_iff]
  simp
  omega
theorem most_s (a b c x y z : Int) : Pure Try.prog 0 91 [r3 a b c, r3 x y z] (fun v => v = r3 (imax a x) (imax b y) (imax c z)) := by
  refine Pure.body tt_ok mixed Try.func91 rfl (Nat.le_of_ble_eq_true rfl) ?_
  (conv => whnf)
  repeat (first | (refine CallG.val (each_s _ pl100 imax most1_s _ _ _ _ _ _) pl99 rfl (Nat.zero_le _) ?_; (conv => whnf)) | (refine @And.intro (chkAll _ = true) _ ?_ ?_; (· kernel_rfl); (conv => whnf)) | (refine JoinG.direct ?_; (conv => whnf)) | (refine AppG.mk ?_; (conv => whnf)) | (refine And.intro ?_ ?_; (· (first | decide | omega | (simp only [IntKind.wrap_i64]; omega) | (simp only [List.length_append]; omega) | (simp only [IntKind.wrap_i64, List.length_append]; omega) | (simp only [IntKind.wrap_i64, List.length_append, Int.natCast_add]; omega) | exact keepP_same _ _ _ | (repeat (first | exact trivial | refine And.intro rfl ?_)))); (conv => whnf)))
  exact ⟨rfl, rfl⟩
theorem fits_s (a b c x y z : Int) : Pure Try.prog 0 76 [r3 a b c, r3 x y z] (fun v => v = .bool (fitsR a b c x y z)) := by
  refine Pure.body tt_ok mixed Try.func76 rfl (Nat.le_of_ble_eq_true rfl) ?_
  (conv => whnf)
  repeat (first | (refine CallG.val (most_s _ _ _ _ _ _) pl91 rfl (Nat.zero_le _) ?_; (conv => whnf)) | (refine @And.intro (chkAll _ = true) _ ?_ ?_; (· kernel_rfl); (conv => whnf)) | (refine JoinG.direct ?_; (conv => whnf)) | (refine AppG.mk ?_; (conv => whnf)) | (refine And.intro ?_ ?_; (· (first | decide | omega | (simp only [IntKind.wrap_i64]; omega) | (simp only [List.length_append]; omega) | (simp only [IntKind.wrap_i64, List.length_append]; omega) | (simp only [IntKind.wrap_i64, List.length_append, Int.natCast_add]; omega) | exact keepP_same _ _ _ | (repeat (first | exact trivial | refine And.intro rfl ?_)))); (conv => whnf)))
  refine ⟨?_, rfl⟩
  simp [max_eq, fitsR]
/-- one or the other -/
def chI (c : Bool) (x y : Int) : Int := match c with
  | true => x
  | false => y
@[simp] theorem chI_t (x y : Int) : chI true x y = x := rfl
@[simp] theorem chI_f (x y : Int) : chI false x y = y := rfl
abbrev rb (c : Bool) (x y z : Int) : Value := .tuple #[r3 (chI c x 0) (chI c y 0) (chI c z 0), .bool c]
def bothB (a b c x y z p q r : Int) : Bool := rightR a b c && (rightR x y z && rightR p q r)
theorem wrap_in {a : Int} (h : -9223372036854775808 ≤ a ∧ a ≤ 9223372036854775807) : IntKind.i64.wrap a = a := IntWalk.i64_in _ h
theorem okR_iff {a : Int} : okR a = true ↔ 0 ≤ a ∧ a ≤ 1048576 := by simp [okR]
theorem rightR_iff {a b c : Int} : rightR a b c = true ↔ (0 ≤ a ∧ a ≤ 1048576) ∧ (0 ≤ b ∧ b ≤ 1048576) ∧ (0 ≤ c ∧ c ≤ 1048576) := by simp [rightR, okR]
def addB (a b c x y z : Int) : Bool := bothB a b c x y z (a + x) (b + y) (c + z)
theorem add_wrap (a b c x y z : Int) : bothB a b c x y z (IntKind.i64.wrap (a + x)) (IntKind.i64.wrap (b + y)) (IntKind.i64.wrap (c + z)) = addB a b c x y z := by
  unfold addB bothB
  cases h1 : rightR a b c
  · rfl
  · cases h2 : rightR x y z
    · rfl
    · rw [rightR_iff] at h1 h2
      rw [wrap_in (by omega), wrap_in (by omega), wrap_in (by omega)]
def subB (a b c x y z : Int) : Bool := bothB a b c x y z (a - x) (b - y) (c - z)
theorem sub_wrap (a b c x y z : Int) : bothB a b c x y z (IntKind.i64.wrap (a - x)) (IntKind.i64.wrap (b - y)) (IntKind.i64.wrap (c - z)) = subB a b c x y z := by
  unfold subB bothB
  cases h1 : rightR a b c
  · rfl
  · cases h2 : rightR x y z
    · rfl
    · rw [rightR_iff] at h1 h2
      rw [wrap_in (by omega), wrap_in (by omega), wrap_in (by omega)]
theorem ch_add {a b c x y z : Int} : rb (addB a b c x y z) (IntKind.i64.wrap (a + x)) (IntKind.i64.wrap (b + y)) (IntKind.i64.wrap (c + z)) = rb (addB a b c x y z) (a + x) (b + y) (c + z) := by
  cases h : addB a b c x y z
  · rfl
  · simp only [addB, bothB, Bool.and_eq_true, rightR_iff] at h
    rw [wrap_in (by omega), wrap_in (by omega), wrap_in (by omega)]
theorem ch_sub {a b c x y z : Int} : rb (subB a b c x y z) (IntKind.i64.wrap (a - x)) (IntKind.i64.wrap (b - y)) (IntKind.i64.wrap (c - z)) = rb (subB a b c x y z) (a - x) (b - y) (c - z) := by
  cases h : subB a b c x y z
  · rfl
  · simp only [subB, bothB, Bool.and_eq_true, rightR_iff] at h
    rw [wrap_in (by omega), wrap_in (by omega), wrap_in (by omega)]
theorem subB_eq (a b c x y z : Int) : subB a b c x y z = (rightR a b c && (rightR x y z && fitsR x y z a b c)) := by
  unfold subB bothB
  rw [Bool.eq_iff_iff]
  simp only [Bool.and_eq_true, rightR_iff, fitsR, decide_eq_true_eq]
  constructor
  · intro h; omega
  · intro h; omega
end Go.Proofs.Ytdligbcmhjhkfaa

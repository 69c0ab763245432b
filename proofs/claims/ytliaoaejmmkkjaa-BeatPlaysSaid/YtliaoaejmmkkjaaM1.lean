/- Contracts of functions of the program and of the reference: what each call comes to. -/
import Derived.Test.YtliaoaejmmkkjaaGe
import Derived.Test.YtliaoaejmmkkjaaProg
namespace Go.Proofs.Ytliaoaejmmkkjaa
open Go.RowKit
def tt3 : TK := ⟨⟨.int .i64, 1, 8, (.int .i64 0)⟩, []⟩
def tt92 : TK := ⟨⟨.struct #[⟨ "id", 3, 0, false, "", "reeve/wheel", 0⟩, ⟨ "at", 3, 1, false, "", "reeve/wheel", 8⟩], 2, 16, (.agg #[.int .i64 0, .int .i64 0])⟩, [.i .i64, .i .i64]⟩
def tt87 : TK := ⟨⟨.slice 92, 1, 24, (.slice none 0 0)⟩, []⟩
def tt63 : TK := ⟨⟨.slice 66, 1, 24, (.slice none 0 0)⟩, []⟩
def tt66 : TK := ⟨⟨.struct #[⟨ "Node", 3, 0, false, "", "", 0⟩, ⟨ "Inc", 3, 1, false, "", "", 8⟩, ⟨ "Until", 3, 2, false, "", "", 16⟩], 3, 24, (.agg #[.int .i64 0, .int .i64 0, .int .i64 0])⟩, [.i .i64, .i .i64, .i .i64]⟩
def tt71 : TK := ⟨⟨.struct #[⟨ "Span", 3, 0, false, "", "", 0⟩, ⟨ "Beats", 63, 1, false, "", "", 8⟩], 2, 32, (.agg #[.int .i64 0, .slice none 0 0])⟩, []⟩
def tt4 : TK := ⟨⟨.bool, 1, 1, (.bool false)⟩, []⟩
def tt61 : TK := ⟨⟨.struct #[⟨ "Kind", 3, 0, false, "", "", 0⟩, ⟨ "Node", 3, 1, false, "", "", 8⟩, ⟨ "Inc", 3, 2, false, "", "", 16⟩, ⟨ "Now", 3, 3, false, "", "", 24⟩], 4, 32, (.agg #[.int .i64 0, .int .i64 0, .int .i64 0, .int .i64 0])⟩, [.i .i64, .i .i64, .i .i64, .i .i64]⟩
def tt40 : TK := ⟨⟨.slice 3, 1, 24, (.slice none 0 0)⟩, []⟩
def tt30 : TK := ⟨⟨.slice 37, 1, 24, (.slice none 0 0)⟩, []⟩
def tt26 : TK := ⟨⟨.map 3 3, 1, 8, (.map none)⟩, []⟩
def tt32 : TK := ⟨⟨.struct #[⟨ "Kind", 3, 0, false, "", "", 0⟩, ⟨ "Id", 3, 1, false, "", "", 8⟩, ⟨ "At", 3, 2, false, "", "", 16⟩], 3, 24, (.agg #[.int .i64 0, .int .i64 0, .int .i64 0])⟩, [.i .i64, .i .i64, .i .i64]⟩
def tt37 : TK := ⟨⟨.struct #[⟨ "Id", 3, 0, false, "", "", 0⟩, ⟨ "At", 3, 1, false, "", "", 8⟩], 2, 16, (.agg #[.int .i64 0, .int .i64 0])⟩, [.i .i64, .i .i64]⟩
def tt115 : TK := ⟨⟨.int .u64, 1, 8, (.int .u64 0)⟩, []⟩
def tt56 : TK := ⟨⟨.int .i64, 1, 8, (.int .i64 0)⟩, []⟩
def tt29 : TK := ⟨⟨.struct #[⟨ "slots", 27, 0, false, "", "reeve/wheel", 0⟩, ⟨ "at", 26, 16, false, "", "reeve/wheel", 128⟩], 17, 136, (.agg #[.map none, .map none, .map none, .map none, .map none, .map none, .map none, .map none, .map none, .map none, .map none, .map none, .map none, .map none, .map none, .map none, .map none])⟩, []⟩
def tt59 : TK := ⟨⟨.array 16 3, 16, 128, (.agg #[.int .i64 0, .int .i64 0, .int .i64 0, .int .i64 0, .int .i64 0, .int .i64 0, .int .i64 0, .int .i64 0, .int .i64 0, .int .i64 0, .int .i64 0, .int .i64 0, .int .i64 0, .int .i64 0, .int .i64 0, .int .i64 0])⟩, [.i .i64, .i .i64, .i .i64, .i .i64, .i .i64, .i .i64, .i .i64, .i .i64, .i .i64, .i .i64, .i .i64, .i .i64, .i .i64, .i .i64, .i .i64, .i .i64]⟩
def tt54 : TK := ⟨⟨.slice 61, 1, 24, (.slice none 0 0)⟩, []⟩
def tt73 : TK := ⟨⟨.struct #[⟨ "Wheel", 29, 0, true, "", "", 0⟩, ⟨ "span", 3, 17, false, "", "reeve/beat", 136⟩, ⟨ "incs", 59, 18, false, "", "reeve/beat", 144⟩], 34, 272, (.agg #[.map none, .map none, .map none, .map none, .map none, .map none, .map none, .map none, .map none, .map none, .map none, .map none, .map none, .map none, .map none, .map none, .map none, .int .i64 0, .int .i64 0, .int .i64 0, .int .i64 0, .int .i64 0, .int .i64 0, .int .i64 0, .int .i64 0, .int .i64 0, .int .i64 0, .int .i64 0, .int .i64 0, .int .i64 0, .int .i64 0, .int .i64 0, .int .i64 0, .int .i64 0])⟩, []⟩
def tt50 : TK := ⟨⟨.slice 52, 1, 24, (.slice none 0 0)⟩, []⟩
def tt5 : TK := ⟨⟨.int .u8, 1, 1, (.int .u8 0)⟩, []⟩
def tt101 : TK := ⟨⟨.int .u64, 1, 8, (.int .u64 0)⟩, []⟩
def tt114 : TK := ⟨⟨.int .u64, 1, 8, (.int .u64 0)⟩, []⟩
def tt52 : TK := ⟨⟨.int .u16, 1, 2, (.int .u16 0)⟩, []⟩
def tt27 : TK := ⟨⟨.array 16 26, 16, 128, (.agg #[.map none, .map none, .map none, .map none, .map none, .map none, .map none, .map none, .map none, .map none, .map none, .map none, .map none, .map none, .map none, .map none])⟩, []⟩
def tt24 : TK := ⟨⟨.pointer 29, 1, 8, (.pointer none)⟩, []⟩
def tt112 : TK := ⟨⟨.int .u32, 1, 4, (.int .u32 0)⟩, []⟩
def tt55 : TK := ⟨⟨.pointer 73, 1, 8, (.pointer none)⟩, []⟩
def tt51 : TK := ⟨⟨.slice 5, 1, 24, (.slice none 0 0)⟩, []⟩
def tt22 : TK := ⟨⟨.slice 32, 1, 24, (.slice none 0 0)⟩, []⟩
def tt97 : TK := ⟨⟨.map 3 66, 1, 8, (.map none)⟩, []⟩
def tt9 : TK := ⟨⟨.string, 1, 16, (.string ⟨#[]⟩)⟩, []⟩
def tt105 : TK := ⟨⟨.int .i64, 1, 8, (.int .i64 0)⟩, []⟩
def tt : List (Nat × TK) := [(3, tt3), (92, tt92), (87, tt87), (63, tt63), (66, tt66), (71, tt71), (4, tt4), (61, tt61), (40, tt40), (30, tt30), (26, tt26), (32, tt32), (37, tt37), (115, tt115), (56, tt56), (29, tt29), (59, tt59), (54, tt54), (73, tt73), (50, tt50), (5, tt5), (101, tt101), (114, tt114), (52, tt52), (27, tt27), (24, tt24), (112, tt112), (55, tt55), (51, tt51), (22, tt22), (97, tt97), (9, tt9), (105, tt105)]
theorem tt_ok : TKok Try.prog tt := TKok.cons ⟨by kernel_rfl, by kernel_rfl, Or.inl rfl⟩ (TKok.cons ⟨by kernel_rfl, by kernel_rfl, Or.inr ⟨by kernel_rfl, by kernel_rfl, by kernel_rfl, by kernel_rfl⟩⟩ (TKok.cons ⟨by kernel_rfl, by kernel_rfl, Or.inl rfl⟩ (TKok.cons ⟨by kernel_rfl, by kernel_rfl, Or.inl rfl⟩ (TKok.cons ⟨by kernel_rfl, by kernel_rfl, Or.inr ⟨by kernel_rfl, by kernel_rfl, by kernel_rfl, by kernel_rfl⟩⟩ (TKok.cons ⟨by kernel_rfl, by kernel_rfl, Or.inl rfl⟩ (TKok.cons ⟨by kernel_rfl, by kernel_rfl, Or.inl rfl⟩ (TKok.cons ⟨by kernel_rfl, by kernel_rfl, Or.inr ⟨by kernel_rfl, by kernel_rfl, by kernel_rfl, by kernel_rfl⟩⟩ (TKok.cons ⟨by kernel_rfl, by kernel_rfl, Or.inl rfl⟩ (TKok.cons ⟨by kernel_rfl, by kernel_rfl, Or.inl rfl⟩ (TKok.cons ⟨by kernel_rfl, by kernel_rfl, Or.inl rfl⟩ (TKok.cons ⟨by kernel_rfl, by kernel_rfl, Or.inr ⟨by kernel_rfl, by kernel_rfl, by kernel_rfl, by kernel_rfl⟩⟩ (TKok.cons ⟨by kernel_rfl, by kernel_rfl, Or.inr ⟨by kernel_rfl, by kernel_rfl, by kernel_rfl, by kernel_rfl⟩⟩ (TKok.cons ⟨by kernel_rfl, by kernel_rfl, Or.inl rfl⟩ (TKok.cons ⟨by kernel_rfl, by kernel_rfl, Or.inl rfl⟩ (TKok.cons ⟨by kernel_rfl, by kernel_rfl, Or.inl rfl⟩ (TKok.cons ⟨by kernel_rfl, by kernel_rfl, Or.inr ⟨by kernel_rfl, by kernel_rfl, by kernel_rfl, by kernel_rfl⟩⟩ (TKok.cons ⟨by kernel_rfl, by kernel_rfl, Or.inl rfl⟩ (TKok.cons ⟨by kernel_rfl, by kernel_rfl, Or.inl rfl⟩ (TKok.cons ⟨by kernel_rfl, by kernel_rfl, Or.inl rfl⟩ (TKok.cons ⟨by kernel_rfl, by kernel_rfl, Or.inl rfl⟩ (TKok.cons ⟨by kernel_rfl, by kernel_rfl, Or.inl rfl⟩ (TKok.cons ⟨by kernel_rfl, by kernel_rfl, Or.inl rfl⟩ (TKok.cons ⟨by kernel_rfl, by kernel_rfl, Or.inl rfl⟩ (TKok.cons ⟨by kernel_rfl, by kernel_rfl, Or.inl rfl⟩ (TKok.cons ⟨by kernel_rfl, by kernel_rfl, Or.inl rfl⟩ (TKok.cons ⟨by kernel_rfl, by kernel_rfl, Or.inl rfl⟩ (TKok.cons ⟨by kernel_rfl, by kernel_rfl, Or.inl rfl⟩ (TKok.cons ⟨by kernel_rfl, by kernel_rfl, Or.inl rfl⟩ (TKok.cons ⟨by kernel_rfl, by kernel_rfl, Or.inl rfl⟩ (TKok.cons ⟨by kernel_rfl, by kernel_rfl, Or.inl rfl⟩ (TKok.cons ⟨by kernel_rfl, by kernel_rfl, Or.inl rfl⟩ (TKok.cons ⟨by kernel_rfl, by kernel_rfl, Or.inl rfl⟩ (TKok.nil _)))))))))))))))))))))))))))))))))
theorem mixed : Try.prog.follows .mixedOrders = true := by kernel_rfl
theorem pl34 : Plain Try.prog 34 := Plain.of Try.func34 (by kernel_rfl) rfl
theorem pl50 : Plain Try.prog 50 := Plain.of Try.func50 (by kernel_rfl) rfl
abbrev i64 (a : Int) : Value := .int .i64 a
abbrev r3 (a b c : Int) : Value := .agg #[.int .i64 a, .int .i64 b, .int .i64 c]
def rightB (a b c : Int) : Bool := decide (b ≤ a) && decide (a ≤ c)
theorem right_s (a b c : Int) : Pure Try.prog 0 34 [i64 a, i64 b, i64 c] (fun v => v = .bool (rightB a b c)) := by
  refine Pure.body tt_ok mixed Try.func34 rfl (Nat.le_of_ble_eq_true rfl) ?_
  (conv => whnf)
  repeat' (first | (refine @And.intro (chkAll _ = true) _ ?_ ?_; (· kernel_rfl); (conv => whnf)) | (refine JoinG.direct ?_; (conv => whnf)) | (refine AppG.mk ?_; (conv => whnf)) | (refine both_intro ?_ ?_ <;> (conv => whnf)) | (exact VR.int _ _) | (exact VR.bool _) | (refine VR.ptr ?_; kernel_rfl) | (refine VR.slice ?_; kernel_rfl) | (exact VR.sliceN _ _) | (refine VR.map ?_; kernel_rfl) | (exact VR.clean _ rfl) | (refine VR.aggOf ?_) | (refine OR.cellsOf ?_) | (exact AR.same _ rfl) | (exact trivial) | (refine amb_no ?_ ?_; (· exact Nat.succ_ne_zero _); (conv => whnf)) | (refine And.intro ?_ ?_; (· (first | decide | omega | (simp only [IntKind.wrap_i64]; omega) | (simp only [List.length_append]; omega) | (simp only [IntKind.wrap_i64, List.length_append]; omega) | (simp only [IntKind.wrap_i64, List.length_append, Int.natCast_add]; omega) | exact keepP_same _ _ _ | (repeat (first | exact trivial | refine And.intro rfl ?_)))); (conv => whnf)) | (refine fun (nc : Nat) (hnc : _ ≤ nc) => ?_; (conv => whnf)) | (refine bif2_true ?_ ?_; (· assumption); (conv => whnf)) | (refine bif2_false ?_ ?_; (· assumption); (conv => whnf)) | (refine bif2_split (fun h => ?_) (fun h => ?_) <;> (conv => whnf)))
  all_goals (refine ⟨?_, rfl⟩; simp [*, rightB])
theorem span_s (a b c : Int) : Pure Try.prog 0 50 [i64 a, i64 b, i64 c] (fun v => v = i64 (imax (imin a c) b)) := by
  refine Pure.body tt_ok mixed Try.func50 rfl (Nat.le_of_ble_eq_true rfl) ?_
  (conv => whnf)
  exact ⟨rfl, rfl⟩
def cl (x : Int) : Int := imax (imin x 1048576) 0
def okR (a : Int) : Bool := decide (0 ≤ a ∧ a ≤ 1048576)
def rightR (a b c : Int) : Bool := okR a && (okR b && okR c)
def fitsR (a b c x y z : Int) : Bool := decide (a ≤ x) && (decide (b ≤ y) && decide (c ≤ z))
theorem cl_eq (a : Int) : (a == cl a) = okR a := by
  unfold cl okR imax imin
  rw [Bool.eq_iff_iff]
  simp
  split <;> split <;> omega
theorem max_eq (a b : Int) : (imax a b == b) = decide (a ≤ b) := by
  unfold imax
  rw [Bool.eq_iff_iff]
  simp
  omega
/-- one or the other -/
def chI (c : Bool) (x y : Int) : Int := match c with
  | true => x
  | false => y
@[simp] theorem chI_t (x y : Int) : chI true x y = x := rfl
@[simp] theorem chI_f (x y : Int) : chI false x y = y := rfl
abbrev rb (c : Bool) (x y z : Int) : Value := .tuple #[r3 (chI c x 0) (chI c y 0) (chI c z 0), .bool c]
def bothB (a b c x y z p q r : Int) : Bool := rightR a b c && (rightR x y z && rightR p q r)
theorem wrap_in {a : Int} (h : -9223372036854775808 ≤ a ∧ a ≤ 9223372036854775807) : IntKind.i64.wrap a = a := IntWalk.i64_in _ h
theorem okR_iff {a : Int} : okR a = true ↔ 0 ≤ a ∧ a ≤ 1048576 := by simp [okR]
theorem rightR_iff {a b c : Int} : rightR a b c = true ↔ (0 ≤ a ∧ a ≤ 1048576) ∧ (0 ≤ b ∧ b ≤ 1048576) ∧ (0 ≤ c ∧ c ≤ 1048576) := by simp [rightR, okR]
def addB (a b c x y z : Int) : Bool := bothB a b c x y z (a + x) (b + y) (c + z)
theorem add_wrap (a b c x y z : Int) : bothB a b c x y z (IntKind.i64.wrap (a + x)) (IntKind.i64.wrap (b + y)) (IntKind.i64.wrap (c + z)) = addB a b c x y z := by
  unfold addB bothB
  cases h1 : rightR a b c
  · rfl
  · cases h2 : rightR x y z
    · rfl
    · rw [rightR_iff] at h1 h2
      rw [wrap_in (by omega), wrap_in (by omega), wrap_in (by omega)]
def subB (a b c x y z : Int) : Bool := bothB a b c x y z (a - x) (b - y) (c - z)
theorem sub_wrap (a b c x y z : Int) : bothB a b c x y z (IntKind.i64.wrap (a - x)) (IntKind.i64.wrap (b - y)) (IntKind.i64.wrap (c - z)) = subB a b c x y z := by
  unfold subB bothB
  cases h1 : rightR a b c
  · rfl
  · cases h2 : rightR x y z
    · rfl
    · rw [rightR_iff] at h1 h2
      rw [wrap_in (by omega), wrap_in (by omega), wrap_in (by omega)]
theorem ch_add {a b c x y z : Int} : rb (addB a b c x y z) (IntKind.i64.wrap (a + x)) (IntKind.i64.wrap (b + y)) (IntKind.i64.wrap (c + z)) = rb (addB a b c x y z) (a + x) (b + y) (c + z) := by
  cases h : addB a b c x y z
  · rfl
  · simp only [addB, bothB, Bool.and_eq_true, rightR_iff] at h
    rw [wrap_in (by omega), wrap_in (by omega), wrap_in (by omega)]
theorem ch_sub {a b c x y z : Int} : rb (subB a b c x y z) (IntKind.i64.wrap (a - x)) (IntKind.i64.wrap (b - y)) (IntKind.i64.wrap (c - z)) = rb (subB a b c x y z) (a - x) (b - y) (c - z) := by
  cases h : subB a b c x y z
  · rfl
  · simp only [subB, bothB, Bool.and_eq_true, rightR_iff] at h
    rw [wrap_in (by omega), wrap_in (by omega), wrap_in (by omega)]
theorem subB_eq (a b c x y z : Int) : subB a b c x y z = (rightR a b c && (rightR x y z && fitsR x y z a b c)) := by
  unfold subB bothB
  rw [Bool.eq_iff_iff]
  simp only [Bool.and_eq_true, rightR_iff, fitsR, decide_eq_true_eq]
  constructor
  · intro h; omega
  · intro h; omega
end Go.Proofs.Ytliaoaejmmkkjaa

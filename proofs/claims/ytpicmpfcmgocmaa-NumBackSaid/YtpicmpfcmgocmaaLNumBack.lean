/- What is added is taken away again, a product is as often a sum, and the order of two plays no part; no condition. -/
import Derived.Test.YtpicmpfcmgocmaaNumD
import Derived.Test.YtpicmpfcmgocmaaRead
namespace Go.Proofs.Ytpicmpfcmgocmaa
open Go.RowKit Go.ChangeShapes Go.WideShapes Go.ChangeAt

theorem addB_comm (a b : Int) : addB b a = addB a b := by unfold addB; rw [Int.add_comm]
theorem addV_comm (a b : Int) : addV b a = addV a b := by unfold addV; rw [addB_comm, Int.add_comm]
theorem mulB_comm (a b : Int) : mulB b a = mulB a b := by unfold mulB; rw [Int.mul_comm]
theorem mulV_comm (a b : Int) : mulV b a = mulV a b := by unfold mulV; rw [mulB_comm, Int.mul_comm]
theorem add_s (a b : Int) (ha : I64 a) (hb : I64 b) (w : World) :
    Calls Try.prog 13 #[.int .i64 b, .int .i64 a] w fun e w' => e = .returned (.tuple #[.int .i64 (addV a b), .bool (addB a b)]) ∧ Gr w w' := by
  have h := add_c b a hb ha w
  rw [addV_comm, addB_comm] at h
  exact h
theorem mul_s (a b : Int) (ha : I64 a) (hb : I64 b) (w : World) :
    Calls Try.prog 17 #[.int .i64 b, .int .i64 a] w fun e w' => e = .returned (.tuple #[.int .i64 (mulV a b), .bool (mulB a b)]) ∧ Gr w w' := by
  have h := mul_c b a hb ha w
  rw [mulV_comm, mulB_comm] at h
  exact h
theorem sub_back (a b : Int) (ha : I64 a) (hb : I64 b) (h : addB a b = true) (w : World) :
    Calls Try.prog 15 #[.int .i64 (addV a b), .int .i64 b] w fun e w' => e = .returned (.tuple #[.int .i64 a, .bool true]) ∧ Gr w w' := by
  refine (sub_c _ _ (I64_add h) hb w).mono ?_
  rintro e w' ⟨rfl, hg⟩
  refine ⟨?_, hg⟩
  rw [addV_t h]
  have e1 : a + b - b = a := by omega
  have e2 : subB (a + b) b = true := by unfold subB; rw [e1]; unfold I64 at ha; simpa using ha
  rw [subV_t e2, e1, e2]

/-- How it stands behind k sums. -/
def BackRel (a T : Int) (w : World) (n all i : Value) (wr : World) : Prop :=
  ∃ k : Nat, (k : Int) ≤ T ∧ i = .int .i64 k ∧ Gr w wr ∧ ((all = .bool true ∧ n = .int .i64 (k * a) ∧ I64 (k * a)) ∨ (all = .bool false ∧ n = .int .i64 0 ∧ mulB a T = false))
theorem over_mul {a T : Int} {k : Nat} (hk : (k : Int) < T) (hm : I64 (k * a)) (ha : I64 a) (h : addB (k * a) a = false) : mulB a T = false := by
  have h1 : ((k : Int) + 1) * a = k * a + a := by rw [Int.add_mul, Int.one_mul]
  unfold addB at h
  unfold mulB
  simp only [decide_eq_false_iff_not] at *
  unfold I64 at hm ha
  rw [Int.mul_comm a T]
  rcases Int.lt_or_le a 0 with hn | hp
  · have h2 : T * a ≤ ((k : Int) + 1) * a := Int.mul_le_mul_of_nonpos_right (by omega) (by omega)
    omega
  · have h2 : ((k : Int) + 1) * a ≤ T * a := Int.mul_le_mul_of_nonneg_right (by omega) (by omega)
    omega
theorem at_end {a T : Int} {k : Nat} (hk : (k : Int) = T) (hm : I64 (k * a)) : mulB a T = true ∧ mulV a T = k * a := by
  have e : a * T = k * a := by rw [← hk, Int.mul_comm]
  have h1 : mulB a T = true := by unfold mulB; rw [e]; unfold I64 at hm; simpa using hm
  exact ⟨h1, by rw [mulV_t h1, e]⟩
set_option maxRecDepth 100000 in
set_option maxHeartbeats 1000000 in
theorem numBack_walk (a : Int) (ha : I64 a) (b : Int) (hb : I64 b) (often : Int) (ho : 0 ≤ often ∧ often ≤ 255) (w : World) :
    Calls Try.prog 5 #[.int .i64 a, .int .i64 b, .int .u8 often] w fun e w' => e = .returned (.bool true) ∧ Gr w w' := by
  have ho1 := ho.1
  have ho2 := ho.2
  have hT0 : 0 ≤ often % 200 := by omega
  have hT1 : often % 200 < 200 := by omega
  have hTI : I64 (often % 200) := by unfold I64; omega
  cases h1 : addB a b
  all_goals
    go_enter Try.func5, Try.ntmps5
    go_wp2_with (first
      | (go_at_call 13; first | ((with_reducible refine (add_c a b ha hb _).mono ?_); rintro e w1 ⟨rfl, hb1⟩) | ((with_reducible refine (add_s a b ha hb _).mono ?_); rintro e w1 ⟨rfl, hb1⟩))
      | (go_at_call 15; refine (sub_back a b ha hb h1 _).mono ?_; rintro e w2 ⟨rfl, hb2⟩)
      | (go_at_call 17; first | ((with_reducible refine (mul_c a b ha hb _).mono ?_); rintro e w3 ⟨rfl, hb3⟩) | ((with_reducible refine (mul_s a b ha hb _).mono ?_); rintro e w3 ⟨rfl, hb3⟩)))
    go_loopw [17, 18, 19] (fun n all i wr => BackRel a (often % 200) w n all i wr) (fun _ _ i _ => (often % 200 - intOf i).toNat)
    case atStart =>
      refine ⟨0, by omega, rfl, ?_, .inl ⟨rfl, by simp, by unfold I64; omega⟩⟩
      repeat (first | exact Gr.refl _ | assumption | apply Gr.alloc | (refine Gr.trans ?_ (by assumption)))
    case round =>
      obtain ⟨k, hk, rfl, hg, hh⟩ := hrel
      rcases hh with ⟨rfl, rfl, hI⟩ | ⟨rfl, rfl, hm⟩
      · obtain ⟨m, hmm⟩ : ∃ m, (k : Int) * a = m := ⟨_, rfl⟩
        rw [hmm] at hI
        rw [hmm]
        have HM := hid hmm
        clear hmm
        by_cases hlt : (k : Int) < often % 200
        · go_wp2_with (go_at_call 13; refine (add_c _ _ hI ha _).mono ?_; rintro e w5 ⟨rfl, hb5⟩)
          go_roundw
          case rel =>
            go_light
            refine ⟨k + 1, by omega, by go_num, hg.trans hb5, ?_⟩
            have e : ((k + 1 : Nat) : Int) * a = m + a := by rw [← HM.out, Int.natCast_add, Int.add_mul]; simp
            cases h2 : addB m a
            · refine .inr ⟨rfl, by rw [addV_f h2], ?_⟩
              rw [← HM.out] at h2 hI
              exact over_mul hlt hI ha h2
            · refine .inl ⟨rfl, by rw [e, addV_t h2], ?_⟩
              have h3 := I64_add h2
              rw [addV_t h2] at h3
              rw [e]; exact h3
          case measure => simp [intOf]; omega
        · have he := at_end (a := a) (T := often % 200) (k := k) (by omega) (by rw [HM.out]; exact hI)
          rw [HM.out] at he
          have he1 := he.1
          have he2 := he.2
          clear he
          go_wp2_with (first
            | (go_at_call 17; refine (mul_c _ _ ha hTI _).mono ?_; rintro e w6 ⟨rfl, hb6⟩)
            | (go_at_call 19; refine (awake01_c _).mono ?_; rintro e w7 ⟨rfl, hb7⟩))
          go_ret
          refine ⟨rfl, ?_⟩
          repeat (first | exact Gr.refl _ | assumption | apply Gr.alloc | (refine Gr.trans ?_ (by assumption)))
      · go_wp2_with (first
            | (go_at_call 17; refine (mul_c _ _ ha hTI _).mono ?_; rintro e w6 ⟨rfl, hb6⟩)
            | (go_at_call 19; refine (awake01_c _).mono ?_; rintro e w7 ⟨rfl, hb7⟩))
        all_goals
          go_ret
          refine ⟨by simp, ?_⟩
          repeat (first | exact Gr.refl _ | assumption | apply Gr.alloc | (refine Gr.trans ?_ (by assumption)))
set_option maxRecDepth 100000 in
theorem numBack_lifted (os : Os) (started : os.Started) (H : Type) (enc : TypeId × Value → H) :
    ReturnsInHanded {} Try.checked os 5 .any (Rows.numBackSpec.pre6 enc Try.prog Try.f5 Rows.numBackRow.domain false) (Rows.numBackSpec.post enc Try.prog Try.f5 false true false false) := by
  refine returnsInHanded_of_change (C := Try.checked) own started (by kernel_rfl) Try.func5
    (ChangeSpec.witness6 (enc := enc) (C := Try.checked) false ⟨#[], #[.int .i64 0, .int .i64 0, .int .u8 0], []⟩ 8 (by kernel_rfl) (by kernel_rfl) (by kernel_rfl) (by kernel_rfl)) ?_
  intro W base args ds gs before hval0 hW _ _
  have hval : ∀ (j : Nat) t v, Try.f5.params[j]? = some t → args[j]? = some v → Value.okWide Try.prog W .any base t v := hval0
  have hW0 := hW
  obtain ⟨p, q, hA0, hV, _, _, _⟩ := hW
  have hA : DataW.TrodAll enc Try.prog W 0 (fun _ => true) true Try.f5.params.toList args.toList ds p := hA0
  rw [Try.params5] at hA hval
  obtain ⟨v0, vs0, d0, ds0, p0, q0, hargs, rfl, _, h0, r0⟩ := trodAll_cons hA
  obtain ⟨v1, vs1, d1, ds1, p1, q1, rfl, rfl, _, h1, r1⟩ := trodAll_cons r0
  obtain ⟨v2, vs2, d2, ds2, p2, q2, rfl, rfl, _, h2, r2⟩ := trodAll_cons r1
  obtain ⟨rfl, rfl, _⟩ := trodAll_nil r2
  obtain rfl : args = #[v0, v1, v2] := by cases args; simp_all
  obtain ⟨rfl, _⟩ := trodVars_none hV
  obtain ⟨a0, rfl, rfl, _, w0⟩ := open_int Try.underlying3 (hval 0 3 v0 rfl rfl) h0
  obtain ⟨a1, rfl, rfl, _, w1⟩ := open_int Try.underlying3 (hval 1 3 v1 rfl rfl) h1
  obtain ⟨a2, rfl, rfl, _, w2⟩ := open_int Try.underlying5 (hval 2 5 v2 rfl rfl) h2
  refine (numBack_walk a0 (I64_wf w0) a1 (I64_wf w1) a2 (bounds_u8 w2) W).mono fun e W' ⟨he, hg⟩ => ?_
  exact ⟨_, he, post_true laidOut (tb := 4) (by kernel_rfl) Try.underlying4 (by decide +kernel) rfl rfl rfl rfl hW0 hg⟩

theorem numBack_holds : Rows.NumBackSaid :=
  OpenClaim.holds_of_wide 5 Try.f5 rfl rfl rfl rfl rfl rfl rfl ⟨rfl, rfl, rfl, rfl, rfl⟩ rfl rfl rfl rfl rfl (by kernel_rfl) Try.func5 (by kernel_rfl)
    (of_decide_eq_true (by kernel_rfl)) (by unfold Func.isWrapper; rw [if_neg (by decide +kernel)]; exact ⟨rfl, rfl⟩)
    (fun os started H enc _ => numBack_lifted os started H enc)
#print axioms numBack_holds
end Go.Proofs.Ytpicmpfcmgocmaa

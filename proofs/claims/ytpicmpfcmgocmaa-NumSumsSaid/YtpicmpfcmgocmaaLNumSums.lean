/- The sum of any numbers, or that there is none: the program's answer is the reference's; no condition. -/
import Derived.Test.YtpicmpfcmgocmaaNumD
import Derived.Test.YtpicmpfcmgocmaaRead
namespace Go.Proofs.Ytpicmpfcmgocmaa
open Go.RowKit Go.ChangeShapes Go.WideShapes Go.ChangeAt

theorem intsAt_of {w : World} {A : Option Addr} {n : Nat} (h : SliceAt w A n 1 [.i .i64]) : ∃ zs : List Int, zs.length = n ∧ IntsAt w A zs := by
  refine ⟨(List.range n).map (intIn w A), by simp, fun k hk => ?_⟩
  simp at hk
  obtain ⟨b, off, rfl, hb, hc⟩ := h k hk
  obtain ⟨v, h1, h2⟩ := hc 0 (.i .i64) rfl
  simp only [Nat.mul_one, Nat.add_zero] at h1
  obtain ⟨rfl, h4⟩ := intIn_cell h1 h2
  have e : ((List.range n).map (intIn w (some ⟨b, off, none⟩))).getD k 0 = intIn w (some ⟨b, off, none⟩) k := by
    simp [List.getD_eq_getElem?_getD, List.getElem?_map, List.getElem?_range hk]
  rw [e]
  exact ⟨b, off, rfl, hb, h1, h4⟩
set_option maxHeartbeats 1000000 in
theorem numSums_walk' (A : Option Addr) (zs : List Int) (c : Nat) (hm : zs.length ≤ 9223372036854775807) (w : World) (hz : IntsAt w A zs) :
    Calls Try.prog 4 #[.slice A zs.length c] w fun e w' => e = .returned (.bool true) ∧ Gr w w' := by
  have HZ := hid hz
  clear hz
  go_enter Try.func4, Try.ntmps4
  go_wp2_with (first
    | (go_at_call 20; refine (sum_c _ _ _ _ HZ.out hm).mono ?_; rintro e w1 ⟨rfl, hb1⟩)
    | (go_at_call 21; refine (rsum_c _ _ _ _ (HZ.out.below hb1) hm).mono ?_; rintro e w2 ⟨rfl, hb2⟩)
    | (go_at_call 19; refine (awake01_c _).mono ?_; rintro e w4 ⟨rfl, hb4⟩))
  all_goals
    go_ret
    refine ⟨rfl, ?_⟩
    repeat (first | exact Gr.refl _ | assumption | apply Gr.alloc | (refine Gr.trans ?_ (by assumption)))
theorem numSums_walk (A : Option Addr) (n c : Nat) (hn : n ≤ c) (hc : c ≤ maxLen) (w : World) (hs : SliceAt w A n 1 [.i .i64]) :
    Calls Try.prog 4 #[.slice A n c] w fun e w' => e = .returned (.bool true) ∧ Gr w w' := by
  obtain ⟨zs, rfl, hz⟩ := intsAt_of hs
  exact numSums_walk' A zs c (by unfold maxLen at hc; omega) w hz

set_option maxRecDepth 100000 in
theorem numSums_lifted (os : Os) (started : os.Started) (H : Type) (enc : TypeId × Value → H) :
    ReturnsInHanded {} Try.checked os 4 .any (Rows.numSumsSpec.pre6 enc Try.prog Try.f4 Rows.numSumsRow.domain false) (Rows.numSumsSpec.post enc Try.prog Try.f4 false true false false) := by
  refine returnsInHanded_of_change (C := Try.checked) own started (by kernel_rfl) Try.func4
    (ChangeSpec.witness6 (enc := enc) (C := Try.checked) false ⟨#[], #[.slice none 0 0], []⟩ 8 (by kernel_rfl) (by kernel_rfl) (by kernel_rfl) (by kernel_rfl)) ?_
  intro W base args ds gs before hval0 hW _ _
  have hval : ∀ (j : Nat) t v, Try.f4.params[j]? = some t → args[j]? = some v → Value.okWide Try.prog W .any base t v := hval0
  have hW0 := hW
  obtain ⟨p, q, hA0, hV, _, _, _⟩ := hW
  have hA : DataW.TrodAll enc Try.prog W 0 (fun _ => true) true Try.f4.params.toList args.toList ds p := hA0
  rw [Try.params4] at hA hval
  obtain ⟨v0, vs0, d0, ds0, p0, q0, hargs, rfl, _, h0, r0⟩ := trodAll_cons hA
  obtain ⟨rfl, rfl, _⟩ := trodAll_nil r0
  obtain rfl : args = #[v0] := by cases args; simp_all
  obtain ⟨rfl, _⟩ := trodVars_none hV
  obtain ⟨A0, n0, c0, rfl, hn0, hc0, hs0⟩ := read_slice (m := 8) (ks := [.i .i64]) Try.underlying26 (by kernel_rfl) (by decide) (by kernel_rfl) (hval 0 26 v0 rfl rfl) h0
  refine (numSums_walk A0 n0 c0 hn0 hc0 W hs0).mono fun e W' ⟨he, hg⟩ => ?_
  exact ⟨_, he, post_true laidOut (tb := 4) (by kernel_rfl) Try.underlying4 (by decide +kernel) rfl rfl rfl rfl hW0 hg⟩

theorem numSums_holds : Rows.NumSumsSaid :=
  OpenClaim.holds_of_wide 4 Try.f4 rfl rfl rfl rfl rfl rfl rfl ⟨rfl, rfl, rfl, rfl, rfl⟩ rfl rfl rfl rfl rfl (by kernel_rfl) Try.func4 (by kernel_rfl)
    (of_decide_eq_true (by kernel_rfl)) (by unfold Func.isWrapper; rw [if_neg (by decide +kernel)]; exact ⟨rfl, rfl⟩)
    (fun os started H enc _ => numSums_lifted os started H enc)
#print axioms numSums_holds
end Go.Proofs.Ytpicmpfcmgocmaa

/- Of any two jobs, of any two nodes, one is first, nothing is ahead of itself, what is ahead of what is ahead is so, and the keys say the same: at any three jobs and any three nodes; no condition. -/
import Derived.Test.YtkoabiahebakjaaK4
import Derived.Test.YtkoabiahebakjaaRows
import Derived.Test.YtkoabiahebakjaaChecked

namespace Go.Proofs.Ytkoabiahebakjaa
open Go.RowKit
open Go.RowKit Go.ChangeShapes Go.WideShapes Go.ChangeAt
theorem own : ownKnob Try.prog.godebug = none := by kernel_rfl
theorem laidOut : laidOutB Try.prog = true := by kernel_rfl
theorem rankOrders_walk (jid0 : Int) (hjid0 : I64 jid0) (jpr0 : Int) (hjpr0 : I64 jpr0) (jsq0 : Int) (hjsq0 : I64 jsq0) (jph0 : Int) (hjph0 : I64 jph0) (jnd0 : Int) (hjnd0 : I64 jnd0) (jn00 : Int) (hjn00 : I64 jn00) (jn10 : Int) (hjn10 : I64 jn10) (jn20 : Int) (hjn20 : I64 jn20) (jid1 : Int) (hjid1 : I64 jid1) (jpr1 : Int) (hjpr1 : I64 jpr1) (jsq1 : Int) (hjsq1 : I64 jsq1) (jph1 : Int) (hjph1 : I64 jph1) (jnd1 : Int) (hjnd1 : I64 jnd1) (jn01 : Int) (hjn01 : I64 jn01) (jn11 : Int) (hjn11 : I64 jn11) (jn21 : Int) (hjn21 : I64 jn21) (jid2 : Int) (hjid2 : I64 jid2) (jpr2 : Int) (hjpr2 : I64 jpr2) (jsq2 : Int) (hjsq2 : I64 jsq2) (jph2 : Int) (hjph2 : I64 jph2) (jnd2 : Int) (hjnd2 : I64 jnd2) (jn02 : Int) (hjn02 : I64 jn02) (jn12 : Int) (hjn12 : I64 jn12) (jn22 : Int) (hjn22 : I64 jn22) (mid0 : Int) (_ : I64 mid0) (minc0 : Int) (_ : I64 minc0) (mld0 : Int) (_ : I64 mld0) (mc00 : Int) (_ : I64 mc00) (mc10 : Int) (_ : I64 mc10) (mc20 : Int) (_ : I64 mc20) (mu00 : Int) (_ : I64 mu00) (mu10 : Int) (_ : I64 mu10) (mu20 : Int) (_ : I64 mu20) (mup0 : Bool) (mid1 : Int) (_ : I64 mid1) (minc1 : Int) (_ : I64 minc1) (mld1 : Int) (_ : I64 mld1) (mc01 : Int) (_ : I64 mc01) (mc11 : Int) (_ : I64 mc11) (mc21 : Int) (_ : I64 mc21) (mu01 : Int) (_ : I64 mu01) (mu11 : Int) (_ : I64 mu11) (mu21 : Int) (_ : I64 mu21) (mup1 : Bool) (mid2 : Int) (_ : I64 mid2) (minc2 : Int) (_ : I64 minc2) (mld2 : Int) (_ : I64 mld2) (mc02 : Int) (_ : I64 mc02) (mc12 : Int) (_ : I64 mc12) (mc22 : Int) (_ : I64 mc22) (mu02 : Int) (_ : I64 mu02) (mu12 : Int) (_ : I64 mu12) (mu22 : Int) (_ : I64 mu22) (mup2 : Bool) (W : World) :
    Calls Try.prog 5 #[.agg #[.int .i64 jid0, .int .i64 jpr0, .int .i64 jsq0, .int .i64 jph0, .int .i64 jnd0, .int .i64 jn00, .int .i64 jn10, .int .i64 jn20, .int .i64 jid1, .int .i64 jpr1, .int .i64 jsq1, .int .i64 jph1, .int .i64 jnd1, .int .i64 jn01, .int .i64 jn11, .int .i64 jn21, .int .i64 jid2, .int .i64 jpr2, .int .i64 jsq2, .int .i64 jph2, .int .i64 jnd2, .int .i64 jn02, .int .i64 jn12, .int .i64 jn22], .agg #[.int .i64 mid0, .int .i64 minc0, .int .i64 mld0, .int .i64 mc00, .int .i64 mc10, .int .i64 mc20, .int .i64 mu00, .int .i64 mu10, .int .i64 mu20, .bool mup0, .int .i64 mid1, .int .i64 minc1, .int .i64 mld1, .int .i64 mc01, .int .i64 mc11, .int .i64 mc21, .int .i64 mu01, .int .i64 mu11, .int .i64 mu21, .bool mup1, .int .i64 mid2, .int .i64 minc2, .int .i64 mld2, .int .i64 mc02, .int .i64 mc12, .int .i64 mc22, .int .i64 mu02, .int .i64 mu12, .int .i64 mu22, .bool mup2]] W fun e W' => e = .returned (.bool true) ∧ Gr W W' :=
  (rankOrders_s ⟨jid0, jpr0, jsq0, jph0, jnd0, jn00, jn10, jn20⟩ ⟨jid1, jpr1, jsq1, jph1, jnd1, jn01, jn11, jn21⟩ ⟨jid2, jpr2, jsq2, jph2, jnd2, jn02, jn12, jn22⟩ ⟨mid0, minc0, mld0, mc00, mc10, mc20, mu00, mu10, mu20, mup0⟩ ⟨mid1, minc1, mld1, mc01, mc11, mc21, mu01, mu11, mu21, mup1⟩ ⟨mid2, minc2, mld2, mc02, mc12, mc22, mu02, mu12, mu22, mup2⟩ hjpr0.2 hjpr1.2 hjpr2.2).calls rfl W
set_option maxRecDepth 100000 in
theorem rankOrders_lifted (os : Os) (started : os.Started) (H : Type) (enc : TypeId × Value → H) :
    ReturnsInHanded {} Try.checked os 5 .any (Rows.rankOrdersSpec.pre6 enc Try.prog Try.f5 Rows.rankOrdersRow.domain false) (Rows.rankOrdersSpec.post enc Try.prog Try.f5 false true false false) := by
  refine returnsInHanded_of_change (C := Try.checked) own started (by kernel_rfl) Try.func5
    (ChangeSpec.witness6 (enc := enc) (C := Try.checked) false ⟨#[], #[.agg #[.int .i64 0, .int .i64 0, .int .i64 0, .int .i64 0, .int .i64 0, .int .i64 0, .int .i64 0, .int .i64 0, .int .i64 0, .int .i64 0, .int .i64 0, .int .i64 0, .int .i64 0, .int .i64 0, .int .i64 0, .int .i64 0, .int .i64 0, .int .i64 0, .int .i64 0, .int .i64 0, .int .i64 0, .int .i64 0, .int .i64 0, .int .i64 0], .agg #[.int .i64 0, .int .i64 0, .int .i64 0, .int .i64 0, .int .i64 0, .int .i64 0, .int .i64 0, .int .i64 0, .int .i64 0, .bool false, .int .i64 0, .int .i64 0, .int .i64 0, .int .i64 0, .int .i64 0, .int .i64 0, .int .i64 0, .int .i64 0, .int .i64 0, .bool false, .int .i64 0, .int .i64 0, .int .i64 0, .int .i64 0, .int .i64 0, .int .i64 0, .int .i64 0, .int .i64 0, .int .i64 0, .bool false]], []⟩ 8 (by kernel_rfl) (by kernel_rfl) (by kernel_rfl) (by kernel_rfl)) ?_
  intro W base args ds gs before hval0 hW _ _
  have hval : ∀ (j : Nat) t v, Try.f5.params[j]? = some t → args[j]? = some v → Value.okWide Try.prog W .any base t v := hval0
  have hW0 := hW
  obtain ⟨p, q, hA0, hV, _, _, _⟩ := hW
  have hA : DataW.TrodAll enc Try.prog W 0 (fun _ => true) true Try.f5.params.toList args.toList ds p := hA0
  rw [Try.params5] at hA hval
  obtain ⟨v0, vs0, d0, ds0, p0, q0, hargs, rfl, _, h0, r0⟩ := trodAll_cons hA
  obtain ⟨v1, vs1, d1, ds1, p1, q1, rfl, rfl, _, h1, r1⟩ := trodAll_cons r0
  obtain ⟨rfl, rfl, _⟩ := trodAll_nil r1
  obtain rfl : args = #[v0, v1] := by cases args; simp_all
  obtain ⟨rfl, _⟩ := trodVars_none hV
  obtain ⟨cs0, rfl, ha0⟩ := read_agg (m := 8) (ks := [.i .i64, .i .i64, .i .i64, .i .i64, .i .i64, .i .i64, .i .i64, .i .i64, .i .i64, .i .i64, .i .i64, .i .i64, .i .i64, .i .i64, .i .i64, .i .i64, .i .i64, .i .i64, .i .i64, .i .i64, .i .i64, .i .i64, .i .i64, .i .i64]) (by kernel_rfl) (by kernel_rfl) (hval 0 42 v0 rfl rfl) h0
  obtain ⟨_, m0_0, rfl, ⟨x0_0, rfl, w0_0⟩, t0_0⟩ := All2.cons_inv ha0
  obtain ⟨_, m0_1, rfl, ⟨x0_1, rfl, w0_1⟩, t0_1⟩ := All2.cons_inv t0_0
  obtain ⟨_, m0_2, rfl, ⟨x0_2, rfl, w0_2⟩, t0_2⟩ := All2.cons_inv t0_1
  obtain ⟨_, m0_3, rfl, ⟨x0_3, rfl, w0_3⟩, t0_3⟩ := All2.cons_inv t0_2
  obtain ⟨_, m0_4, rfl, ⟨x0_4, rfl, w0_4⟩, t0_4⟩ := All2.cons_inv t0_3
  obtain ⟨_, m0_5, rfl, ⟨x0_5, rfl, w0_5⟩, t0_5⟩ := All2.cons_inv t0_4
  obtain ⟨_, m0_6, rfl, ⟨x0_6, rfl, w0_6⟩, t0_6⟩ := All2.cons_inv t0_5
  obtain ⟨_, m0_7, rfl, ⟨x0_7, rfl, w0_7⟩, t0_7⟩ := All2.cons_inv t0_6
  obtain ⟨_, m0_8, rfl, ⟨x0_8, rfl, w0_8⟩, t0_8⟩ := All2.cons_inv t0_7
  obtain ⟨_, m0_9, rfl, ⟨x0_9, rfl, w0_9⟩, t0_9⟩ := All2.cons_inv t0_8
  obtain ⟨_, m0_10, rfl, ⟨x0_10, rfl, w0_10⟩, t0_10⟩ := All2.cons_inv t0_9
  obtain ⟨_, m0_11, rfl, ⟨x0_11, rfl, w0_11⟩, t0_11⟩ := All2.cons_inv t0_10
  obtain ⟨_, m0_12, rfl, ⟨x0_12, rfl, w0_12⟩, t0_12⟩ := All2.cons_inv t0_11
  obtain ⟨_, m0_13, rfl, ⟨x0_13, rfl, w0_13⟩, t0_13⟩ := All2.cons_inv t0_12
  obtain ⟨_, m0_14, rfl, ⟨x0_14, rfl, w0_14⟩, t0_14⟩ := All2.cons_inv t0_13
  obtain ⟨_, m0_15, rfl, ⟨x0_15, rfl, w0_15⟩, t0_15⟩ := All2.cons_inv t0_14
  obtain ⟨_, m0_16, rfl, ⟨x0_16, rfl, w0_16⟩, t0_16⟩ := All2.cons_inv t0_15
  obtain ⟨_, m0_17, rfl, ⟨x0_17, rfl, w0_17⟩, t0_17⟩ := All2.cons_inv t0_16
  obtain ⟨_, m0_18, rfl, ⟨x0_18, rfl, w0_18⟩, t0_18⟩ := All2.cons_inv t0_17
  obtain ⟨_, m0_19, rfl, ⟨x0_19, rfl, w0_19⟩, t0_19⟩ := All2.cons_inv t0_18
  obtain ⟨_, m0_20, rfl, ⟨x0_20, rfl, w0_20⟩, t0_20⟩ := All2.cons_inv t0_19
  obtain ⟨_, m0_21, rfl, ⟨x0_21, rfl, w0_21⟩, t0_21⟩ := All2.cons_inv t0_20
  obtain ⟨_, m0_22, rfl, ⟨x0_22, rfl, w0_22⟩, t0_22⟩ := All2.cons_inv t0_21
  obtain ⟨_, m0_23, rfl, ⟨x0_23, rfl, w0_23⟩, t0_23⟩ := All2.cons_inv t0_22
  obtain rfl := All2.nil_inv t0_23
  obtain ⟨cs1, rfl, ha1⟩ := read_agg (m := 8) (ks := [.i .i64, .i .i64, .i .i64, .i .i64, .i .i64, .i .i64, .i .i64, .i .i64, .i .i64, .b, .i .i64, .i .i64, .i .i64, .i .i64, .i .i64, .i .i64, .i .i64, .i .i64, .i .i64, .b, .i .i64, .i .i64, .i .i64, .i .i64, .i .i64, .i .i64, .i .i64, .i .i64, .i .i64, .b]) (by kernel_rfl) (by kernel_rfl) (hval 1 43 v1 rfl rfl) h1
  obtain ⟨_, m1_0, rfl, ⟨x1_0, rfl, w1_0⟩, t1_0⟩ := All2.cons_inv ha1
  obtain ⟨_, m1_1, rfl, ⟨x1_1, rfl, w1_1⟩, t1_1⟩ := All2.cons_inv t1_0
  obtain ⟨_, m1_2, rfl, ⟨x1_2, rfl, w1_2⟩, t1_2⟩ := All2.cons_inv t1_1
  obtain ⟨_, m1_3, rfl, ⟨x1_3, rfl, w1_3⟩, t1_3⟩ := All2.cons_inv t1_2
  obtain ⟨_, m1_4, rfl, ⟨x1_4, rfl, w1_4⟩, t1_4⟩ := All2.cons_inv t1_3
  obtain ⟨_, m1_5, rfl, ⟨x1_5, rfl, w1_5⟩, t1_5⟩ := All2.cons_inv t1_4
  obtain ⟨_, m1_6, rfl, ⟨x1_6, rfl, w1_6⟩, t1_6⟩ := All2.cons_inv t1_5
  obtain ⟨_, m1_7, rfl, ⟨x1_7, rfl, w1_7⟩, t1_7⟩ := All2.cons_inv t1_6
  obtain ⟨_, m1_8, rfl, ⟨x1_8, rfl, w1_8⟩, t1_8⟩ := All2.cons_inv t1_7
  obtain ⟨_, m1_9, rfl, ⟨x1_9, rfl⟩, t1_9⟩ := All2.cons_inv t1_8
  obtain ⟨_, m1_10, rfl, ⟨x1_10, rfl, w1_10⟩, t1_10⟩ := All2.cons_inv t1_9
  obtain ⟨_, m1_11, rfl, ⟨x1_11, rfl, w1_11⟩, t1_11⟩ := All2.cons_inv t1_10
  obtain ⟨_, m1_12, rfl, ⟨x1_12, rfl, w1_12⟩, t1_12⟩ := All2.cons_inv t1_11
  obtain ⟨_, m1_13, rfl, ⟨x1_13, rfl, w1_13⟩, t1_13⟩ := All2.cons_inv t1_12
  obtain ⟨_, m1_14, rfl, ⟨x1_14, rfl, w1_14⟩, t1_14⟩ := All2.cons_inv t1_13
  obtain ⟨_, m1_15, rfl, ⟨x1_15, rfl, w1_15⟩, t1_15⟩ := All2.cons_inv t1_14
  obtain ⟨_, m1_16, rfl, ⟨x1_16, rfl, w1_16⟩, t1_16⟩ := All2.cons_inv t1_15
  obtain ⟨_, m1_17, rfl, ⟨x1_17, rfl, w1_17⟩, t1_17⟩ := All2.cons_inv t1_16
  obtain ⟨_, m1_18, rfl, ⟨x1_18, rfl, w1_18⟩, t1_18⟩ := All2.cons_inv t1_17
  obtain ⟨_, m1_19, rfl, ⟨x1_19, rfl⟩, t1_19⟩ := All2.cons_inv t1_18
  obtain ⟨_, m1_20, rfl, ⟨x1_20, rfl, w1_20⟩, t1_20⟩ := All2.cons_inv t1_19
  obtain ⟨_, m1_21, rfl, ⟨x1_21, rfl, w1_21⟩, t1_21⟩ := All2.cons_inv t1_20
  obtain ⟨_, m1_22, rfl, ⟨x1_22, rfl, w1_22⟩, t1_22⟩ := All2.cons_inv t1_21
  obtain ⟨_, m1_23, rfl, ⟨x1_23, rfl, w1_23⟩, t1_23⟩ := All2.cons_inv t1_22
  obtain ⟨_, m1_24, rfl, ⟨x1_24, rfl, w1_24⟩, t1_24⟩ := All2.cons_inv t1_23
  obtain ⟨_, m1_25, rfl, ⟨x1_25, rfl, w1_25⟩, t1_25⟩ := All2.cons_inv t1_24
  obtain ⟨_, m1_26, rfl, ⟨x1_26, rfl, w1_26⟩, t1_26⟩ := All2.cons_inv t1_25
  obtain ⟨_, m1_27, rfl, ⟨x1_27, rfl, w1_27⟩, t1_27⟩ := All2.cons_inv t1_26
  obtain ⟨_, m1_28, rfl, ⟨x1_28, rfl, w1_28⟩, t1_28⟩ := All2.cons_inv t1_27
  obtain ⟨_, m1_29, rfl, ⟨x1_29, rfl⟩, t1_29⟩ := All2.cons_inv t1_28
  obtain rfl := All2.nil_inv t1_29
  refine (rankOrders_walk x0_0 (I64_wf w0_0) x0_1 (I64_wf w0_1) x0_2 (I64_wf w0_2) x0_3 (I64_wf w0_3) x0_4 (I64_wf w0_4) x0_5 (I64_wf w0_5) x0_6 (I64_wf w0_6) x0_7 (I64_wf w0_7) x0_8 (I64_wf w0_8) x0_9 (I64_wf w0_9) x0_10 (I64_wf w0_10) x0_11 (I64_wf w0_11) x0_12 (I64_wf w0_12) x0_13 (I64_wf w0_13) x0_14 (I64_wf w0_14) x0_15 (I64_wf w0_15) x0_16 (I64_wf w0_16) x0_17 (I64_wf w0_17) x0_18 (I64_wf w0_18) x0_19 (I64_wf w0_19) x0_20 (I64_wf w0_20) x0_21 (I64_wf w0_21) x0_22 (I64_wf w0_22) x0_23 (I64_wf w0_23) x1_0 (I64_wf w1_0) x1_1 (I64_wf w1_1) x1_2 (I64_wf w1_2) x1_3 (I64_wf w1_3) x1_4 (I64_wf w1_4) x1_5 (I64_wf w1_5) x1_6 (I64_wf w1_6) x1_7 (I64_wf w1_7) x1_8 (I64_wf w1_8) x1_9 x1_10 (I64_wf w1_10) x1_11 (I64_wf w1_11) x1_12 (I64_wf w1_12) x1_13 (I64_wf w1_13) x1_14 (I64_wf w1_14) x1_15 (I64_wf w1_15) x1_16 (I64_wf w1_16) x1_17 (I64_wf w1_17) x1_18 (I64_wf w1_18) x1_19 x1_20 (I64_wf w1_20) x1_21 (I64_wf w1_21) x1_22 (I64_wf w1_22) x1_23 (I64_wf w1_23) x1_24 (I64_wf w1_24) x1_25 (I64_wf w1_25) x1_26 (I64_wf w1_26) x1_27 (I64_wf w1_27) x1_28 (I64_wf w1_28) x1_29 W ).mono fun e W' ⟨he, hg⟩ => ?_
  exact ⟨_, he, post_true laidOut (tb := 4) (by kernel_rfl) Try.underlying4 (by decide +kernel) rfl rfl rfl rfl hW0 hg⟩

theorem rankOrders_holds : Rows.RankOrdersSaid :=
  OpenClaim.holds_of_wide 5 Try.f5 rfl rfl rfl rfl rfl rfl rfl ⟨rfl, rfl, rfl, rfl, rfl⟩ rfl rfl rfl rfl rfl (by kernel_rfl) Try.func5 (by kernel_rfl)
    (of_decide_eq_true (by kernel_rfl)) (by unfold Func.isWrapper; rw [if_neg (by decide +kernel)]; exact ⟨rfl, rfl⟩)
    (fun os started H enc _ => rankOrders_lifted os started H enc)
#print axioms rankOrders_holds

end Go.Proofs.Ytkoabiahebakjaa

/- Which of two jobs is ahead, any job's key, and any jobs in order: the program's answer is the reference's, at every two jobs and every row of jobs; no condition. -/
import Derived.Test.YtkoabiahebakjaaSJ2
import Derived.Test.YtkoabiahebakjaaRows
import Derived.Test.YtkoabiahebakjaaChecked

namespace Go.Proofs.Ytkoabiahebakjaa
open Go.RowKit
open Go.RowKit Go.ChangeShapes Go.WideShapes Go.ChangeAt
theorem own : ownKnob Try.prog.godebug = none := by kernel_rfl
theorem laidOut : laidOutB Try.prog = true := by kernel_rfl
theorem rankJobs_walk (a0 : Int) (_ : I64 a0) (a1 : Int) (_ : I64 a1) (a2 : Int) (_ : I64 a2) (a3 : Int) (_ : I64 a3) (a4 : Int) (_ : I64 a4) (a5 : Int) (_ : I64 a5) (a6 : Int) (_ : I64 a6) (a7 : Int) (_ : I64 a7) (b0 : Int) (_ : I64 b0) (b1 : Int) (_ : I64 b1) (b2 : Int) (_ : I64 b2) (b3 : Int) (_ : I64 b3) (b4 : Int) (_ : I64 b4) (b5 : Int) (_ : I64 b5) (b6 : Int) (_ : I64 b6) (b7 : Int) (_ : I64 b7) (A : Option Addr) (n c : Nat) (hn : n ≤ c) (W : World) (hs : SliceAt W A c 8 [.i .i64, .i .i64, .i .i64, .i .i64, .i .i64, .i .i64, .i .i64, .i .i64]) :
    Calls Try.prog 3 #[jobV a0 a1 a2 a3 a4 a5 a6 a7, jobV b0 b1 b2 b3 b4 b5 b6 b7, .slice A n c] W fun e W' => e = .returned (.bool true) ∧ Gr W W' := by
  obtain ⟨l, rfl, _, hl⟩ := SlR_of (ks := [.i .i64, .i .i64, .i .i64, .i .i64, .i .i64, .i .i64, .i .i64, .i .i64]) encJ (fun cs => ⟨intOf cs 0, intOf cs 1, intOf cs 2, intOf cs 3, intOf cs 4, intOf cs 5, intOf cs 6, intOf cs 7⟩) (fun _ => True) (by decide) (fun cs h0 => by obtain ⟨_, m1, rfl, ⟨x0, rfl, _⟩, h1⟩ := All2.cons_inv h0; obtain ⟨_, m2, rfl, ⟨x1, rfl, _⟩, h2⟩ := All2.cons_inv h1; obtain ⟨_, m3, rfl, ⟨x2, rfl, _⟩, h3⟩ := All2.cons_inv h2; obtain ⟨_, m4, rfl, ⟨x3, rfl, _⟩, h4⟩ := All2.cons_inv h3; obtain ⟨_, m5, rfl, ⟨x4, rfl, _⟩, h5⟩ := All2.cons_inv h4; obtain ⟨_, m6, rfl, ⟨x5, rfl, _⟩, h6⟩ := All2.cons_inv h5; obtain ⟨_, m7, rfl, ⟨x6, rfl, _⟩, h7⟩ := All2.cons_inv h6; obtain ⟨_, m8, rfl, ⟨x7, rfl, _⟩, h8⟩ := All2.cons_inv h7; obtain rfl := All2.nil_inv h8; exact ⟨rfl, trivial⟩) hn hs
  exact (rankJobs_ct ⟨a0, a1, a2, a3, a4, a5, a6, a7⟩ ⟨b0, b1, b2, b3, b4, b5, b6, b7⟩ l).calls (.cons ⟨rfl, rfl⟩ (.cons ⟨rfl, rfl⟩ (.cons hl .nil)))
set_option maxRecDepth 100000 in
theorem rankJobs_lifted (os : Os) (started : os.Started) (H : Type) (enc : TypeId × Value → H) :
    ReturnsInHanded {} Try.checked os 3 .any (Rows.rankJobsSpec.pre6 enc Try.prog Try.f3 Rows.rankJobsRow.domain false) (Rows.rankJobsSpec.post enc Try.prog Try.f3 false true false false) := by
  refine returnsInHanded_of_change (C := Try.checked) own started (by kernel_rfl) Try.func3
    (ChangeSpec.witness6 (enc := enc) (C := Try.checked) false ⟨#[], #[.agg #[.int .i64 0, .int .i64 0, .int .i64 0, .int .i64 0, .int .i64 0, .int .i64 0, .int .i64 0, .int .i64 0], .agg #[.int .i64 0, .int .i64 0, .int .i64 0, .int .i64 0, .int .i64 0, .int .i64 0, .int .i64 0, .int .i64 0], .slice none 0 0], []⟩ 8 (by kernel_rfl) (by kernel_rfl) (by kernel_rfl) (by kernel_rfl)) ?_
  intro W base args ds gs before hval0 hW _ _
  have hval : ∀ (j : Nat) t v, Try.f3.params[j]? = some t → args[j]? = some v → Value.okWide Try.prog W .any base t v := hval0
  have hW0 := hW
  obtain ⟨p, q, hA0, hV, _, _, _⟩ := hW
  have hA : DataW.TrodAll enc Try.prog W 0 (fun _ => true) true Try.f3.params.toList args.toList ds p := hA0
  rw [Try.params3] at hA hval
  obtain ⟨v0, vs0, d0, ds0, p0, q0, hargs, rfl, _, h0, r0⟩ := trodAll_cons hA
  obtain ⟨v1, vs1, d1, ds1, p1, q1, rfl, rfl, _, h1, r1⟩ := trodAll_cons r0
  obtain ⟨v2, vs2, d2, ds2, p2, q2, rfl, rfl, _, h2, r2⟩ := trodAll_cons r1
  obtain ⟨rfl, rfl, _⟩ := trodAll_nil r2
  obtain rfl : args = #[v0, v1, v2] := by cases args; simp_all
  obtain ⟨rfl, _⟩ := trodVars_none hV
  obtain ⟨cs0, rfl, ha0⟩ := read_agg (m := 8) (ks := [.i .i64, .i .i64, .i .i64, .i .i64, .i .i64, .i .i64, .i .i64, .i .i64]) (by kernel_rfl) (by kernel_rfl) (hval 0 25 v0 rfl rfl) h0
  obtain ⟨_, m0_0, rfl, ⟨x0_0, rfl, w0_0⟩, t0_0⟩ := All2.cons_inv ha0
  obtain ⟨_, m0_1, rfl, ⟨x0_1, rfl, w0_1⟩, t0_1⟩ := All2.cons_inv t0_0
  obtain ⟨_, m0_2, rfl, ⟨x0_2, rfl, w0_2⟩, t0_2⟩ := All2.cons_inv t0_1
  obtain ⟨_, m0_3, rfl, ⟨x0_3, rfl, w0_3⟩, t0_3⟩ := All2.cons_inv t0_2
  obtain ⟨_, m0_4, rfl, ⟨x0_4, rfl, w0_4⟩, t0_4⟩ := All2.cons_inv t0_3
  obtain ⟨_, m0_5, rfl, ⟨x0_5, rfl, w0_5⟩, t0_5⟩ := All2.cons_inv t0_4
  obtain ⟨_, m0_6, rfl, ⟨x0_6, rfl, w0_6⟩, t0_6⟩ := All2.cons_inv t0_5
  obtain ⟨_, m0_7, rfl, ⟨x0_7, rfl, w0_7⟩, t0_7⟩ := All2.cons_inv t0_6
  obtain rfl := All2.nil_inv t0_7
  obtain ⟨cs1, rfl, ha1⟩ := read_agg (m := 8) (ks := [.i .i64, .i .i64, .i .i64, .i .i64, .i .i64, .i .i64, .i .i64, .i .i64]) (by kernel_rfl) (by kernel_rfl) (hval 1 25 v1 rfl rfl) h1
  obtain ⟨_, m1_0, rfl, ⟨x1_0, rfl, w1_0⟩, t1_0⟩ := All2.cons_inv ha1
  obtain ⟨_, m1_1, rfl, ⟨x1_1, rfl, w1_1⟩, t1_1⟩ := All2.cons_inv t1_0
  obtain ⟨_, m1_2, rfl, ⟨x1_2, rfl, w1_2⟩, t1_2⟩ := All2.cons_inv t1_1
  obtain ⟨_, m1_3, rfl, ⟨x1_3, rfl, w1_3⟩, t1_3⟩ := All2.cons_inv t1_2
  obtain ⟨_, m1_4, rfl, ⟨x1_4, rfl, w1_4⟩, t1_4⟩ := All2.cons_inv t1_3
  obtain ⟨_, m1_5, rfl, ⟨x1_5, rfl, w1_5⟩, t1_5⟩ := All2.cons_inv t1_4
  obtain ⟨_, m1_6, rfl, ⟨x1_6, rfl, w1_6⟩, t1_6⟩ := All2.cons_inv t1_5
  obtain ⟨_, m1_7, rfl, ⟨x1_7, rfl, w1_7⟩, t1_7⟩ := All2.cons_inv t1_6
  obtain rfl := All2.nil_inv t1_7
  obtain ⟨A2, n2, c2, rfl, hn2, hc2, hs2⟩ := read_sliceC (m := 8) (ks := [.i .i64, .i .i64, .i .i64, .i .i64, .i .i64, .i .i64, .i .i64, .i .i64]) Try.underlying26 (by kernel_rfl) (by decide) (by kernel_rfl) (hval 2 26 v2 rfl rfl) h2
  refine (rankJobs_walk x0_0 (I64_wf w0_0) x0_1 (I64_wf w0_1) x0_2 (I64_wf w0_2) x0_3 (I64_wf w0_3) x0_4 (I64_wf w0_4) x0_5 (I64_wf w0_5) x0_6 (I64_wf w0_6) x0_7 (I64_wf w0_7) x1_0 (I64_wf w1_0) x1_1 (I64_wf w1_1) x1_2 (I64_wf w1_2) x1_3 (I64_wf w1_3) x1_4 (I64_wf w1_4) x1_5 (I64_wf w1_5) x1_6 (I64_wf w1_6) x1_7 (I64_wf w1_7) A2 n2 c2 hn2 W hs2).mono fun e W' ⟨he, hg⟩ => ?_
  exact ⟨_, he, post_true laidOut (tb := 4) (by kernel_rfl) Try.underlying4 (by decide +kernel) rfl rfl rfl rfl hW0 hg⟩

theorem rankJobs_holds : Rows.RankJobsSaid :=
  OpenClaim.holds_of_wide 3 Try.f3 rfl rfl rfl rfl rfl rfl rfl ⟨rfl, rfl, rfl, rfl, rfl⟩ rfl rfl rfl rfl rfl (by kernel_rfl) Try.func3 (by kernel_rfl)
    (of_decide_eq_true (by kernel_rfl)) (by unfold Func.isWrapper; rw [if_neg (by decide +kernel)]; exact ⟨rfl, rfl⟩)
    (fun os started H enc _ => rankJobs_lifted os started H enc)
#print axioms rankJobs_holds

end Go.Proofs.Ytkoabiahebakjaa

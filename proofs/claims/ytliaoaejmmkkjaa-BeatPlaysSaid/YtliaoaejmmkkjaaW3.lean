/- Contracts of functions of the program and of the reference: what each call comes to. -/
import Derived.Test.YtliaoaejmmkkjaaGh
import Derived.Test.YtliaoaejmmkkjaaM1
namespace Go.Proofs.Ytliaoaejmmkkjaa
open Go.RowKit
open Go.ChangeMaps (setBlock)

theorem entsU_pre (M : Nat → MapW) {i k : Nat} (h : i ≤ k) : ∃ tl, entsU M k = entsU M i ++ tl := by
  induction k with
  | zero => have : i = 0 := by omega
            subst this; exact ⟨[], by simp⟩
  | succ k ih =>
    by_cases e : i = k + 1
    · subst e; exact ⟨[], by simp⟩
    · obtain ⟨tl, h1⟩ := ih (by omega)
      exact ⟨tl ++ (M k).map prM, by simp [entsU, h1]⟩
section
variable {n l B : Nat} {J : (Nat → Prop) → List (Int × Int) → World → Prop} {W0 : World} {U0 : Nat → Prop} {sl : List Value} {M : Nat → MapW}
/-- between two steps of the iterator -/
structure Itr (J : (Nat → Prop) → List (Int × Int) → World → Prop) (W0 : World) (U0 U : Nat → Prop) (pre : List (Int × Int)) (w : World) : Prop where
  j : J U pre w
  u : ∀ b, U0 b → U b
  keep : ∀ b, U0 b → w.heap[b]? = W0.heap[b]?
  grow : W0.heap.size ≤ w.heap.size
theorem Itr.stp {P : Program} {E : List (Int × Int)} (hJ : JOk P n l W0.heap.size E J) (h0 : ∀ b, U0 b → b < W0.heap.size) {U U' : Nat → Prop} {pre : List (Int × Int)} {w w' : World} (H : Itr J W0 U0 U pre w) (s : Stp W0.heap.size U U' w w') : Itr J W0 U0 U' pre w' where
  j := hJ.stp _ _ _ _ _ H.j s
  u := fun b h => s.sub b (H.u b h)
  keep := fun b h => by
    have hb := h0 b h
    rw [s.chg b (Nat.lt_of_lt_of_le hb H.grow) (Or.inr hb)]; exact H.keep b h
  grow := Nat.le_trans H.grow s.grow
abbrev tO (sl : List Value) (i : Nat) : List (Nat × Value) := [(11, .int .i64 i), (10, .agg ⟨sl⟩), (0, hole)]
abbrev uO (l : Nat) : List (Nat × Value) := [(0, .func (.yield l) #[] #[])]
theorem all1_s (hJ : JOk Try.prog n l W0.heap.size (entsU M 16) J) (h0 : ∀ b, U0 b → b < W0.heap.size) {bx bs : Nat} {t1 t2 : TypeId} {z1 z2 : Nat × Nat} {tl : List Value} (hbx : U0 bx ∧ W0.heap[bx]? = some (.cells #[.pointer (some ⟨bs, 0, none⟩)] t1 z1))
    (hbs : U0 bs ∧ W0.heap[bs]? = some (.cells ⟨sl ++ tl⟩ t2 z2)) (hlen : sl.length = 16) (hs : ∀ i v, sl[i]? = some v → SlotOk W0 U0 v (M i)) (hj : J U0 [] W0) :
    CallsIn Fence.wide n Try.prog 45 #[.func (.yield l) #[] #[], .pointer (some ⟨bx, 0, none⟩)] W0 fun e W' => (∃ v, e = .returned v) ∧ ∃ xs U, xs.Perm (entsU M 16) ∧ J U xs W' := by
  have hvr : AR fI ⟨sl⟩ ⟨sl⟩ := ⟨rfl, fun i v v' h1 h2 => by
    rw [h1] at h2; cases h2
    exact (hs i v (by simpa using h1)).VR⟩
  have hvr2 : AR fI ⟨sl ++ tl.map fun _ => hole⟩ ⟨sl ++ tl⟩ := by
    have htl : AR fI ⟨tl.map fun _ => hole⟩ ⟨tl⟩ := ⟨by simp, fun i v v' h1 h2 => by
      simp only [List.getElem?_toArray, List.getElem?_map] at h1 h2
      rw [h2] at h1
      cases h1
      exact .any _⟩
    have := hvr.append htl
    simpa using this
  refine callsIn_of_wp Try.func45 rfl trivial ?_
  have H : TS 28 [(1, .pointer (some ⟨bx, 0, none⟩)), (0, hole)] (uO l) { tmps := #[.func (.yield l) #[] #[], .pointer (some ⟨bx, 0, none⟩)] ++ Array.replicate (28 - 2) undef, defers := [] } := by
    exact TS.two 26 _ _ (.ptr rfl)
  refine ts_seq (ts_region ?_)
  refine ts_rd tt_ok H (b := bx) rfl hbx.2 (.cells _ _ (AR.one (.ptr (n := bs) rfl))) rfl rfl rfl (fun k h => by cases h; rfl) fun a1 H => ?_
  refine ts_val tt_ok H rfl rfl rfl (fun k h => by cases h; rfl) fun a1 H => ?_
  refine ts_val tt_ok H rfl rfl rfl (fun k h => by cases h; rfl) fun a1 H => ?_
  refine ts_rd tt_ok H (b := bs) rfl hbs.2 (.cells _ _ hvr2) (v := .agg ⟨sl⟩) ?_ rfl rfl (fun k h => by cases h; rfl) fun a1 H => ?_
  · show (match sliceL 0 16 (sl ++ tl.map fun _ => hole) with | some r => some (Value.agg ⟨r⟩) | none => none) = _
    rw [sliceL_of 0 16 _ (by simp [hlen])]
    simp [List.take_append, hlen]
  refine ts_val tt_ok H rfl rfl rfl (fun k h => by cases h; rfl) fun a1 H => ?_
  refine ts_nil ?_
  refine wpIn_block (ts_loop (ι := Nat × List (Int × Int) × (Nat → Prop)) (fun i a w => i.1 ≤ 16 ∧ TS 28 (tO sl i.1) (uO l) a ∧ Itr J W0 U0 i.2.2 i.2.1 w ∧ i.2.1.Perm (entsU M i.1)) (fun i => 16 - i.1) (0, [], U0) ?_ ?_)
  · refine ⟨by omega, H.weak ?_ (fun k v h => h), ⟨hj, fun b h => h, fun b h => rfl, Nat.le_refl _⟩, .refl _⟩
    intro k v h
    simp only [look_cons] at h ⊢
    repeat' split at h
    all_goals (first | (rename_i e; subst e; cases h; rfl) | cases h)
  rintro ⟨i, pre, U⟩ a w ⟨hi, H, hw, hp⟩
  refine ts_seq (ts_region ?_)
  refine ts_val tt_ok H (v := .bool (decide ((i : Int) < 16))) rfl rfl rfl (fun k h => by cases h; rfl) fun a H => ?_
  refine ts_nil ?_
  refine ts_seq (ts_cond H (b := decide ((i : Int) < 16)) rfl ?_)
  by_cases hlt : i < 16
  rotate_left
  · rw [if_neg (by simp; omega)]
    refine wpIn_exit ?_
    have e : i = 16 := by omega
    subst e
    exact ⟨H.defers, .tuple #[], (by rw [results_eq, show (Try.f45).results = #[] from rfl]; simp), ⟨_, rfl⟩, pre, U, hp, hw.j⟩
  rw [if_pos (by simp; omega)]
  refine wpIn_skip ?_
  refine ts_seq (wpIn_mono (Q := fun e a w => e = .normal ∧ ∃ U pre, TS 28 (tO sl i) (uO l) a ∧ Itr J W0 U0 U pre w ∧ pre.Perm (entsU M (i + 1))) (wpIn_block ?_) ?_)
  rotate_left
  · rintro e a w ⟨rfl, U, pre, H, hw, hp⟩
    refine ts_region ?_
    refine ts_val tt_ok H (v := .int .i64 (i + 1 : Nat)) ?_ rfl rfl (fun k h => by cases h; rfl) fun a H => ?_
    · show some (Acc.val (.int .i64 (IntKind.i64.wrap ((i : Int) + 1)))) = _
      have : IntKind.i64.wrap ((i : Int) + 1) = (i + 1 : Nat) := by
        simp [IntKind.wrap, IntKind.bits, IntKind.signed]; omega
      rw [this]
    refine ts_val tt_ok H rfl rfl rfl (fun k h => by cases h; rfl) fun a H => ?_
    refine ts_nil ⟨(i + 1, pre, U), by omega, by omega, ?_, hw, hp⟩
    refine H.weak ?_ (fun k v h => h)
    intro k v h
    simp only [look_cons] at h ⊢
    repeat' split at h
    all_goals (first | (rename_i e; subst e; cases h; rfl) | cases h)
  obtain ⟨v, hv⟩ : ∃ v, sl[i]? = some v := ⟨sl[i], by simp [hlen, hlt]⟩
  have hvs := hs i v hv
  refine ts_seq (ts_region ?_)
  refine ts_need tt_ok H (v := v) (p := 0 ≤ (i : Int) ∧ (i : Int) < 16) ?_ ⟨by omega, by omega⟩ rfl rfl (fun k h => by cases h; rfl) fun a H => ?_
  · show (match getL sl ((i : Int).toNat * 1) with | some v => some (Acc.need (0 ≤ (i : Int) ∧ (i : Int) < 16) (.val v)) | none => none) = _
    rw [getL_eq]
    simp [hv]
  refine ts_val tt_ok H rfl rfl rfl (fun k h => by cases h; rfl) fun a H => ?_
  refine ts_nil ?_
  refine ts_seq (ts_region ?_)
  refine ts_val tt_ok H rfl rfl rfl (fun k h => by cases h; rfl) fun a H => ?_
  have he : a.eval (.tmp 14) = v := hvs.eq (H.ev.eval (x := .tmp 14) rfl)
  have hst := Stp.alloc W0.heap.size U w
  have hnew := fun o => heap_alloc_new w o
  rcases hvs with ⟨rfl, hM⟩ | ⟨b, ck, rfl, hU, hb, hck, hnd⟩
  · refine ts_run rfl (exec_v (by rw [he]; exact run_range_nilMap w 26 3 3 (by kernel_rfl))) (Or.inl rfl) ?_
    have H := H.put (d := some 15) rfl (VR.ptr (f := fI) (n := w.heap.size) (b := w.heap.size) (off := 0) rfl) (fun k h => by cases h; rfl)
    have hw := hw.stp hJ h0 (hst (.mapIter none 0 #[] 0))
    refine ts_nil ?_
    refine wpIn_block (ts_loop (ι := Unit) (fun _ a' w' => TS 28 ((15, .pointer (some ⟨w.heap.size, 0, none⟩)) :: tO sl i) (uO l) a' ∧ w' = w.alloc (.mapIter none 0 #[] 0)) (fun _ => 0) () ?_ ?_)
    · refine ⟨H.weak ?_ (fun k v h => h), rfl⟩
      intro k v h
      simp only [look_cons, St.put] at h ⊢
      repeat' split at h
      all_goals (first | (rename_i e; subst e; cases h; rfl) | cases h)
    rintro _ a w' ⟨H, rfl⟩
    refine ts_seq (ts_region ?_)
    have he : a.eval (.tmp 15) = .pointer (some ⟨w.heap.size, 0, none⟩) := by
      have := H.ev.eval (x := .tmp 15) rfl
      generalize a.eval (.tmp 15) = z at this
      cases this with | ptr e => cases e; rfl
    refine ts_run rfl (exec_v (by rw [he]; exact next_nil _ _ (hnew _))) (Or.inl rfl) ?_
    have H := H.put (d := some 16) rfl (clean_VR fI (v := .tuple #[.bool false]) rfl) (fun k h => by cases h; rfl)
    refine ts_val tt_ok H (v := .bool false) rfl rfl rfl (fun k h => by cases h; rfl) fun a H => ?_
    refine ts_nil ?_
    refine ts_seq (ts_cond H (b := false) rfl ?_)
    refine wpIn_exit ?_
    refine ⟨rfl, _, pre, H.weak ?_ (fun k v h => h), hw, ?_⟩
    · intro k v h
      simp only [look_cons, St.put] at h ⊢
      repeat' split at h
      all_goals (first | (rename_i e; subst e; cases h; rfl) | cases h)
    · simp only [entsU, hM, List.map_nil, List.append_nil]; exact hp
  · refine ts_run rfl (exec_v (by rw [he]; exact run_range_map w 26 3 3 b _ ck (by kernel_rfl) ((hw.keep b hU).trans hb))) (Or.inl rfl) ?_
    have H := H.put (d := some 15) rfl (VR.ptr (f := fI) (n := w.heap.size) (b := w.heap.size) (off := 0) rfl) (fun k h => by cases h; rfl)
    obtain ⟨r, hr⟩ : ∃ r, r = w.heap.size := ⟨_, rfl⟩
    have hr0 : W0.heap.size ≤ r := hr ▸ hw.grow
    have hw := hw.stp hJ h0 (hst (.mapIter (some b) ck #[] ck))
    have hnew := hnew (.mapIter (some b) ck #[] ck)
    rw [← hr] at hnew H ⊢
    refine ts_nil ?_
    refine wpIn_block (ts_loop (ι := Array Nat × List (Int × Int) × (Nat → Prop)) (fun x a' w' => TS 28 ((15, .pointer (some ⟨r, 0, none⟩)) :: tO sl i) (uO l) a' ∧ Itr J W0 U0 x.2.2 x.2.1 w' ∧ x.2.2 r ∧ w'.heap[r]? = some (.mapIter (some b) ck x.1 ck) ∧
      (x.2.1 ++ (lfM (M i) x.1).map prM).Perm (entsU M (i + 1))) (fun x => (lfM (M i) x.1).length) (#[], pre, fun b => U b ∨ b = w.heap.size) ?_ ?_)
    · refine ⟨H.weak ?_ (fun k v h => h), hw, Or.inr hr, hnew, ?_⟩
      · intro k v h
        simp only [look_cons, St.put] at h ⊢
        repeat' split at h
        all_goals (first | (rename_i e; subst e; cases h; rfl) | cases h)
      · simp only [lfM_nil, entsU]
        exact hp.append_right _
    rintro ⟨seen, pre, U⟩ a w ⟨H, hw, hUr, hwr, hp⟩
    simp only at H hw hUr hwr hp ⊢
    refine ts_seq (ts_region ?_)
    have he : a.eval (.tmp 15) = .pointer (some ⟨r, 0, none⟩) := by
      have := H.ev.eval (x := .tmp 15) rfl
      generalize a.eval (.tmp 15) = z at this
      cases this with | ptr e => cases e; rfl
    have hbw : w.heap[b]? = some (.map ⟨encM evZ (M i)⟩ ck) := (hw.keep b hU).trans hb
    rcases next_at (P := Try.prog) w 0 hwr hbw hck with ⟨hl, hrun⟩ | ⟨x, hx, W1, hW1, hrun⟩
    · refine ts_run rfl (exec_v (by rw [he]; exact hrun)) (Or.inl rfl) ?_
      have H := H.put (d := some 16) rfl (clean_VR fI (v := .tuple #[.bool false]) rfl) (fun k h => by cases h; rfl)
      refine ts_val tt_ok H (v := .bool false) rfl rfl rfl (fun k h => by cases h; rfl) fun a H => ?_
      refine ts_nil ?_
      refine ts_seq (ts_cond H (b := false) rfl ?_)
      refine wpIn_exit ?_
      refine ⟨rfl, U, pre, H.weak ?_ (fun k v h => h), hw, ?_⟩
      · intro k v h
        simp only [look_cons, St.put] at h ⊢
        repeat' split at h
        all_goals (first | (rename_i e; subst e; cases h; rfl) | cases h)
      · rw [hl] at hp; simpa using hp
    · refine ts_run rfl (exec_v (by rw [he]; exact hrun)) (Or.inl rfl) ?_
      have H := H.put (d := some 16) rfl (clean_VR fI (v := .tuple #[.bool true, .int .i64 x.1, .int .i64 x.2.1]) rfl) (fun k h => by cases h; rfl)
      have hw := hw.stp hJ h0 (Stp.turn hW1 (.mapIter (some b) ck (seen.push x.2.2) ck) hUr hr0)
      obtain ⟨w2, hw2⟩ : ∃ w2, w2 = setBlock W1 r (.mapIter (some b) ck (seen.push x.2.2) ck) := ⟨_, rfl⟩
      rw [← hw2] at hw ⊢
      have hwr : w2.heap[r]? = some (.mapIter (some b) ck (seen.push x.2.2) ck) := by
        have e1 : W1.heap = w.heap := by rcases hW1 with rfl | rfl <;> rfl
        have hlt : r < w.heap.size := (Array.getElem?_eq_some_iff.1 hwr).1
        rw [hw2]
        simp [setBlock, e1, hlt]
      have hbw : w2.heap[b]? = some (.map ⟨encM evZ (M i)⟩ ck) := (hw.keep b hU).trans hb
      have hxm : x ∈ M i := (List.mem_filter.1 hx).1
      refine ts_val tt_ok H (v := .bool true) rfl rfl rfl (fun k h => by cases h; rfl) fun a H => ?_
      refine ts_nil ?_
      refine ts_seq (ts_cond H (b := true) rfl ?_)
      refine wpIn_skip ?_
      refine wpIn_block (ts_seq (ts_region ?_))
      have he : a.eval (.tmp 15) = .pointer (some ⟨r, 0, none⟩) := by
        have := H.ev.eval (x := .tmp 15) rfl
        generalize a.eval (.tmp 15) = z at this
        cases this with | ptr e => cases e; rfl
      refine ts_run rfl (exec_v (by rw [he]; exact entry_at w2 hwr hbw hxm hnd)) (Or.inl rfl) ?_
      have H := H.put (d := some 18) rfl (clean_VR fI (v := .tuple #[.int .i64 x.1, .int .i64 x.2.1]) rfl) (fun k h => by cases h; rfl)
      refine ts_val tt_ok H rfl rfl rfl (fun k h => by cases h; rfl) fun a H => ?_
      refine ts_val tt_ok H rfl rfl rfl (fun k h => by cases h; rfl) fun a H => ?_
      refine ts_val tt_ok H rfl rfl rfl (fun k h => by cases h; rfl) fun a H => ?_
      refine ts_val tt_ok H rfl rfl rfl (fun k h => by cases h; rfl) fun a H => ?_
      refine ts_nil ?_
      refine ts_seq (ts_region ?_)
      refine ts_raw H (s := 0) rfl rfl rfl rfl rfl fun a H => ?_
      refine ts_val tt_ok H rfl rfl rfl (fun k h => by cases h; rfl) fun a H => ?_
      refine ts_val tt_ok H rfl rfl rfl (fun k h => by cases h; rfl) fun a H => ?_
      refine ts_val tt_ok H (v := tmV (prM x)) rfl rfl rfl (fun k h => by cases h; rfl) fun a H => ?_
      have hpm := lfM_push hx hnd
      obtain ⟨tl, htl⟩ := entsU_pre M (i := i + 1) (k := 16) hlt
      obtain ⟨fn, tmps, asg, bo, hy, hR⟩ := hJ.rnd U pre (prM x) w2 ⟨(lfM (M i) (seen.push x.2.2)).map prM ++ tl, by
        rw [htl]
        have h1 := ((hpm.map prM).append_left pre).symm.trans hp
        have h2 := h1.append_right tl
        simpa using h2⟩ hw.j
      refine ts_yield H rfl rfl (v := tmV (prM x)) rfl rfl rfl rfl rfl rfl hy hR ?_
      rintro e w3 ⟨rfl, hj3, hk3, hg3⟩
      refine ⟨rfl, fun a H => ?_⟩
      refine ts_val tt_ok H (v := .bool false) rfl rfl rfl (fun k h => by cases h; rfl) fun a H => ?_
      refine ts_nil ?_
      refine ts_cond H (b := false) rfl ?_
      refine wpIn_skip ?_
      refine ⟨(seen.push x.2.2, pre ++ [prM x], U), ?_, ?_, ⟨hj3, hw.u, fun b h => (hk3 b (hw.u b h)).trans (hw.keep b h), Nat.le_trans hw.grow hg3⟩, hUr, (hk3 r hUr).trans hwr, ?_⟩
      · have := hpm.length_eq
        simp only [List.length_cons] at this
        simp only
        omega
      · refine H.weak ?_ ?_
        · intro k v h
          simp only [look_cons, St.put] at h ⊢
          repeat' split at h
          all_goals (first | (rename_i e; subst e; cases h; rfl) | cases h)
        · intro k v h
          simp only [look_cons] at h ⊢
          repeat' split at h
          all_goals (first | (rename_i e; subst e; cases h; rfl) | cases h)
      · refine List.Perm.trans ?_ hp
        have := (hpm.map prM).append_left pre
        refine List.Perm.trans ?_ this.symm
        simp
end
end Go.Proofs.Ytliaoaejmmkkjaa

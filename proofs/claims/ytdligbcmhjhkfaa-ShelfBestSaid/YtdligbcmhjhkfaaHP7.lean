/- A row of things is put in order by Go's own sort. -/
import Derived.Test.YtdligbcmhjhkfaaHP6
import Derived.Shelf.SlSortCmp.WholeK
import Derived.Shelf.SlGeneric
import Derived.Ground.SlsfProg

namespace Go.Proofs.Ytdligbcmhjhkfaa
open Go.RowKit
open Go.Shelf
def sortTh_ren : Go.Shelf.Ren := ⟨fun | 6 => 54 | 15 => 73 | 14 => 72 | 28 => 88 | 29 => 89 | 20 => 80 | 21 => 81 | 22 => 82 | 23 => 83 | 24 => 84 | 25 => 85 | 26 => 86 | 27 => 87 | 46 => 94 | 47 => 95 | 48 => 96 | 49 => 97 | 50 => 98 | 57 => 102 | n => n, fun | 22 => 41 | 24 => 103 | 25 => 108 | 3 => 3 | 39 => 123 | 0 => 0 | 53 => 137 | 55 => 139 | 4 => 4 | 46 => 131 | 45 => 130 | 50 => 93 | 5 => 5 | 9 => 9 | 66 => 143 | 70 => 147 | 76 => 150 | 77 => 151 | n => n, fun | n => n⟩
theorem sortTh : Go.Proofs.SlLaysF0.n6 Try.prog sortTh_ren := {
  mixed := by kernel_rfl
  f6 := ⟨Try.f54.name, by decide, Try.func54.trans (congrArg some (by kernel_rfl))⟩
  f14 := ⟨Try.f72.name, by decide, Try.func72.trans (congrArg some (by kernel_rfl))⟩
  f15 := Try.func73.trans (congrArg some (by kernel_rfl))
  f20 := ⟨Try.f80.name, by decide, Try.func80.trans (congrArg some (by kernel_rfl))⟩
  f21 := ⟨Try.f81.name, by decide, Try.func81.trans (congrArg some (by kernel_rfl))⟩
  f22 := ⟨Try.f82.name, by decide, Try.func82.trans (congrArg some (by kernel_rfl))⟩
  f23 := ⟨Try.f83.name, by decide, Try.func83.trans (congrArg some (by kernel_rfl))⟩
  f24 := ⟨Try.f84.name, by decide, Try.func84.trans (congrArg some (by kernel_rfl))⟩
  f25 := ⟨Try.f85.name, by decide, Try.func85.trans (congrArg some (by kernel_rfl))⟩
  f26 := ⟨Try.f86.name, by decide, Try.func86.trans (congrArg some (by kernel_rfl))⟩
  f27 := ⟨Try.f87.name, by decide, Try.func87.trans (congrArg some (by kernel_rfl))⟩
  f28 := Try.func88.trans (congrArg some (by kernel_rfl))
  f29 := Try.func89.trans (congrArg some (by kernel_rfl))
  f46 := ⟨Try.f94.name, by decide, Try.func94.trans (congrArg some (by kernel_rfl))⟩
  f47 := Try.func95.trans (congrArg some (by kernel_rfl))
  f48 := Try.func96.trans (congrArg some (by kernel_rfl))
  f49 := ⟨Try.f97.name, by decide, Try.func97.trans (congrArg some (by kernel_rfl))⟩
  f50 := ⟨Try.f98.name, by decide, Try.func98.trans (congrArg some (by kernel_rfl))⟩
  f57 := ⟨Try.f102.name, by decide, Try.func102.trans (congrArg some (by kernel_rfl))⟩
  t0 := Try.underlying0
  a0 := Try.isAgg0
  z0 := Try.sizeOf0
  v0 := Try.zeroValue0
  t3 := Try.underlying3
  a3 := Try.isAgg3
  z3 := Try.sizeOf3
  v3 := Try.zeroValue3
  t4 := Try.underlying4
  a4 := Try.isAgg4
  z4 := Try.sizeOf4
  v4 := Try.zeroValue4
  t5 := Try.underlying5
  a5 := Try.isAgg5
  z5 := Try.sizeOf5
  v5 := Try.zeroValue5
  t9 := Try.underlying9
  a9 := Try.isAgg9
  z9 := Try.sizeOf9
  v9 := Try.zeroValue9
  t22 := Try.underlying41
  a22 := Try.isAgg41
  z22 := Try.sizeOf41
  v22 := Try.zeroValue41
  t25 := Try.underlying108
  a25 := Try.isAgg108
  z25 := Try.sizeOf108
  v25 := Try.zeroValue108
  t39 := Try.underlying123
  a39 := Try.isAgg123
  z39 := Try.sizeOf123
  v39 := Try.zeroValue123
  t45 := Try.underlying130
  a45 := Try.isAgg130
  z45 := Try.sizeOf130
  v45 := Try.zeroValue130
  t46 := Try.underlying131
  a46 := Try.isAgg131
  z46 := Try.sizeOf131
  v46 := Try.zeroValue131
  t50 := Try.underlying93
  a50 := Try.isAgg93
  z50 := Try.sizeOf93
  v50 := Try.zeroValue93
  t53 := Try.underlying137
  a53 := Try.isAgg137
  z53 := Try.sizeOf137
  v53 := Try.zeroValue137
  t55 := Try.underlying139
  a55 := Try.isAgg139
  z55 := Try.sizeOf139
  v55 := Try.zeroValue139
  t66 := Try.underlying143
  a66 := Try.isAgg143
  z66 := Try.sizeOf143
  v66 := Try.zeroValue143
  t70 := Try.underlying147
  a70 := Try.isAgg147
  z70 := Try.sizeOf147
  v70 := Try.zeroValue147
  t76 := Try.underlying150
  a76 := Try.isAgg150
  z76 := Try.sizeOf150
  v76 := Try.zeroValue150
  t77 := Try.underlying151
  a77 := Try.isAgg151
  z77 := Try.sizeOf151
  v77 := Try.zeroValue151 }
theorem grown_eq {w w' : World} (h1 : w'.os = w.os) (h2 : w'.tape = w.tape) (h3 : w'.output = w.output) (h4 : w.drawn ≤ w'.drawn) (h5 : w.heap.size ≤ w'.heap.size) (h6 : ∀ b, b < w.heap.size → w'.heap[b]? = w.heap[b]?) : ∃ q os', w' = Go.Sort.grow (w.drewN q) os' := by
  refine ⟨w'.drawn - w.drawn, w'.heap.extract w.heap.size w'.heap.size, ?_⟩
  obtain ⟨hp, tp, dr, os, out⟩ := w'
  simp only at h1 h2 h3 h4 h5 h6
  simp only [Go.Sort.grow, World.drewN, World.mk.injEq]
  refine ⟨?_, h2, by omega, h1, h3⟩
  apply Array.ext_getElem?
  intro i
  rw [Array.getElem?_append]
  split
  · rename_i hi; exact h6 i hi
  · rename_i hi
    rw [Array.getElem?_extract]
    by_cases h : i < hp.size
    · rw [if_pos (by omega)]
      congr 1; omega
    · rw [if_neg (by omega), Array.getElem?_eq_none (by omega)]
theorem Pure.grown {P : Program} {k : Nat} {args : List Value} {V : Value} (s : Pure P 0 k args (· = V)) (hc : cleanA2 args = true) (w : World) :
    Calls P k ⟨args⟩ w fun e w' => e = .returned V ∧ ∃ q os', w' = Go.Sort.grow (w.drewN q) os' := by
  have hB : Before 0 ⟨fun _ => none, fun _ => none⟩ [] sup w := ⟨fun n b h => (by cases h), fun g hg => (by omega), fun x hx m hm => rfl, sup_asc, fun n o h => (by cases h), fun b n h => (by cases h), fun b n h => (by cases h)⟩
  have hA : AR ⟨fun _ => none, fun _ => none⟩ ⟨args⟩ ⟨args⟩ := by
    refine ⟨rfl, fun i v v' a b => ?_⟩
    rw [a] at b; cases b
    exact clean_VR _ (cleanA2_mem hc v (by have := Array.mem_of_getElem? a; simpa using this))
  refine (s _ w _ hB hA).mono ?_
  rintro e w' ⟨v, v', h', ns', g, rfl, ⟨rfl, hcv⟩, hAf⟩
  exact ⟨by rw [clean_eq hcv hAf.val], grown_eq hAf.os hAf.tape hAf.out hAf.dr hAf.grow fun b hb => hAf.far b hb rfl⟩
theorem all1_s (i a b c j x y z : Int) : Pure Try.prog 0 55 [t4 i a b c, t4 j x y z] (fun v => v = i64 (if ltT ⟨i, a, b, c⟩ ⟨j, x, y, z⟩ then -1 else 1)) := by
  refine Pure.body tt_ok mixed Try.func55 rfl (Nat.le_of_ble_eq_true rfl) ?_
  (conv => whnf)
  repeat' (first | (refine CallG.val (lessT_s _ _ _ _ _ _ _ _) pl56 rfl (Nat.zero_le _) ?_; (conv => whnf)) | (refine @And.intro (chkAll _ = true) _ ?_ ?_; (· kernel_rfl); (conv => whnf)) | (refine JoinG.direct ?_; (conv => whnf)) | (refine AppG.mk ?_; (conv => whnf)) | (refine both_intro ?_ ?_ <;> (conv => whnf)) | (exact VR.int _ _) | (exact VR.bool _) | (refine VR.ptr ?_; kernel_rfl) | (refine VR.slice ?_; kernel_rfl) | (exact VR.sliceN _ _) | (refine VR.map ?_; kernel_rfl) | (exact VR.clean _ rfl) | (refine VR.aggOf ?_) | (refine OR.cellsOf ?_) | (exact AR.same _ rfl) | (exact trivial) | (refine amb_no ?_ ?_; (· exact Nat.succ_ne_zero _); (conv => whnf)) | (refine And.intro ?_ ?_; (· (first | decide | omega | (simp only [IntKind.wrap_i64]; omega) | (simp only [List.length_append]; omega) | (simp only [IntKind.wrap_i64, List.length_append]; omega) | (simp only [IntKind.wrap_i64, List.length_append, Int.natCast_add]; omega) | exact keepP_same _ _ _ | (repeat (first | exact trivial | refine And.intro rfl ?_)))); (conv => whnf)) | (refine fun (nc : Nat) (hnc : _ ≤ nc) => ?_; (conv => whnf)) | (refine bif2_true ?_ ?_; (· assumption); (conv => whnf)) | (refine bif2_false ?_ ?_; (· assumption); (conv => whnf)) | (refine bif2_split (fun h => ?_) (fun h => ?_) <;> (conv => whnf)))
  all_goals (refine ⟨?_, rfl⟩; simp_all)
def cfT (x y : Th) : Int := if ltT x y then -1 else 1
theorem lt_cfT : Go.Proofs.ltOf cfT = ltT := by
  funext x y
  unfold Go.Proofs.ltOf cfT
  cases ltT x y <;> rfl
theorem swoT : Go.Sort.SWO (Go.Proofs.ltOf cfT) := by
  rw [lt_cfT]
  refine ⟨fun x => ?_, fun x y z h k => ?_, fun x y z h k => ?_⟩
  · exact le_refl' x
  · rw [ltT_iff] at *; omega
  · exact leT_trans (a := z) (b := y) (c := x) k h
theorem cmpT (blk off size : Nat) (w : World) : Go.Proofs.CmpLays Try.prog 55 #[] encT 4 cfT blk off size w :=
  fun _ _ _ _ x y => (all1_s x.id x.k0 x.k1 x.k2 y.id y.k0 y.k1 y.k2).grown rfl _
theorem get!_list {d : List Th} (i : Nat) : d.toArray[i]! = nth d i := by
  unfold nth
  rw [List.getD_eq_getElem?_getD, Array.getElem!_eq_getD, Array.getD]
  split
  · rename_i h
    have h' : i < d.length := by simpa using h
    simp [h']
  · rename_i h
    have h' : ¬ i < d.length := by simpa using h
    simp [h']
theorem flat_get {d : List Th} {t : Nat} (h : t < d.length * 4) : (flatR encT d)[t]? = some (Go.Sort.flatK encT 4 d.toArray)[t]! := by
  rw [Go.Sort.get_flatK encT 4 d.toArray t (by simpa using h), get!_list]
  have h1 := flatR_get encT_len d (t / 4) (t % 4) (by omega) (by omega)
  rw [show t / 4 * 4 + t % 4 = t by omega] at h1
  rw [h1, List.getElem?_eq_getElem (by rw [encT_len]; omega), getElem!_pos]
theorem put_cells {d d' jk : List Th} (hl : d'.length = d.length) : Go.Sort.putCells id 0 (Go.Sort.flatK encT 4 d'.toArray) ⟨flatR encT (d ++ jk)⟩ = ⟨flatR encT (d' ++ jk)⟩ := by
  apply Array.ext_getElem?
  intro i
  unfold Go.Sort.putCells
  simp only [Array.getElem?_mapIdx, Go.Sort.size_flatK, Nat.zero_le, true_and, Nat.zero_add, Nat.sub_zero, id, List.getElem?_toArray]
  rw [flatR_append, flatR_append]
  have l1 : (flatR encT d).length = d.length * 4 := flatR_len encT_len d
  have l2 : (flatR encT d').length = d'.length * 4 := flatR_len encT_len d'
  by_cases hi : i < d'.length * 4
  · rw [List.getElem?_append_left (by omega), List.getElem?_append_left (by omega), flat_get hi, List.getElem?_eq_getElem (by omega)]
    simp only [Option.map_some, List.size_toArray, hi, if_true]
  · rw [List.getElem?_append_right (by omega), List.getElem?_append_right (by omega), l1, l2, hl]
    simp only [List.size_toArray, hi, if_false]
    cases (flatR encT jk)[i - d.length * 4]? <;> rfl
theorem holds_row {w : World} {b : Nat} {d jk : List Th} {t : TypeId} (h : w.heap[b]? = some (.cells ⟨flatR encT (d ++ jk)⟩ t (0, 0))) : Go.Sort.HoldsK encT 4 w b 0 d.toArray := by
  intro j hj
  have hj' : j < d.length * 4 := by simpa using hj
  have l1 : (flatR encT d).length = d.length * 4 := flatR_len encT_len d
  refine ⟨?_, ?_⟩
  · rw [Nat.zero_add, cell_row h, flatR_append]
    simp only [List.getElem?_toArray, id]
    rw [List.getElem?_append_left (by omega), flat_get hj']
  · simp [World.frozen?, h]
/-- what the sort leaves behind -/
theorem sorted_block {w : World} {b : Nat} {d d' jk : List Th} {t : TypeId} {n : Nat} {os : Array Obj} (h : w.heap[b]? = some (.cells ⟨flatR encT (d ++ jk)⟩ t (0, 0))) (hl : d'.length = d.length) :
    (Go.Proofs.sortWorldK encT 4 w b 0 n d'.toArray os).heap[b]? = some (.cells ⟨flatR encT (d' ++ jk)⟩ t (0, 0)) := by
  have hb : b < w.heap.size := (Array.getElem?_eq_some_iff.1 h).1
  show ((w.heap.modify b (Go.Sort.onCells (Go.Sort.putCells id 0 (Go.Sort.flatK encT 4 d'.toArray)))) ++ os)[b]? = _
  rw [Array.getElem?_append_left (by simpa using hb), Array.getElem?_modify, if_pos rfl, h]
  simp only [Option.map_some, Go.Sort.onCells, put_cells hl]
theorem sorted_other {w : World} {b q : Nat} {d' : List Th} {n : Nat} {os : Array Obj} (hq : q < w.heap.size) (hne : q ≠ b) : (Go.Proofs.sortWorldK encT 4 w b 0 n d'.toArray os).heap[q]? = w.heap[q]? := by
  show ((w.heap.modify b (Go.Sort.onCells (Go.Sort.putCells id 0 (Go.Sort.flatK encT 4 d'.toArray)))) ++ os)[q]? = _
  rw [Array.getElem?_append_left (by simpa using hq), Array.getElem?_modify, if_neg (fun e => hne e.symm)]
theorem plSort : Plain Try.prog 54 := Plain.of Try.func54 (by kernel_rfl) rfl
/-- a row of one's own is put in order -/
theorem sort_g {ng nm c : Nat} {A jk : List Th} {h : List (Nat × GO)} {ns : List Nat} {K : Value → List (Nat × GO) → List Nat → Prop} (hl : look h nm = some (.rw (.cells ⟨flatR encT (A ++ jk)⟩ tTh))) (hA : 0 < A.length) (hsz : A.length ≤ 1000000)
    (hK : ∀ A' : List Th, A'.Perm A → A'.Pairwise (fun x y => leT x y) → K (.tuple #[]) ((nm, .rw (.cells ⟨flatR encT (A' ++ jk)⟩ tTh)) :: h) ns) :
    CallG Try.prog ng 54 [.slice (some ⟨nm, 0, none⟩) A.length c, .func (.func 55) #[] #[]] h ns K := by
  refine .mk plSort fun f w args' hB hAr => ?_
  obtain ⟨v1, l1, rfl, hv1, hr1⟩ := AR.cons (x' := undef) hAr
  obtain ⟨v2, l2, e2, hv2, hr2⟩ := AR.cons (x' := undef) hr1
  have e2' : l1 = v2 :: l2 := by simpa using e2
  subst e2'
  have e3 : l2 = [] := by have := hr2.1; exact List.eq_nil_of_length_eq_zero (by simpa using this.symm)
  subst e3
  have hf2 : v2 = .func (.func 55) #[] #[] := by
    exact clean1_eq (v := .func (.func 55) #[] #[]) rfl hv2
  subst hf2
  generalize hn : A.length = n at hv1
  cases hv1 with
  | sliceZ => omega
  | slice hb =>
    rename_i b
    subst hn
    obtain ⟨o', k1, k2, k3⟩ := hB.sees nm _ hl b hb
    have hcells : w.heap[b]? = some (.cells ⟨flatR encT (A ++ jk)⟩ tTh (0, 0)) := by
      cases k3 with
      | cells _ _ q => rw [k2, cleanL_eq (flatR_clean (fun _ => rfl) _) q]
    have hbs := hB.lt nm b hb
    have eg : ∀ args w, (callFunc 55 args).run Try.prog w = .ok (.enter 55 args) w := enters_of Try.func55 (by kernel_rfl) rfl
    have hcon := AnyQ.slices_SortFunc sortTh 4 Try.isAgg103 Try.sizeOf103 encT (fun _ => rfl) (fun x v hv => by simp [encT] at hv; rcases hv with rfl | rfl | rfl | rfl <;> rfl) cfT swoT 55 #[] b 0 c A.toArray w eg (cmpT b 0 A.toArray.size w) (holds_row hcells) hbs (by simp; omega)
    change Calls Try.prog 54 _ _ _ at hcon
    refine hcon.mono ?_
    rintro e w' ⟨rfl, d', n, os, ⟨hp1, _, hp2⟩, hs, rfl⟩
    obtain ⟨A', rfl⟩ : ∃ A' : List Th, d' = A'.toArray := ⟨d'.toList, rfl⟩
    have hl' : A'.length = A.length := by simpa using hp1
    have hperm : A'.Perm A := by
      have e1 : A'.toArray.extract 0 A.toArray.size = A'.toArray := by rw [← hp1]; exact Array.extract_size
      rw [e1, Array.extract_size] at hp2
      simpa using hp2
    have hsort : A'.Pairwise (fun x y => leT x y) := by
      rw [List.pairwise_iff_getElem]
      intro i j hi hj hij
      have := hs i j (Nat.zero_le _) hij (by simp; omega)
      rw [lt_cfT, get!_list, get!_list] at this
      show ltT A'[j] A'[i] = false
      simpa [nth, hi, hj] using this
    have hbk := sorted_block (n := n) (os := os) hcells hl'
    have hoth : ∀ q, q < w.heap.size → q ≠ b → (Go.Proofs.sortWorldK encT 4 w b 0 n A'.toArray os).heap[q]? = w.heap[q]? := fun q h1 h2 => sorted_other h1 h2
    have hgr : w.heap.size ≤ (Go.Proofs.sortWorldK encT 4 w b 0 n A'.toArray os).heap.size := by
      show w.heap.size ≤ ((w.heap.modify b _) ++ os).size
      simp
    generalize hW : Go.Proofs.sortWorldK encT 4 w b 0 n A'.toArray os = w' at hbk hoth hgr
    have hos : w'.os = w.os ∧ w'.tape = w.tape ∧ w'.output = w.output ∧ w.drawn ≤ w'.drawn := by
      subst hW; exact ⟨rfl, rfl, rfl, Nat.le_add_right _ _⟩
    clear hW hs hp2 hp1 hcon
    refine ⟨.tuple #[], .tuple #[], _, ns, f, rfl, hK A' hperm hsort, { le := NM.le.refl f, lt := fun n b h => Nat.lt_of_lt_of_le (hB.lt n b h) hgr, val := (AR.nil f).tuple, sees := ?_, owx := fun b n h => ⟨Or.inl ⟨n, h, Nat.le_refl _⟩, Nat.lt_of_lt_of_le (hB.owx b n h) hgr⟩, kp := fun b n h => ⟨n, h, Nat.le_refl _⟩, ol := hB.ol, new := fun n b h => Or.inl ⟨n, h⟩, far := ?_, top := hB.top, asc := hB.asc, low := fun x hx => ⟨x, hx, Nat.le_refl _⟩, grow := hgr, os := hos.1, tape := hos.2.1, out := hos.2.2.1, dr := hos.2.2.2 }⟩
    · intro m g hg
      rw [look_cons] at hg
      split at hg
      · rename_i e; subst e; cases hg
        intro b' hb'
        rw [hb] at hb'; cases hb'
        exact ⟨_, k1, hbk, .cells _ _ (cleanA _ (flatR_clean (fun _ => rfl) _))⟩
      · rename_i e
        have hold := hB.sees m g hg
        cases g with
        | rw p =>
          intro q hq
          obtain ⟨o2, q1, q2, q3⟩ := hold q hq
          exact ⟨o2, q1, by rw [hoth q (hB.lt m q hq) (fun e2 => by subst e2; rw [k1] at q1; exact e (by simpa using q1))]; exact q2, q3⟩
        | ro p =>
          intro q hq
          obtain ⟨o2, q1, q2, q3⟩ := hold q hq
          exact ⟨o2, q1, by rw [hoth q (hB.lt m q hq) (fun e2 => by subst e2; rw [k1] at q1; cases q1)]; exact q2, q3⟩
        | abs R =>
          obtain ⟨q, F, q1, q2, q3⟩ := hold
          exact ⟨q, F, q1, q2, R.keeps w w' q F q3 (fun x hx => hoth x (hB.owx x m (q2 x hx)) (fun e2 => by subst e2; have := q2 _ hx; rw [k1] at this; exact e (by simpa using this))) hgr⟩
    · intro q hq hn
      exact hoth q hq (fun e2 => by subst e2; rw [k1] at hn; cases hn)
end Go.Proofs.Ytdligbcmhjhkfaa

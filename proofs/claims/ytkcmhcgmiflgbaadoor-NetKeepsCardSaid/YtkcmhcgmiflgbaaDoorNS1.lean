/- A row of links is put in order by Go's own sort. -/
import Derived.Test.YtkcmhcgmiflgbaaDoorNN7
import Derived.Shelf.SlSortCmp.WholeK
import Derived.Shelf.SlGeneric
import Derived.Ground.SlsfProg

namespace Go.Proofs.YtkcmhcgmiflgbaaDoor
open Go.RowKit
open Go.Shelf
def sortTm_ren : Go.Shelf.Ren := ⟨fun | 6 => 28 | 15 => 44 | 14 => 43 | 28 => 58 | 29 => 59 | 20 => 50 | 21 => 51 | 22 => 52 | 23 => 53 | 24 => 54 | 25 => 55 | 26 => 56 | 27 => 57 | 46 => 65 | 47 => 66 | 48 => 67 | 49 => 68 | 50 => 69 | 57 => 70 | n => n, fun | 22 => 53 | 24 => 61 | 25 => 67 | 3 => 3 | 39 => 83 | 0 => 0 | 53 => 100 | 55 => 102 | 4 => 4 | 46 => 93 | 45 => 92 | 50 => 97 | 5 => 5 | 9 => 9 | 66 => 107 | 70 => 85 | 76 => 112 | 77 => 71 | n => n, fun | n => n⟩
theorem sortTm : Go.Proofs.SlLaysF0.n6 Tryd.prog sortTm_ren := {
  mixed := by kernel_rfl
  f6 := ⟨Tryd.f28.name, by decide, Tryd.func28.trans (congrArg some (by kernel_rfl))⟩
  f14 := ⟨Tryd.f43.name, by decide, Tryd.func43.trans (congrArg some (by kernel_rfl))⟩
  f15 := Tryd.func44.trans (congrArg some (by kernel_rfl))
  f20 := ⟨Tryd.f50.name, by decide, Tryd.func50.trans (congrArg some (by kernel_rfl))⟩
  f21 := ⟨Tryd.f51.name, by decide, Tryd.func51.trans (congrArg some (by kernel_rfl))⟩
  f22 := ⟨Tryd.f52.name, by decide, Tryd.func52.trans (congrArg some (by kernel_rfl))⟩
  f23 := ⟨Tryd.f53.name, by decide, Tryd.func53.trans (congrArg some (by kernel_rfl))⟩
  f24 := ⟨Tryd.f54.name, by decide, Tryd.func54.trans (congrArg some (by kernel_rfl))⟩
  f25 := ⟨Tryd.f55.name, by decide, Tryd.func55.trans (congrArg some (by kernel_rfl))⟩
  f26 := ⟨Tryd.f56.name, by decide, Tryd.func56.trans (congrArg some (by kernel_rfl))⟩
  f27 := ⟨Tryd.f57.name, by decide, Tryd.func57.trans (congrArg some (by kernel_rfl))⟩
  f28 := Tryd.func58.trans (congrArg some (by kernel_rfl))
  f29 := Tryd.func59.trans (congrArg some (by kernel_rfl))
  f46 := ⟨Tryd.f65.name, by decide, Tryd.func65.trans (congrArg some (by kernel_rfl))⟩
  f47 := Tryd.func66.trans (congrArg some (by kernel_rfl))
  f48 := Tryd.func67.trans (congrArg some (by kernel_rfl))
  f49 := ⟨Tryd.f68.name, by decide, Tryd.func68.trans (congrArg some (by kernel_rfl))⟩
  f50 := ⟨Tryd.f69.name, by decide, Tryd.func69.trans (congrArg some (by kernel_rfl))⟩
  f57 := ⟨Tryd.f70.name, by decide, Tryd.func70.trans (congrArg some (by kernel_rfl))⟩
  t0 := Tryd.underlying0
  a0 := Tryd.isAgg0
  z0 := Tryd.sizeOf0
  v0 := Tryd.zeroValue0
  t3 := Tryd.underlying3
  a3 := Tryd.isAgg3
  z3 := Tryd.sizeOf3
  v3 := Tryd.zeroValue3
  t4 := Tryd.underlying4
  a4 := Tryd.isAgg4
  z4 := Tryd.sizeOf4
  v4 := Tryd.zeroValue4
  t5 := Tryd.underlying5
  a5 := Tryd.isAgg5
  z5 := Tryd.sizeOf5
  v5 := Tryd.zeroValue5
  t9 := Tryd.underlying9
  a9 := Tryd.isAgg9
  z9 := Tryd.sizeOf9
  v9 := Tryd.zeroValue9
  t22 := Tryd.underlying53
  a22 := Tryd.isAgg53
  z22 := Tryd.sizeOf53
  v22 := Tryd.zeroValue53
  t25 := Tryd.underlying67
  a25 := Tryd.isAgg67
  z25 := Tryd.sizeOf67
  v25 := Tryd.zeroValue67
  t39 := Tryd.underlying83
  a39 := Tryd.isAgg83
  z39 := Tryd.sizeOf83
  v39 := Tryd.zeroValue83
  t45 := Tryd.underlying92
  a45 := Tryd.isAgg92
  z45 := Tryd.sizeOf92
  v45 := Tryd.zeroValue92
  t46 := Tryd.underlying93
  a46 := Tryd.isAgg93
  z46 := Tryd.sizeOf93
  v46 := Tryd.zeroValue93
  t50 := Tryd.underlying97
  a50 := Tryd.isAgg97
  z50 := Tryd.sizeOf97
  v50 := Tryd.zeroValue97
  t53 := Tryd.underlying100
  a53 := Tryd.isAgg100
  z53 := Tryd.sizeOf100
  v53 := Tryd.zeroValue100
  t55 := Tryd.underlying102
  a55 := Tryd.isAgg102
  z55 := Tryd.sizeOf102
  v55 := Tryd.zeroValue102
  t66 := Tryd.underlying107
  a66 := Tryd.isAgg107
  z66 := Tryd.sizeOf107
  v66 := Tryd.zeroValue107
  t70 := Tryd.underlying85
  a70 := Tryd.isAgg85
  z70 := Tryd.sizeOf85
  v70 := Tryd.zeroValue85
  t76 := Tryd.underlying112
  a76 := Tryd.isAgg112
  z76 := Tryd.sizeOf112
  v76 := Tryd.zeroValue112
  t77 := Tryd.underlying71
  a77 := Tryd.isAgg71
  z77 := Tryd.sizeOf71
  v77 := Tryd.zeroValue71 }
theorem grown_eq {w w' : World} (h1 : w'.os = w.os) (h2 : w'.tape = w.tape) (h3 : w'.output = w.output) (h4 : w.drawn ≤ w'.drawn) (h5 : w.heap.size ≤ w'.heap.size) (h6 : ∀ b, b < w.heap.size → w'.heap[b]? = w.heap[b]?) : ∃ q os', w' = Go.Sort.grow (w.drewN q) os' := by
  refine ⟨w'.drawn - w.drawn, w'.heap.extract w.heap.size w'.heap.size, ?_⟩
  obtain ⟨hp, tp, dr, os, out⟩ := w'
  simp only at h1 h2 h3 h4 h5 h6
  simp only [Go.Sort.grow, World.drewN, World.mk.injEq]
  refine ⟨?_, h2, by omega, h1, h3⟩
  apply Array.ext_getElem?
  intro i
  rw [Array.getElem?_append]
  split
  · rename_i hi; exact h6 i hi
  · rename_i hi
    rw [Array.getElem?_extract]
    by_cases h : i < hp.size
    · rw [if_pos (by omega)]
      congr 1; omega
    · rw [if_neg (by omega), Array.getElem?_eq_none (by omega)]
theorem Pure.grown {P : Program} {k : Nat} {args : List Value} {V : Value} (s : Pure P 0 k args (· = V)) (hc : cleanA2 args = true) (w : World) :
    Calls P k ⟨args⟩ w fun e w' => e = .returned V ∧ ∃ q os', w' = Go.Sort.grow (w.drewN q) os' := by
  have hB : Before 0 ⟨fun _ => none, fun _ => none⟩ [] sup w := ⟨fun n b h => (by cases h), fun g hg => (by omega), fun x hx m hm => rfl, sup_asc, fun n o h => (by cases h), fun b n h => (by cases h), fun b n h => (by cases h)⟩
  have hA : AR ⟨fun _ => none, fun _ => none⟩ ⟨args⟩ ⟨args⟩ := by
    refine ⟨rfl, fun i v v' a b => ?_⟩
    rw [a] at b; cases b
    exact clean_VR _ (cleanA2_mem hc v (by have := Array.mem_of_getElem? a; simpa using this))
  refine (s _ w _ hB hA).mono ?_
  rintro e w' ⟨v, v', h', ns', g, rfl, ⟨rfl, hcv⟩, hAf⟩
  exact ⟨by rw [clean_eq hcv hAf.val], grown_eq hAf.os hAf.tape hAf.out hAf.dr hAf.grow fun b hb => hAf.far b hb rfl⟩
abbrev Tm := Int × Int
def encTm (x : Tm) : List Value := [i64 x.1, i64 x.2]
theorem encTm_len (x : Tm) : (encTm x).length = 2 := rfl
theorem encTm_clean (x : Tm) : cleanL (encTm x) = true := rfl
theorem encTm_one (x : Tm) : oneL (encTm x) = true := rfl
def ltTm (x y : Tm) : Bool := decide (x.1 < y.1) || (decide (x.1 = y.1) && decide (x.2 < y.2))
def leTm (x y : Tm) : Prop := ltTm y x = false
theorem ltTm_iff {x y : Tm} : ltTm x y = true ↔ x.1 < y.1 ∨ x.1 = y.1 ∧ x.2 < y.2 := by simp [ltTm]
theorem leTm_iff {x y : Tm} : leTm x y ↔ x.1 < y.1 ∨ x.1 = y.1 ∧ x.2 ≤ y.2 := by
  unfold leTm
  rw [← Bool.not_eq_true, ltTm_iff]
  omega
def cfTm (x y : Tm) : Int := if x.1 < y.1 then -1 else if y.1 < x.1 then 1 else if x.2 < y.2 then -1 else if y.2 < x.2 then 1 else 0
theorem lt_cfTm : Go.Proofs.ltOf cfTm = ltTm := by
  funext x y
  unfold Go.Proofs.ltOf cfTm
  rw [Bool.eq_iff_iff, ltTm_iff, decide_eq_true_iff]
  repeat' split
  all_goals omega
theorem swoTm : Go.Sort.SWO (Go.Proofs.ltOf cfTm) := by
  rw [lt_cfTm]
  refine ⟨fun x => ?_, fun x y z h k => ?_, fun x y z h k => ?_⟩
  · rw [← Bool.not_eq_true, ltTm_iff]; omega
  · rw [ltTm_iff] at *; omega
  · rw [← Bool.not_eq_true, ltTm_iff] at *; omega
theorem pl45 : Plain Tryd.prog 45 := Plain.of Tryd.func45 (by kernel_rfl) rfl
theorem pl60 : Plain Tryd.prog 60 := Plain.of Tryd.func60 (by kernel_rfl) rfl
theorem isNaN_s (a : Int) : Pure Tryd.prog 0 60 [i64 a] (fun v => v = .bool false) := by
  refine Pure.body tt_ok mixed Tryd.func60 rfl (Nat.le_of_ble_eq_true rfl) ?_
  (conv => whnf)
  exact ⟨by simp, rfl⟩
def cmpI (a b : Int) : Int := if a < b then -1 else if b < a then 1 else 0
theorem cmp_s (a b : Int) : Pure Tryd.prog 0 45 [i64 a, i64 b] (fun v => v = i64 (cmpI a b)) := by
  refine Pure.body tt_ok mixed Tryd.func45 rfl (Nat.le_of_ble_eq_true rfl) ?_
  (conv => whnf)
  repeat' (first | (refine CallG.val (isNaN_s _) pl60 rfl (Nat.zero_le _) ?_; (conv => whnf)) | (refine @And.intro (chkAll _ = true) _ ?_ ?_; (· kernel_rfl); (conv => whnf)) | (refine JoinG.direct ?_; (conv => whnf)) | (refine AppG.mk ?_; (conv => whnf)) | (refine both_intro ?_ ?_ <;> (conv => whnf)) | (exact VR.int _ _) | (exact VR.bool _) | (refine VR.ptr ?_; kernel_rfl) | (refine VR.slice ?_; kernel_rfl) | (exact VR.sliceN _ _) | (refine VR.map ?_; kernel_rfl) | (exact VR.clean _ rfl) | (refine VR.aggOf ?_) | (refine OR.cellsOf ?_) | (exact AR.same _ rfl) | (exact trivial) | (refine amb_no ?_ ?_; (· exact Nat.succ_ne_zero _); (conv => whnf)) | (refine And.intro ?_ ?_; (· (first | decide | omega | (simp only [IntKind.wrap_i64]; omega) | (simp only [List.length_append]; omega) | (simp only [IntKind.wrap_i64, List.length_append]; omega) | (simp only [IntKind.wrap_i64, List.length_append, Int.natCast_add]; omega) | exact keepP_same _ _ _ | (repeat (first | exact trivial | refine And.intro rfl ?_)))); (conv => whnf)) | (refine fun (nc : Nat) (hnc : _ ≤ nc) => ?_; (conv => whnf)) | (refine bif2_true ?_ ?_; (· assumption); (conv => whnf)) | (refine bif2_false ?_ ?_; (· assumption); (conv => whnf)) | (refine bif2_split (fun h => ?_) (fun h => ?_) <;> (conv => whnf)))
  all_goals (refine ⟨?_, rfl⟩; simp only [decide_eq_true_eq, decide_eq_false_iff_not] at *; unfold cmpI)
  · rw [if_pos (by assumption)]
  · rw [if_neg (by assumption), if_pos (by assumption)]
  · rw [if_neg (by assumption), if_neg (by assumption)]
theorem due1_s (x y : Tm) : Pure Tryd.prog 0 29 [.agg ⟨encTm x⟩, .agg ⟨encTm y⟩] (fun v => v = i64 (cfTm x y)) := by
  have hc : cfTm x y = if cmpI x.1 y.1 ≠ 0 then cmpI x.1 y.1 else cmpI x.2 y.2 := by
    unfold cfTm cmpI
    repeat' split
    all_goals (first | rfl | omega)
  rw [hc]
  refine Pure.body tt_ok mixed Tryd.func29 rfl (Nat.le_of_ble_eq_true rfl) ?_
  (conv => whnf)
  repeat' (first | (refine CallG.val (cmp_s _ _) pl45 rfl (Nat.zero_le _) ?_; (conv => whnf)) | (refine CallG.body tt_ok mixed Tryd.func30 (by kernel_rfl) rfl (Nat.le_of_ble_eq_true rfl) ?_; (conv => whnf)) | (refine LoopG.unroll 3 ?_; (conv => whnf)) | (refine @And.intro (chkAll _ = true) _ ?_ ?_; (· kernel_rfl); (conv => whnf)) | (refine JoinG.direct ?_; (conv => whnf)) | (refine AppG.mk ?_; (conv => whnf)) | (refine both_intro ?_ ?_ <;> (conv => whnf)) | (exact VR.int _ _) | (exact VR.bool _) | (refine VR.ptr ?_; kernel_rfl) | (refine VR.slice ?_; kernel_rfl) | (exact VR.sliceN _ _) | (refine VR.map ?_; kernel_rfl) | (exact VR.clean _ rfl) | (refine VR.aggOf ?_) | (refine OR.cellsOf ?_) | (exact AR.same _ rfl) | (exact trivial) | (refine amb_no ?_ ?_; (· exact Nat.succ_ne_zero _); (conv => whnf)) | (refine And.intro ?_ ?_; (· (first | decide | omega | (simp only []; omega) | (simp only []; omega) | (simp only []; omega) | (simp only []; omega) | exact keepP_same _ _ _ | (repeat (first | exact trivial | refine And.intro rfl ?_)))); (conv => whnf)) | (refine fun (nc : Nat) (hnc : _ ≤ nc) => ?_; (conv => whnf)) | (refine bif2_true ?_ ?_; (· assumption); (conv => whnf)) | (refine bif2_false ?_ ?_; (· assumption); (conv => whnf)) | (refine bif2_split (fun h => ?_) (fun h => ?_) <;> (conv => whnf)))
  all_goals (refine ⟨?_, rfl⟩; simp only [bne_iff_ne, bne_eq_false_iff_eq] at *; first | (rw [if_pos (by assumption)]) | (simp_all))
theorem cmpTm (blk off size : Nat) (w : World) : Go.Proofs.CmpLays Tryd.prog 29 #[] encTm 2 cfTm blk off size w :=
  fun _ _ _ _ x y => (due1_s x y).grown rfl _
theorem get!_list {d : List Tm} (i : Nat) : d.toArray[i]! = nth d i := by
  unfold nth
  rw [List.getD_eq_getElem?_getD, Array.getElem!_eq_getD, Array.getD]
  split
  · rename_i h
    have h' : i < d.length := by simpa using h
    simp [h']
  · rename_i h
    have h' : ¬ i < d.length := by simpa using h
    simp [h']
theorem flat_get {d : List Tm} {t : Nat} (h : t < d.length * 2) : (flatR encTm d)[t]? = some (Go.Sort.flatK encTm 2 d.toArray)[t]! := by
  rw [Go.Sort.get_flatK encTm 2 d.toArray t (by simpa using h), get!_list]
  have h1 := flatR_get encTm_len d (t / 2) (t % 2) (by omega) (by omega)
  rw [show t / 2 * 2 + t % 2 = t by omega] at h1
  rw [h1, List.getElem?_eq_getElem (by rw [encTm_len]; omega), getElem!_pos]
theorem put_cells {d d' jk : List Tm} (hl : d'.length = d.length) : Go.Sort.putCells id 0 (Go.Sort.flatK encTm 2 d'.toArray) ⟨flatR encTm (d ++ jk)⟩ = ⟨flatR encTm (d' ++ jk)⟩ := by
  apply Array.ext_getElem?
  intro i
  unfold Go.Sort.putCells
  simp only [Array.getElem?_mapIdx, Go.Sort.size_flatK, Nat.zero_le, true_and, Nat.zero_add, Nat.sub_zero, id, List.getElem?_toArray]
  rw [flatR_append, flatR_append]
  have l1 : (flatR encTm d).length = d.length * 2 := flatR_len encTm_len d
  have l2 : (flatR encTm d').length = d'.length * 2 := flatR_len encTm_len d'
  by_cases hi : i < d'.length * 2
  · rw [List.getElem?_append_left (by omega), List.getElem?_append_left (by omega), flat_get hi, List.getElem?_eq_getElem (by omega)]
    simp only [Option.map_some, List.size_toArray, hi, if_true]
  · rw [List.getElem?_append_right (by omega), List.getElem?_append_right (by omega), l1, l2, hl]
    simp only [List.size_toArray, hi, if_false]
    cases (flatR encTm jk)[i - d.length * 2]? <;> rfl
theorem holds_row {w : World} {b : Nat} {d jk : List Tm} {t : TypeId} (h : w.heap[b]? = some (.cells ⟨flatR encTm (d ++ jk)⟩ t (0, 0))) : Go.Sort.HoldsK encTm 2 w b 0 d.toArray := by
  intro j hj
  have hj' : j < d.length * 2 := by simpa using hj
  have l1 : (flatR encTm d).length = d.length * 2 := flatR_len encTm_len d
  refine ⟨?_, ?_⟩
  · rw [Nat.zero_add, cell_row h, flatR_append]
    simp only [List.getElem?_toArray, id]
    rw [List.getElem?_append_left (by omega), flat_get hj']
  · simp [World.frozen?, h]
/-- what the sort leaves behind -/
theorem sorted_block {w : World} {b : Nat} {d d' jk : List Tm} {t : TypeId} {n : Nat} {os : Array Obj} (h : w.heap[b]? = some (.cells ⟨flatR encTm (d ++ jk)⟩ t (0, 0))) (hl : d'.length = d.length) :
    (Go.Proofs.sortWorldK encTm 2 w b 0 n d'.toArray os).heap[b]? = some (.cells ⟨flatR encTm (d' ++ jk)⟩ t (0, 0)) := by
  have hb : b < w.heap.size := (Array.getElem?_eq_some_iff.1 h).1
  show ((w.heap.modify b (Go.Sort.onCells (Go.Sort.putCells id 0 (Go.Sort.flatK encTm 2 d'.toArray)))) ++ os)[b]? = _
  rw [Array.getElem?_append_left (by simpa using hb), Array.getElem?_modify, if_pos rfl, h]
  simp only [Option.map_some, Go.Sort.onCells, put_cells hl]
theorem sorted_other {w : World} {b q : Nat} {d' : List Tm} {n : Nat} {os : Array Obj} (hq : q < w.heap.size) (hne : q ≠ b) : (Go.Proofs.sortWorldK encTm 2 w b 0 n d'.toArray os).heap[q]? = w.heap[q]? := by
  show ((w.heap.modify b (Go.Sort.onCells (Go.Sort.putCells id 0 (Go.Sort.flatK encTm 2 d'.toArray)))) ++ os)[q]? = _
  rw [Array.getElem?_append_left (by simpa using hq), Array.getElem?_modify, if_neg (fun e => hne e.symm)]
theorem plSort : Plain Tryd.prog 28 := pl28
/-- a row of one's own is put in order -/
theorem sort_g {ng nm c : Nat} {A jk : List Tm} {h : List (Nat × GO)} {ns : List Nat} {K : Value → List (Nat × GO) → List Nat → Prop} (hl : look h nm = some (.rw (.cells ⟨flatR encTm (A ++ jk)⟩ 61))) (hA : 0 < A.length) (hsz : A.length ≤ 1000000)
    (hK : ∀ A' : List Tm, A'.Perm A → A'.Pairwise (fun x y => leTm x y) → K (.tuple #[]) ((nm, .rw (.cells ⟨flatR encTm (A' ++ jk)⟩ 61)) :: h) ns) :
    CallG Tryd.prog ng 28 [.slice (some ⟨nm, 0, none⟩) A.length c, .func (.func 29) #[] #[]] h ns K := by
  refine .mk plSort fun f w args' hB hAr => ?_
  obtain ⟨v1, l1, rfl, hv1, hr1⟩ := AR.cons (x' := undef) hAr
  obtain ⟨v2, l2, e2, hv2, hr2⟩ := AR.cons (x' := undef) hr1
  have e2' : l1 = v2 :: l2 := by simpa using e2
  subst e2'
  have e3 : l2 = [] := by have := hr2.1; exact List.eq_nil_of_length_eq_zero (by simpa using this.symm)
  subst e3
  have hf2 : v2 = .func (.func 29) #[] #[] := by
    exact clean1_eq (v := .func (.func 29) #[] #[]) rfl hv2
  subst hf2
  generalize hn : A.length = n at hv1
  cases hv1 with
  | sliceZ => omega
  | slice hb =>
    rename_i b
    subst hn
    obtain ⟨o', k1, k2, k3⟩ := hB.sees nm _ hl b hb
    have hcells : w.heap[b]? = some (.cells ⟨flatR encTm (A ++ jk)⟩ 61 (0, 0)) := by
      cases k3 with
      | cells _ _ q => rw [k2, cleanL_eq (flatR_clean (fun _ => rfl) _) q]
    have hbs := hB.lt nm b hb
    have eg : ∀ args w, (callFunc 29 args).run Tryd.prog w = .ok (.enter 29 args) w := enters_of Tryd.func29 (by kernel_rfl) rfl
    have hcon := AnyQ.slices_SortFunc sortTm 2 Tryd.isAgg61 Tryd.sizeOf61 encTm (fun _ => rfl) (fun x v hv => by simp [encTm] at hv; rcases hv with rfl | rfl <;> rfl) cfTm swoTm 29 #[] b 0 c A.toArray w eg (cmpTm b 0 A.toArray.size w) (holds_row hcells) hbs (by simp; omega)
    change Calls Tryd.prog 28 _ _ _ at hcon
    refine hcon.mono ?_
    rintro e w' ⟨rfl, d', n, os, ⟨hp1, _, hp2⟩, hs, rfl⟩
    obtain ⟨A', rfl⟩ : ∃ A' : List Tm, d' = A'.toArray := ⟨d'.toList, rfl⟩
    have hl' : A'.length = A.length := by simpa using hp1
    have hperm : A'.Perm A := by
      have e1 : A'.toArray.extract 0 A.toArray.size = A'.toArray := by rw [← hp1]; exact Array.extract_size
      rw [e1, Array.extract_size] at hp2
      simpa using hp2
    have hsort : A'.Pairwise (fun x y => leTm x y) := by
      rw [List.pairwise_iff_getElem]
      intro i j hi hj hij
      have := hs i j (Nat.zero_le _) hij (by simp; omega)
      rw [lt_cfTm, get!_list, get!_list] at this
      show ltTm A'[j] A'[i] = false
      simpa [nth, hi, hj] using this
    have hbk := sorted_block (n := n) (os := os) hcells hl'
    have hoth : ∀ q, q < w.heap.size → q ≠ b → (Go.Proofs.sortWorldK encTm 2 w b 0 n A'.toArray os).heap[q]? = w.heap[q]? := fun q h1 h2 => sorted_other h1 h2
    have hgr : w.heap.size ≤ (Go.Proofs.sortWorldK encTm 2 w b 0 n A'.toArray os).heap.size := by
      show w.heap.size ≤ ((w.heap.modify b _) ++ os).size
      simp
    generalize hW : Go.Proofs.sortWorldK encTm 2 w b 0 n A'.toArray os = w' at hbk hoth hgr
    have hos : w'.os = w.os ∧ w'.tape = w.tape ∧ w'.output = w.output ∧ w.drawn ≤ w'.drawn := by
      subst hW; exact ⟨rfl, rfl, rfl, Nat.le_add_right _ _⟩
    clear hW hs hp2 hp1 hcon
    refine ⟨.tuple #[], .tuple #[], _, ns, f, rfl, hK A' hperm hsort, { le := NM.le.refl f, lt := fun n b h => Nat.lt_of_lt_of_le (hB.lt n b h) hgr, val := (AR.nil f).tuple, sees := ?_, owx := fun b n h => ⟨Or.inl ⟨n, h, Nat.le_refl _⟩, Nat.lt_of_lt_of_le (hB.owx b n h) hgr⟩, kp := fun b n h => ⟨n, h, Nat.le_refl _⟩, ol := hB.ol, new := fun n b h => Or.inl ⟨n, h⟩, far := ?_, top := hB.top, asc := hB.asc, low := fun x hx => ⟨x, hx, Nat.le_refl _⟩, grow := hgr, os := hos.1, tape := hos.2.1, out := hos.2.2.1, dr := hos.2.2.2 }⟩
    · intro m g hg
      rw [look_cons] at hg
      split at hg
      · rename_i e; subst e; cases hg
        intro b' hb'
        rw [hb] at hb'; cases hb'
        exact ⟨_, k1, hbk, .cells _ _ (cleanA _ (flatR_clean (fun _ => rfl) _))⟩
      · rename_i e
        have hold := hB.sees m g hg
        cases g with
        | rw p =>
          intro q hq
          obtain ⟨o2, q1, q2, q3⟩ := hold q hq
          exact ⟨o2, q1, by rw [hoth q (hB.lt m q hq) (fun e2 => by subst e2; rw [k1] at q1; exact e (by simpa using q1))]; exact q2, q3⟩
        | ro p =>
          intro q hq
          obtain ⟨o2, q1, q2, q3⟩ := hold q hq
          exact ⟨o2, q1, by rw [hoth q (hB.lt m q hq) (fun e2 => by subst e2; rw [k1] at q1; cases q1)]; exact q2, q3⟩
        | abs R =>
          obtain ⟨q, F, q1, q2, q3⟩ := hold
          exact ⟨q, F, q1, q2, R.keeps w w' q F q3 (fun x hx => hoth x (hB.owx x m (q2 x hx)) (fun e2 => by subst e2; have := q2 _ hx; rw [k1] at this; exact e (by simpa using this))) hgr⟩
    · intro q hq hn
      exact hoth q hq (fun e2 => by subst e2; rw [k1] at hn; cases hn)
end Go.Proofs.YtkcmhcgmiflgbaaDoor

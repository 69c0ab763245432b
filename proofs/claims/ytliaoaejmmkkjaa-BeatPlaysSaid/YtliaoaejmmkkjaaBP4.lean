/- Blocks that are left alone from here; a call whose ways come together at its end; the document's small calls. -/
import Derived.Test.YtliaoaejmmkkjaaBP3

namespace Go.Proofs.Ytliaoaejmmkkjaa
open Go.RowKit
/-- the block behind a cell is left alone from here -/
def frzAt (lo b i : Nat) (h : List (Nat × GO)) : List (Nat × GO) := match ptrAt (look h b) i with
  | some n => match Nat.ble lo n with
    | true => match look h n with
      | some (.rw o) => (n, .ro o) :: h
      | _ => h
    | false => h
  | none => h
theorem Wk.freezeAt {lo : Nat} {t : List (Nat × Value)} {h : List (Nat × GO)} {ns : List Nat} (b i : Nat) : Wk lo ⟨t, h, ns⟩ ⟨t, frzAt lo b i h, ns⟩ := by
  unfold frzAt
  split
  · rename_i n _
    split
    · rename_i e
      split
      · rename_i o hl
        exact Wk.freeze n (Nat.le_of_ble_eq_true e) hl
      · exact Wk.refl _ _
    · exact Wk.refl _ _
  · exact Wk.refl _ _
theorem OR.tow {s : NM} {A jk : List Bt} {m : Nat} {t : Nat} {fz : Nat × Nat} (hm : m = jk.length * 3) : OR s (.cells (Go.Proofs.Ytliaoaejmmkkjaa.win 0 (flatR encB A) m) t fz) (.cells ⟨flatR encB (A ++ jk)⟩ t fz) := by
  subst hm
  refine .cells t fz ⟨by simp [repH_len, flatR_len encB_len]; omega, fun i v v' h1 h2 => ?_⟩
  simp only [List.getElem?_toArray] at h1 h2
  rw [show repH 0 ++ (flatR encB A ++ repH (jk.length * 3)) = flatR encB A ++ repH (jk.length * 3) from rfl, List.getElem?_append] at h1
  rw [flatR_append, List.getElem?_append] at h2
  split at h1
  · rename_i hi
    rw [if_pos hi, h1] at h2
    cases h2
    exact clean1_VR s (cleanL_all (flatR_clean encB_clean A) v (List.mem_of_getElem? h1))
  · rw [repH_get _ _ _ h1]; exact .any _
/-- a call, its ways come together at its end -/
theorem CallG.bodyJ {P : Program} {tt : List (Nat × TK)} (hT : TKok P tt) (hm : P.follows .mixedOrders = true) {ng k lo : Nat} {fn : Func} {code : Code} (hf : P.funcs[k]? = some fn) (hname : (fn.name == "runtime.NumGoroutine") = false) (hb : fn.body = some code)
    {args : List Value} {h : List (Nat × GO)} {ns : List Nat} {K : Value → List (Nat × GO) → List Nat → Prop} (hn : args.length ≤ fn.ntmps) {ι : Type} (st : ι → St)
    (H : startG args fun t => wpG P fn.ntmps ng lo tt code (fun e S => e = .ret ∧ ∃ i, Wk lo S (st i)) ⟨t, h, lo :: ns⟩) (hK : ∀ i, retG tt fn.results.toList K .ret (st i)) : CallG P ng k args h (lo :: ns) K := by
  refine .mk ⟨fn, hf, hname, by rw [hb]; rfl⟩ ?_
  rw [startG_eq] at H
  intro f w args' hB hA
  refine calls_of_wp hf hb ?_
  have hlen : args'.size = args.length := by have := hA.1; simpa using this.symm
  let c : Cx := ⟨f, w, fn.ntmps, ng, lo, []⟩
  have hS : Sat c f ⟨argT 0 args, h, lo :: ns⟩ { tmps := args' ++ Array.replicate (fn.ntmps - args'.size) undef, defers := [] } w := by
    refine { lt := hB.lt, glob := hB.glob, top := hB.top, asc := hB.asc, low := ?_, f0lo := fun m hm => hB.top lo (by simp) m hm, sees := hB.sees, owx := fun b n h1 => ⟨Or.inl ⟨n, h1, Nat.le_refl _⟩, hB.owx b n h1⟩, kp := fun _ n h => ⟨n, h, Nat.le_refl _⟩, ol := hB.ol, olo := fun b n h1 => hB.ol b n h1 lo (by simp), tms := ?_, size := ?_, defers := rfl, ext := NM.le.refl f, new := fun n b h => Or.inl ⟨n, h⟩, far := fun _ _ _ => rfl, grow := Nat.le_refl _, os := rfl, tape := rfl, out := rfl, dr := Nat.le_refl _ }
    · intro x hx
      rcases List.mem_cons.1 hx with rfl | hx
      · exact Nat.le_refl _
      · exact Nat.le_of_lt ((List.pairwise_cons.1 hB.asc).1 x hx)
    · intro k v hk
      obtain ⟨_, h2⟩ := argT_look args 0 k v hk
      obtain ⟨v', h3, h4⟩ := hA.get (i := k) (v := v) (by simpa using h2)
      refine ⟨v', ?_, h4⟩
      rw [Array.getElem?_append_left (Array.getElem?_eq_some_iff.1 h3).1]
      exact h3
    · simp only [Array.size_append, Array.size_replicate]
      show args'.size + (fn.ntmps - args'.size) = fn.ntmps
      omega
  have hng : c.ng ≤ c.lo := by
    rcases Nat.lt_or_ge lo ng with h | h
    · have h1 := hB.glob lo h
      rw [hB.top lo (by simp) lo (Nat.le_refl _)] at h1; cases h1
    · exact h
  refine Code.wp_mono ?_ (wpG_sound hT hm (c := c) hng code _ _ f _ w hS H)
  rintro e a' w' ⟨S0, g0, ⟨rfl, i, hw⟩, hs0⟩
  obtain ⟨g, hs, _⟩ := hw c g0 a' w' rfl hng hs0
  have hR := hK i
  generalize st i = S' at hR hs
  have fin : ∀ l : List Value, resV tt S' fn.results.toList = some l → K (packV l) S'.h S'.n → a'.defers = [] ∧ ∃ v, (results fn a'.tmps).run P w' = .ok v w' ∧ ∃ v₁ v' h' ns' g, Ending.returned v = .returned v' ∧ K v₁ h' ns' ∧ After f h (lo :: ns) w g v₁ v' h' ns' w' := by
    intro l hl hK
    obtain ⟨l', h1, h2⟩ := resV_ok hT hs fn.results.toList l hl
    refine ⟨hs.defers, (if h : (⟨l'⟩ : Array Value).size = 1 then (⟨l'⟩ : Array Value)[0] else .tuple ⟨l'⟩), ?_, packV l, _, S'.h, S'.n, g, rfl, hK, ?_⟩
    · rw [results_eq, Array.mapM_eq_mapM_toList]
      simp only [Sem.run_bind, Sem.run_map, h2, Result.andThen_ok, Sem.run_pure]
    · exact { le := hs.ext, lt := hs.lt, val := packV_ok h1, sees := hs.sees, owx := hs.owx, kp := hs.kp, ol := hs.ol,
              new := hs.new, far := hs.far, top := hs.top, asc := hs.asc, low := fun x hx => ⟨lo, by simp, hs.low x hx⟩, grow := hs.grow, os := hs.os, tape := hs.tape, out := hs.out, dr := hs.dr }
  obtain ⟨t, hh, n⟩ := S'
  simp only [retG] at hR
  split at hR
  · rename_i v hl; exact fin [v] hl hR
  · rename_i l hne hl
    refine fin l hl ?_
    have e : packV l = .tuple ⟨l⟩ := by
      unfold packV
      split
      · rename_i v; exact absurd rfl (hne v)
      · rfl
    rw [e]; exact hR
  · exact hR.elim
theorem rspan_s (a b c : Int) : Pure Try.prog 0 51 [i64 a, i64 b, i64 c] (fun v => v = i64 (imax (imin a c) b)) := by
  refine Pure.body tt_ok mixed Try.func51 rfl (Nat.le_of_ble_eq_true rfl) ?_
  (conv => whnf)
  repeat' (first | (refine @And.intro (chkAll _ = true) _ ?_ ?_; (· kernel_rfl); (conv => whnf)) | (refine JoinG.direct ?_; (conv => whnf)) | (refine AppG.mk ?_; (conv => whnf)) | (refine both_intro ?_ ?_ <;> (conv => whnf)) | (exact VR.int _ _) | (exact VR.bool _) | (refine VR.ptr ?_; kernel_rfl) | (refine VR.slice ?_; kernel_rfl) | (exact VR.sliceN _ _) | (refine VR.map ?_; kernel_rfl) | (exact VR.clean _ rfl) | (refine VR.aggOf ?_) | (exact OR.win (flatR_clean (fun _ => rfl) _)) | (exact OR.clean rfl (flatR_clean (fun _ => rfl) _)) | (refine OR.cellsOf ?_) | (exact AR.same _ rfl) | (refine AR.consOf ?_ ?_) | (exact trivial) | (exact VR.sliceZ _ _ _) | (refine GR.rw ?_) | (refine GR.ro ?_) | (exact GR.abs rfl) | (exact idle_rw _) | (exact idle_ro _) | (refine VR.intOf ?_; (· first | rfl | (simp only [IntKind.wrap_i64]; omega) | (simp; done) | (simp; omega))) |  (refine And.intro ?_ ?_; (· (first | decide | omega | (simp only [IntKind.wrap_i64]; omega) | (simp only [List.length_append]; omega) | (simp only [IntKind.wrap_i64, List.length_append]; omega) | (simp only [IntKind.wrap_i64, List.length_append, Int.natCast_add]; omega) | exact keepP_same _ _ _ | (repeat (first | exact trivial | refine And.intro rfl ?_)))); (conv => whnf)) | (refine fun (nc : Nat) (hnc : _ ≤ nc) => ?_; (conv => whnf)) | (refine bif2_true ?_ ?_; (· assumption); (conv => whnf)) | (refine bif2_false ?_ ?_; (· assumption); (conv => whnf)) | (refine bif2_true ?_ ?_; (· first | assumption | (refine decide_eq_true ?_; omega) | (refine decide_eq_false ?_; omega) | (refine beq_t ?_; omega) | (refine beq_f ?_; omega) | (refine bne_t ?_; omega) | (refine bne_f ?_; omega) | (refine ble_t ?_; omega) | (refine ble_f ?_; omega) | (simp [*]; done)); (conv => whnf)) | (refine bif2_false ?_ ?_; (· first | assumption | (refine decide_eq_true ?_; omega) | (refine decide_eq_false ?_; omega) | (refine beq_t ?_; omega) | (refine beq_f ?_; omega) | (refine bne_t ?_; omega) | (refine bne_f ?_; omega) | (refine ble_t ?_; omega) | (refine ble_f ?_; omega) | (simp [*]; done)); (conv => whnf)) | (refine bif2_not ?_; (conv => whnf)) | (refine amb_no ?_ ?_; (· first | exact Nat.succ_ne_zero _ | omega); (conv => whnf)) | (refine And.intro ?_ (fun (hc0 : _ = 0) => ?_) <;> (conv => whnf)) | (refine bif2_ble (fun h => ?_) (fun h => ?_) <;> (conv => whnf)) | (refine bif2_dec (fun h => ?_) (fun h => ?_) <;> (conv => whnf)) | (refine bif2_beq (fun h => ?_) (fun h => ?_) <;> (conv => whnf)) | (refine bif2_bne (fun h => ?_) (fun h => ?_) <;> (conv => whnf)) | (refine bif2_split (fun h => ?_) (fun h => ?_) <;> (conv => whnf)))
  all_goals refine ⟨?_, rfl⟩
  all_goals (unfold imax imin; simp only [Value.int.injEq, true_and]; (repeat' split) <;> omega)
theorem rlater_s (a b : Int) : Pure Try.prog 0 43 [i64 a, i64 b] (fun v => v = i64 (laterV a b)) := by
  refine Pure.body tt_ok mixed Try.func43 rfl (Nat.le_of_ble_eq_true rfl) ?_
  (conv => whnf)
  repeat' (first | (refine CallG.val (rspan_s _ _ _) pl51 rfl (Nat.zero_le _) ?_; (conv => whnf)) | (refine @And.intro (chkAll _ = true) _ ?_ ?_; (· kernel_rfl); (conv => whnf)) | (refine JoinG.direct ?_; (conv => whnf)) | (refine AppG.mk ?_; (conv => whnf)) | (refine both_intro ?_ ?_ <;> (conv => whnf)) | (exact VR.int _ _) | (exact VR.bool _) | (refine VR.ptr ?_; kernel_rfl) | (refine VR.slice ?_; kernel_rfl) | (exact VR.sliceN _ _) | (refine VR.map ?_; kernel_rfl) | (exact VR.clean _ rfl) | (refine VR.aggOf ?_) | (refine OR.cellsOf ?_) | (exact AR.same _ rfl) | (exact trivial) | (refine amb_no ?_ ?_; (· exact Nat.succ_ne_zero _); (conv => whnf)) | (refine And.intro ?_ ?_; (· (first | decide | omega | (simp only [IntKind.wrap_i64]; omega) | (simp only [List.length_append]; omega) | (simp only [IntKind.wrap_i64, List.length_append]; omega) | (simp only [IntKind.wrap_i64, List.length_append, Int.natCast_add]; omega) | exact keepP_same _ _ _ | (repeat (first | exact trivial | refine And.intro rfl ?_)))); (conv => whnf)) | (refine fun (nc : Nat) (hnc : _ ≤ nc) => ?_; (conv => whnf)) | (refine bif2_true ?_ ?_; (· assumption); (conv => whnf)) | (refine bif2_false ?_ ?_; (· assumption); (conv => whnf)) | (refine bif2_split (fun h => ?_) (fun h => ?_) <;> (conv => whnf)))
  all_goals exact ⟨rfl, rfl⟩
theorem findB_no {I : Nat → Int} {T : List Tm} {id : Int} {row : List Bt} (hr : row = allG (btj I T) 16) (hl : row.length ≤ 16) (hB : BOk T) (h : lookT id T = none) : Ct Try.prog 31 none [.rows (flatR encB row) row.length, .v (i64 id)] (fun rs _ => rs = [.v (i64 (-1))]) := by
  subst hr
  refine (findB_ct _ id (by omega)).mono ?_
  rintro rs R (⟨_, h1⟩ | ⟨k, h1, h2, _⟩)
  · exact h1
  · obtain ⟨u, h3, _⟩ := (find_all (I := I) hB).2 k h1 h2
    rw [h] at h3; cases h3
theorem findB_at {I : Nat → Int} {T : List Tm} {id u : Int} {row : List Bt} (hr : row = allG (btj I T) 16) (hl : row.length ≤ 16) (hB : BOk T) (h : lookT id T = some u) :
    ∃ k : Nat, k < row.length ∧ nth row k = (id, I id.toNat, u) ∧ Ct Try.prog 31 none [.rows (flatR encB row) row.length, .v (i64 id)] (fun rs _ => rs = [.v (i64 k)]) := by
  subst hr
  have h4 := hB _ (lookT_some h)
  have e2 : ((id.toNat : Nat) : Int) = id := by omega
  have hm : (id, I id.toNat, u) ∈ allG (btj I T) 16 := mem_allG.2 ⟨id.toNat, u, by omega, by rw [e2]; exact h, by rw [e2]⟩
  obtain ⟨j, hj, e⟩ := List.mem_iff_getElem.1 hm
  have he : nth (allG (btj I T) 16) j = (id, I id.toNat, u) := by simp [nth, hj, e]
  refine ⟨j, hj, he, (findB_ct _ id (by omega)).mono ?_⟩
  rintro rs R (⟨h1, _⟩ | ⟨k, h1, h2, h3⟩)
  · exact absurd rfl (h1 _ hm)
  · have : k = j := by
      rcases Nat.lt_trichotomy k j with h5 | h5 | h5
      · have := nth_lt (allG_sorted I T 16) h5 hj; rw [h2, he] at this; exact absurd this (Int.lt_irrefl _)
      · exact h5
      · have := nth_lt (allG_sorted I T 16) h5 h1; rw [h2, he] at this; exact absurd this (Int.lt_irrefl _)
    subst this; exact h3
theorem withB_as {I : Nat → Int} {T : List Tm} {id : Int} {row r2 : List Bt} (hr : row = allG (btj I T) 16) (hl : row.length ≤ 16) (h : allG (btj I (dropT id T)) 16 = r2) : Ct Try.prog 44 none [.rows (flatR encB row) row.length, .v (i64 id)] (fun rs _ => rs = [.rows (flatR encB r2) r2.length]) := by
  subst hr; subst h
  rw [← woB_all]
  exact withB_ct _ id (by omega)
end Go.Proofs.Ytliaoaejmmkkjaa

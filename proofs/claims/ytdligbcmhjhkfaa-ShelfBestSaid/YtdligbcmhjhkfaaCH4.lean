/- A shelf and the choice: the same nodes. -/
import Derived.Test.YtdligbcmhjhkfaaCH3
import Derived.Test.YtdligbcmhjhkfaaSB2
import Derived.Test.YtdligbcmhjhkfaaGg

namespace Go.Proofs.Ytdligbcmhjhkfaa
open Go Go.Proofs Go.Sort
theorem ahN_iff {a b : ND} : ahN a b = true ↔ a.ld < b.ld ∨ (a.ld = b.ld ∧ a.id < b.id) := by simp [ahN, nodeLB]
theorem least_mem : ∀ {F : List ND}, F ≠ [] → leastL F ∈ F := by
  intro F h
  cases F with
  | nil => exact absurd rfl h
  | cons x r =>
    have key : ∀ (r : List ND) (b : ND), r.foldl (fun b y => if ahN y b then y else b) b = b ∨ r.foldl (fun b y => if ahN y b then y else b) b ∈ r := by
      intro r
      induction r with
      | nil => intro b; exact Or.inl rfl
      | cons y r ih =>
        intro b
        simp only [List.foldl_cons]
        rcases ih (if ahN y b then y else b) with h1 | h1
        · rw [h1]
          by_cases hy : ahN y b = true
          · rw [if_pos hy]; exact Or.inr (by simp)
          · rw [if_neg hy]; exact Or.inl rfl
        · exact Or.inr (List.mem_cons_of_mem _ h1)
    rcases key r x with h1 | h1
    · simp only [leastL]; rw [h1]; simp
    · exact List.mem_cons_of_mem _ h1
theorem least_min {F : List ND} {n : ND} (hn : n ∈ F) : ahN n (leastL F) = false := by
  cases F with
  | nil => cases hn
  | cons x r =>
    have key : ∀ (r : List ND) (b : ND), (ahN b (r.foldl (fun b y => if ahN y b then y else b) b) = false) ∧ ∀ n ∈ r, ahN n (r.foldl (fun b y => if ahN y b then y else b) b) = false := by
      intro r
      induction r with
      | nil => intro b; exact ⟨by rw [← Bool.not_eq_true, List.foldl_nil, ahN_iff]; omega, fun n h => by cases h⟩
      | cons y r ih =>
        intro b
        simp only [List.foldl_cons]
        obtain ⟨i1, i2⟩ := ih (if ahN y b then y else b)
        generalize r.foldl (fun b y => if ahN y b then y else b) (if ahN y b then y else b) = z at *
        by_cases hy : ahN y b = true
        · rw [if_pos hy] at i1
          rw [← Bool.not_eq_true, ahN_iff] at i1 ⊢
          have hy' := ahN_iff.1 hy
          refine ⟨by omega, fun n hn => ?_⟩
          rcases List.mem_cons.1 hn with rfl | hn
          · rw [← Bool.not_eq_true, ahN_iff]; omega
          · exact i2 n hn
        · rw [if_neg hy] at i1
          refine ⟨i1, fun n hn => ?_⟩
          rcases List.mem_cons.1 hn with rfl | hn
          · rw [ahN_iff] at hy
            rw [← Bool.not_eq_true, ahN_iff] at i1 ⊢
            omega
          · exact i2 n hn
    obtain ⟨k1, k2⟩ := key r x
    rcases List.mem_cons.1 hn with rfl | hn
    · exact k1
    · exact k2 n hn
theorem encN_one (x : ND) : oneL (encN x) = true := rfl
set_option maxRecDepth 100000 in
set_option maxHeartbeats 40000000 in
theorem chAll_ct (x y z : Int) (l : List ND) (h40 : l.length ≤ 60) : Ct Try.prog 51 none [.v (r3 x y z), .rows (flatR encN l) l.length] (fun rs _ => ∃ S jk : List ND, SortedL ltN S ∧ Same ltN (l.filter (tkN x y z)) S ∧ rs = [.own (flatR encN (S ++ jk)) S.length (S ++ jk).length 87]) := by
  refine Ct.of_body tt_ok mixed Try.func51 rfl (Nat.le_of_ble_eq_true rfl) ?_
  intro w b F hrec
  refine ⟨⟨fun _ => none, fun _ => none⟩, [], ⟨rfl, rfl⟩, ?_⟩
  intro off c m t fz hc
  have hL : (l.filter (tkN x y z)).length ≤ 60 := Nat.le_trans (List.length_filter_le _ _) h40
  (conv => whnf)
  repeat (first | ((refine CallG.fn (takers_ct x y z l (by omega)) pl65 false (.cons (.v rfl) (.cons (GA.win encN_len (fun _ => rfl) rfl hc) .nil)) ?_; rintro _ ⟨jk, rfl⟩; refine And.intro (fun h => nomatch h) ?_); (conv => whnf)) | (refine @And.intro (chkAll _ = true) _ ?_ ?_; (· kernel_rfl); (conv => whnf)) | (refine JoinG.direct ?_; (conv => whnf)) | (refine AppG.mk ?_; (conv => whnf)) | (refine And.intro ?_ ?_; (· (first | decide | omega | (simp only [IntKind.wrap_i64]; omega) | (simp only [List.length_append]; omega) | (simp only [IntKind.wrap_i64, List.length_append]; omega) | (simp only [IntKind.wrap_i64, List.length_append, Int.natCast_add]; omega) | exact keepP_same _ _ _ | (repeat (first | exact trivial | refine And.intro rfl ?_)))); (conv => whnf)))
  generalize l.filter (tkN x y z) = L at *
  rcases Nat.eq_zero_or_pos L.length with h0 | h0
  · obtain rfl := List.eq_nil_of_length_eq_zero h0
    have hz : ([] : List ND).length = 0 := rfl
    repeat' (first | (refine CallG.body tt_ok mixed Try.func67 (by kernel_rfl) rfl (Nat.le_of_ble_eq_true rfl) ?_; (conv => whnf)) | (refine CallG.body tt_ok mixed Try.func79 (by kernel_rfl) rfl (Nat.le_of_ble_eq_true rfl) ?_; (conv => whnf)) | (refine CallG.body tt_ok mixed Try.func92 (by kernel_rfl) rfl (Nat.le_of_ble_eq_true rfl) ?_; (conv => whnf)) | (refine LoopG.unroll 2 ?_; (conv => whnf)) | (refine @And.intro (chkAll _ = true) _ ?_ ?_; (· kernel_rfl); (conv => whnf)) | (refine JoinG.direct ?_; (conv => whnf)) | (refine AppG.mk ?_; (conv => whnf)) | (refine both_intro ?_ ?_ <;> (conv => whnf)) | (exact VR.int _ _) | (exact VR.bool _) | (refine VR.ptr ?_; kernel_rfl) | (refine VR.slice ?_; kernel_rfl) | (exact VR.sliceN _ _) | (refine VR.map ?_; kernel_rfl) | (exact VR.clean _ rfl) | (refine VR.aggOf ?_) | (exact OR.win (flatR_clean (fun _ => rfl) _)) | (exact OR.clean rfl (flatR_clean (fun _ => rfl) _)) | (refine OR.cellsOf ?_) | (exact AR.same _ rfl) | (refine AR.consOf ?_ ?_) | (exact trivial) | (exact VR.sliceZ _ _ _) | (refine GR.rw ?_) | (refine GR.ro ?_) | (exact GR.abs rfl) | (exact idle_rw _) | (exact idle_ro _) | (refine VR.intOf ?_; (· first | rfl | (simp only [IntKind.wrap_i64]; omega) | (simp; done) | (simp; omega))) |  (refine And.intro ?_ ?_; (· (first | decide | omega | (simp only [IntKind.wrap_i64]; omega) | (simp only [List.length_append]; omega) | (simp only [IntKind.wrap_i64, List.length_append]; omega) | (simp only [IntKind.wrap_i64, List.length_append, Int.natCast_add]; omega) | exact keepP_same _ _ _ | (repeat (first | exact trivial | refine And.intro rfl ?_)))); (conv => whnf)) | (refine fun (nc : Nat) (hnc : _ ≤ nc) => ?_; (conv => whnf)) | (refine bif2_true ?_ ?_; (· assumption); (conv => whnf)) | (refine bif2_false ?_ ?_; (· assumption); (conv => whnf)) | (refine bif2_true ?_ ?_; (· first | assumption | (refine decide_eq_true ?_; omega) | (refine decide_eq_false ?_; omega) | (refine beq_t ?_; omega) | (refine beq_f ?_; omega) | (refine bne_t ?_; omega) | (refine bne_f ?_; omega) | (refine ble_t ?_; omega) | (refine ble_f ?_; omega) | (simp [*]; done)); (conv => whnf)) | (refine bif2_false ?_ ?_; (· first | assumption | (refine decide_eq_true ?_; omega) | (refine decide_eq_false ?_; omega) | (refine beq_t ?_; omega) | (refine beq_f ?_; omega) | (refine bne_t ?_; omega) | (refine bne_f ?_; omega) | (refine ble_t ?_; omega) | (refine ble_f ?_; omega) | (simp [*]; done)); (conv => whnf)) | (refine bif2_not ?_; (conv => whnf)) | (refine amb_no ?_ ?_; (· first | exact Nat.succ_ne_zero _ | omega); (conv => whnf)) | (refine And.intro ?_ (fun (hc0 : _ = 0) => ?_) <;> (conv => whnf)) | (refine bif2_ble (fun h => ?_) (fun h => ?_) <;> (conv => whnf)) | (refine bif2_dec (fun h => ?_) (fun h => ?_) <;> (conv => whnf)) | (refine bif2_beq (fun h => ?_) (fun h => ?_) <;> (conv => whnf)) | (refine bif2_bne (fun h => ?_) (fun h => ?_) <;> (conv => whnf)) | (refine bif2_split (fun h => ?_) (fun h => ?_) <;> (conv => whnf)))
    exact Fin.mk [_] none [_] [] rfl (.own rfl rfl (flatR_clean (fun _ => rfl) _) .nil) rfl ⟨[], jk, sorted_nil, Same.refl _, rfl⟩
  · repeat' (first | (refine CallG.body tt_ok mixed Try.func67 (by kernel_rfl) rfl (Nat.le_of_ble_eq_true rfl) ?_; (conv => whnf)) | ((refine CallG.row (stab60_ct L jk _ hL (by rw [List.length_append]; omega)) pl79 encN_cl rfl (by rw [List.length_append]; omega) (.cons ⟨rfl, rfl⟩ (.cons ⟨rfl, rfl⟩ .nil)) ?_; rintro _ ⟨S, hS, hM, rfl⟩); (conv => whnf)) | (refine @And.intro (chkAll _ = true) _ ?_ ?_; (· kernel_rfl); (conv => whnf)) | (refine JoinG.direct ?_; (conv => whnf)) | (refine AppG.mk ?_; (conv => whnf)) | (refine both_intro ?_ ?_ <;> (conv => whnf)) | (exact VR.int _ _) | (exact VR.bool _) | (refine VR.ptr ?_; kernel_rfl) | (refine VR.slice ?_; kernel_rfl) | (exact VR.sliceN _ _) | (refine VR.map ?_; kernel_rfl) | (exact VR.clean _ rfl) | (refine VR.aggOf ?_) | (exact OR.win (flatR_clean (fun _ => rfl) _)) | (exact OR.clean rfl (flatR_clean (fun _ => rfl) _)) | (refine OR.cellsOf ?_) | (exact AR.same _ rfl) | (refine AR.consOf ?_ ?_) | (exact trivial) | (exact VR.sliceZ _ _ _) | (refine GR.rw ?_) | (refine GR.ro ?_) | (exact GR.abs rfl) | (exact idle_rw _) | (exact idle_ro _) | (refine VR.intOf ?_; (· first | rfl | (simp only [IntKind.wrap_i64]; omega) | (simp; done) | (simp; omega))) |  (refine And.intro ?_ ?_; (· (first | decide | omega | (simp only [IntKind.wrap_i64]; omega) | (simp only [List.length_append]; omega) | (simp only [IntKind.wrap_i64, List.length_append]; omega) | (simp only [IntKind.wrap_i64, List.length_append, Int.natCast_add]; omega) | exact keepP_same _ _ _ | (repeat (first | exact trivial | refine And.intro rfl ?_)))); (conv => whnf)) | (refine fun (nc : Nat) (hnc : _ ≤ nc) => ?_; (conv => whnf)) | (refine bif2_true ?_ ?_; (· assumption); (conv => whnf)) | (refine bif2_false ?_ ?_; (· assumption); (conv => whnf)) | (refine bif2_true ?_ ?_; (· first | assumption | (refine decide_eq_true ?_; omega) | (refine decide_eq_false ?_; omega) | (refine beq_t ?_; omega) | (refine beq_f ?_; omega) | (refine bne_t ?_; omega) | (refine bne_f ?_; omega) | (refine ble_t ?_; omega) | (refine ble_f ?_; omega)); (conv => whnf)) | (refine bif2_false ?_ ?_; (· first | assumption | (refine decide_eq_true ?_; omega) | (refine decide_eq_false ?_; omega) | (refine beq_t ?_; omega) | (refine beq_f ?_; omega) | (refine bne_t ?_; omega) | (refine bne_f ?_; omega) | (refine ble_t ?_; omega) | (refine ble_f ?_; omega)); (conv => whnf)) | (refine bif2_not ?_; (conv => whnf)) | (refine amb_no ?_ ?_; (· first | exact Nat.succ_ne_zero _ | omega); (conv => whnf)) | (refine And.intro ?_ (fun (hc0 : _ = 0) => ?_) <;> (conv => whnf)) | (refine bif2_ble (fun h => ?_) (fun h => ?_) <;> (conv => whnf)) | (refine bif2_dec (fun h => ?_) (fun h => ?_) <;> (conv => whnf)) | (refine bif2_beq (fun h => ?_) (fun h => ?_) <;> (conv => whnf)) | (refine bif2_bne (fun h => ?_) (fun h => ?_) <;> (conv => whnf)) | (refine bif2_split (fun h => ?_) (fun h => ?_) <;> (conv => whnf)))
    have e1 : L.length = S.length := hM.1.symm
    have e2 : (L ++ jk).length = (S ++ jk).length := by rw [List.length_append, List.length_append, e1]
    exact Fin.mk [.own (flatR encN (S ++ jk)) L.length (L ++ jk).length 87] none [_] [] rfl (.own rfl rfl (flatR_clean (fun _ => rfl) _) .nil) rfl ⟨S, jk, hS, hM, by rw [e2, e1]⟩
theorem same_permN {L L' : List ND} (h : Same ltN L L') : L'.Perm L := by
  classical
  rw [List.perm_iff_count]
  intro a
  have h1 := h.2 a
  have e : eqv ltN a a = true := by unfold eqv; rw [swoN.irrefl]; rfl
  rw [← List.count_filter (l := L') e, ← List.count_filter (l := L) e, h1]
def thN (n : ND) : Th := ⟨n.id, n.ld, n.id, 0⟩
abbrev thsN (l : List ND) : List Th := l.map thN
def IdsN (l : List ND) : Prop := (l.map ND.id).Nodup
theorem leN_iff {a b : ND} : leT (thN a) (thN b) ↔ ltN b a = false := by
  rw [leT_iff, ltN_no]
  simp only [thN]
  omega
theorem soN_of {S : List ND} (h : SortedL ltN S) : (thsN S).Pairwise leT := by
  refine List.pairwise_map.2 (List.Pairwise.imp ?_ h)
  intro a b h1
  exact leN_iff.2 h1
def restN (a : Int) (l : List ND) : List ND := l.filter fun n => n.id != a
theorem dropT_thsN (a : Int) (l : List ND) : dropT a (thsN l) = thsN (restN a l) := by
  unfold dropT restN thsN
  rw [List.filter_map]
  rfl
theorem filt_comm (p q : ND → Bool) (l : List ND) : (l.filter p).filter q = (l.filter q).filter p := by
  rw [List.filter_filter, List.filter_filter]
  congr 1
  funext x
  exact Bool.and_comm _ _
theorem putS_ths (a b c : Int) (n : ND) (l : List ND) : (putS a b c n (thsN (l.filter (tkN a b c)))).Perm (thsN ((restN n.id l ++ [n]).filter (tkN a b c))) := by
  unfold putS
  rw [dropT_thsN]
  have e : restN n.id (l.filter (tkN a b c)) = (restN n.id l).filter (tkN a b c) := filt_comm _ _ _
  rw [e, List.filter_append]
  cases h : tkN a b c n with
  | true =>
    simp only [if_true, List.filter_cons, h, List.filter_nil, thsN, List.map_append, List.map_cons, List.map_nil]
    exact (List.perm_append_singleton _ _).symm
  | false =>
    simp only [Bool.false_eq_true, if_false, List.filter_cons, h, List.filter_nil, List.append_nil]
    exact .refl _
theorem IdsN.rest {l : List ND} (h : IdsN l) (n : ND) : IdsN (restN n.id l ++ [n]) := by
  unfold IdsN
  rw [List.map_append, List.nodup_append]
  refine ⟨List.Pairwise.sublist (List.Sublist.map _ List.filter_sublist) h, by simp, ?_⟩
  intro x hx y hy
  obtain ⟨z, hz, rfl⟩ := List.mem_map.1 hx
  simp at hy
  subst hy
  have := (List.mem_filter.1 hz).2
  simpa using this
theorem rest_take {A : List ND} {id : Int} {k : Nat} (hk : k < A.length) : restN id (A.take (k + 1)) = restN id (A.take k) ++ (if (nth A k).id = id then [] else [nth A k]) := by
  rw [List.take_succ_eq_append_getElem hk]
  have : nth A k = A[k] := by simp [nth, hk]
  rw [this]
  unfold restN
  rw [List.filter_append]
  congr 1
  by_cases e : A[k].id = id <;> simp [e]
theorem best_nil2 (a b c : Int) {L : List ND} (h : L.filter (tkN a b c) = []) (hl : L.length ≤ 1000) : Ct Try.prog 50 none [.v (r3 a b c), .rows (flatR encN L) L.length] (fun rs _ => rs = [.v (ndV default), .v (.bool false)]) := by
  have := best_ct a b c L hl
  rw [h] at this
  exact this
theorem best_some (a b c : Int) {L T : List ND} (h : L.filter (tkN a b c) = T) (hT : 0 < T.length) (hl : L.length ≤ 1000) : Ct Try.prog 50 none [.v (r3 a b c), .rows (flatR encN L) L.length] (fun rs _ => rs = [.v (ndV (leastL T)), .v (.bool true)]) := by
  have := best_ct a b c L hl
  rw [h, decide_eq_true hT] at this
  exact this
theorem best_none (a b c : Int) : Ct Try.prog 46 (some (shR a b c [])) [] (fun rs R' => rs = [.v (i64 0), .v (.bool false)] ∧ R' = some (shR a b c [])) := by
  refine (shBest_ct a b c []).mono ?_
  rintro rs R' ⟨⟨_, h⟩ | ⟨m, hm, _⟩, hR⟩
  · exact ⟨h, hR⟩
  · cases hm
theorem best_least (a b c : Int) {T : List ND} (hT : T ≠ []) : Ct Try.prog 46 (some (shR a b c (thsN T))) [] (fun rs R' => rs = [.v (i64 (leastL T).id), .v (.bool true)] ∧ R' = some (shR a b c (thsN T))) := by
  refine (shBest_ct a b c _).mono ?_
  rintro rs R' ⟨⟨h0, _⟩ | ⟨m, hm, hmin, h⟩, hR⟩
  · exact absurd (List.map_eq_nil_iff.1 h0) hT
  · have hl := least_mem hT
    have h1 : leT m (thN (leastL T)) := hmin _ (List.mem_map_of_mem hl)
    obtain ⟨n, hn, rfl⟩ := List.mem_map.1 hm
    have h2 : leT (thN (leastL T)) (thN n) := by
      rw [leN_iff]
      have := least_min hn
      rw [← Bool.not_eq_true, ahN_iff] at this
      rw [ltN_no]; exact this
    have := congrArg Th.id (le_antisymm_id h1 h2)
    have e : n.id = (leastL T).id := this
    exact ⟨by rw [h]; show [AV.v (i64 n.id), _] = _; rw [e], hR⟩
theorem nodes_as (a b c : Int) {T S : List ND} (hT : T.length ≤ 1000) (hS : Same ltN T S) (hs : SortedL ltN S) : Ct Try.prog 48 (some (shR a b c (thsN T))) [] (fun rs R' => (∃ jk : List Int, rs = [.own (flatR encI (S.map ND.id ++ jk)) S.length (S.map ND.id ++ jk).length 3]) ∧ R' = some (shR a b c (thsN T))) := by
  have := shNodes_ct a b c (thsN T) (thsN S) (by simpa using hT) ((same_permN hS).map thN) (soN_of hs)
  refine this.mono ?_
  rintro rs R' ⟨⟨jk, h⟩, hR⟩
  refine ⟨⟨jk, ?_⟩, hR⟩
  have e : idsT (thsN S) = S.map ND.id := by
    unfold idsT thsN
    rw [List.map_map]; rfl
  rw [h, e, List.length_map]
theorem has_as (a b c : Int) {T : List ND} {n : ND} (hn : n ∈ T) : Ct Try.prog 47 (some (shR a b c (thsN T))) [.v (i64 n.id)] (fun rs R' => rs = [.v (.bool true)] ∧ R' = some (shR a b c (thsN T))) := by
  have := shHas_ct a b c (thsN T) n.id
  have e : hasT n.id (thsN T) = true := hasT_t (List.mem_map_of_mem hn : thN n ∈ thsN T) rfl
  rw [e] at this
  exact this
theorem putS_len (a b c : Int) (n : ND) (s : List Th) : (putS a b c n s).length ≤ s.length + 1 := by
  have h : (dropT n.id s).length ≤ s.length := List.length_filter_le _ _
  unfold putS
  split
  · simp only [List.length_cons]; omega
  · omega
theorem put_now (a b c : Int) (now : List ND) (n : ND) (hs : now.length ≤ 1000) : Ct Try.prog 44 (some (shR a b c (thsN (now.filter (tkN a b c))))) [.v (ndV n)] (fun rs R' => rs = [.v (.bool (tkN a b c n))] ∧ R' = some (shR a b c (thsN ((restN n.id now ++ [n]).filter (tkN a b c))))) := by
  have hl : (thsN (now.filter (tkN a b c))).length ≤ now.length := by rw [List.length_map]; exact List.length_filter_le _ _
  refine (shPut_ct a b c _ n (by omega)).mono ?_
  rintro rs R' ⟨h1, h2⟩
  refine ⟨h1, h2.trans (congrArg some ?_)⟩
  exact HeapR.perm (putS_ths a b c n now)
end Go.Proofs.Ytdligbcmhjhkfaa

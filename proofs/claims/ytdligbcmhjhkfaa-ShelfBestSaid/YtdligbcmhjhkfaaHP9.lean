/- Heaps: what is on top, what is there; rows that are the same. -/
import Derived.Test.YtdligbcmhjhkfaaHP8

namespace Go.Proofs.Ytdligbcmhjhkfaa
open Go.RowKit
theorem pl16 : Plain Try.prog 16 := Plain.of Try.func16 (by kernel_rfl) rfl
theorem pl26 : Plain Try.prog 26 := Plain.of Try.func26 (by kernel_rfl) rfl
theorem pl10 : Plain Try.prog 10 := Plain.of Try.func10 (by kernel_rfl) rfl
theorem pl5 : Plain Try.prog 5 := Plain.of Try.func5 (by kernel_rfl) rfl
theorem pl3 : Plain Try.prog 3 := Plain.of Try.func3 (by kernel_rfl) rfl
theorem pl4 : Plain Try.prog 4 := Plain.of Try.func4 (by kernel_rfl) rfl
theorem pl20 : Plain Try.prog 20 := Plain.of Try.func20 (by kernel_rfl) rfl
theorem pl21 : Plain Try.prog 21 := Plain.of Try.func21 (by kernel_rfl) rfl
theorem pl22 : Plain Try.prog 22 := Plain.of Try.func22 (by kernel_rfl) rfl
theorem pl25 : Plain Try.prog 25 := Plain.of Try.func25 (by kernel_rfl) rfl
/-- a row of things, each of its own number -/
def IdsOk (s : List Th) : Prop := (s.map Th.id).Nodup
theorem IdsOk.eq {s : List Th} (h : IdsOk s) {x y : Th} (hx : x ∈ s) (hy : y ∈ s) (e : x.id = y.id) : x = y := by
  induction s with
  | nil => cases hx
  | cons z s ih =>
    simp only [IdsOk, List.map_cons, List.nodup_cons] at h
    rcases List.mem_cons.1 hx with rfl | hx'
    · rcases List.mem_cons.1 hy with rfl | hy'
      · rfl
      · exact absurd (e ▸ List.mem_map_of_mem hy') h.1
    · rcases List.mem_cons.1 hy with rfl | hy'
      · exact absurd (e ▸ List.mem_map_of_mem hx') h.1
      · exact ih h.2 hx' hy'
theorem mem_dropT {a : Int} {s : List Th} {y : Th} : y ∈ dropT a s ↔ y ∈ s ∧ y.id ≠ a := by simp [dropT]
theorem IdsOk.drop {s : List Th} (h : IdsOk s) (a : Int) : IdsOk (dropT a s) := List.Pairwise.sublist (List.Sublist.map _ List.filter_sublist) h
theorem IdsOk.put {s : List Th} (h : IdsOk s) (x : Th) : IdsOk (x :: dropT x.id s) := by
  simp only [IdsOk, List.map_cons, List.nodup_cons]
  refine ⟨fun hm => ?_, h.drop _⟩
  obtain ⟨y, hy, e⟩ := List.mem_map.1 hm
  exact (mem_dropT.1 hy).2 e
theorem hasT_iff {a : Int} {s : List Th} : hasT a s = true ↔ ∃ y ∈ s, y.id = a := by simp [hasT]
theorem hasT_drop (a : Int) (s : List Th) : hasT a (dropT a s) = false := hasT_f fun y hy => (mem_dropT.1 hy).2
theorem len_drop {s : List Th} (h : IdsOk s) (a : Int) : (dropT a s).length + (if hasT a s then 1 else 0) = s.length := by
  induction s with
  | nil => rfl
  | cons x s ih =>
    simp only [IdsOk, List.map_cons, List.nodup_cons] at h
    have ih := ih h.2
    by_cases e : x.id = a
    · have h1 : dropT a (x :: s) = dropT a s := by simp [dropT, e]
      have h2 : hasT a (x :: s) = true := hasT_t (List.mem_cons_self) e
      have h3 : hasT a s = false := hasT_f fun y hy e2 => h.1 (by rw [e, ← e2]; exact List.mem_map_of_mem hy)
      rw [h1, h2]
      rw [h3] at ih
      simp at ih ⊢; omega
    · have h1 : dropT a (x :: s) = x :: dropT a s := by simp [dropT, e]
      have h2 : hasT a (x :: s) = hasT a s := by simp [hasT, e]
      rw [h1, h2]
      simp only [List.length_cons]; omega
theorem len_put {s : List Th} (h : IdsOk s) (x : Th) : (x :: dropT x.id s).length = s.length + (if hasT x.id s then 0 else 1) := by
  have := len_drop h x.id
  simp only [List.length_cons]
  split <;> split at this <;> simp_all
theorem exists_min : ∀ {s : List Th}, s ≠ [] → ∃ m, m ∈ s ∧ ∀ y ∈ s, leT m y := by
  intro s
  induction s with
  | nil => intro h; exact absurd rfl h
  | cons x s ih =>
    intro _
    by_cases hs : s = []
    · subst hs; exact ⟨x, by simp, fun y hy => by rw [List.mem_singleton.1 hy]; exact le_refl' _⟩
    · obtain ⟨m, h1, h2⟩ := ih hs
      rcases le_total' x m with h | h
      · exact ⟨x, by simp, fun y hy => by rcases List.mem_cons.1 hy with rfl | hy; exact le_refl' _; exact leT_trans h (h2 y hy)⟩
      · exact ⟨m, by simp [h1], fun y hy => by rcases List.mem_cons.1 hy with rfl | hy; exact h; exact h2 y hy⟩
section
variable (t : TypeId) (rest : List Value)
theorem top_in {s : List Th} {m : Th} (hm : m ∈ s) (hmin : ∀ y ∈ s, leT m y) : Ct Try.prog 23 (some (HeapR t rest s)) [] (fun rs R' => rs = [.v (i64 m.id), .v (k3 m.k0 m.k1 m.k2), .v (.bool true)] ∧ R' = some (HeapR t rest s)) := by
  refine (top_ct t rest s).mono ?_
  rintro rs R' ⟨⟨h1, _⟩ | ⟨m', h1, h2, h3⟩, hR⟩
  · subst h1; cases hm
  · obtain rfl := le_antisymm_id (h2 m hm) (hmin m' h1)
    exact ⟨h3, hR⟩
theorem top_nil : Ct Try.prog 23 (some (HeapR t rest [])) [] (fun rs R' => rs = [.v (i64 0), .v k0V, .v (.bool false)] ∧ R' = some (HeapR t rest [])) := by
  refine (top_ct t rest []).mono ?_
  rintro rs R' ⟨⟨_, h1⟩ | ⟨m', h1, _⟩, hR⟩
  · exact ⟨h1, hR⟩
  · cases h1
theorem take_in {s : List Th} {m : Th} (hs : s.length ≤ 1000000) (hm : m ∈ s) (hmin : ∀ y ∈ s, leT m y) : Ct Try.prog 24 (some (HeapR t rest s)) [] (fun rs R' => rs = [.v (i64 m.id), .v (k3 m.k0 m.k1 m.k2), .v (.bool true)] ∧ R' = some (HeapR t rest (dropT m.id s))) := by
  refine (take_ct t rest s hs).mono ?_
  rintro rs R' (⟨h1, _⟩ | ⟨m', h1, h2, h3, hR⟩)
  · subst h1; cases hm
  · obtain rfl := le_antisymm_id (h2 m hm) (hmin m' h1)
    exact ⟨h3, hR⟩
theorem take_nil : Ct Try.prog 24 (some (HeapR t rest [])) [] (fun rs R' => rs = [.v (i64 0), .v k0V, .v (.bool false)] ∧ R' = some (HeapR t rest [])) := by
  refine (take_ct t rest [] (by simp)).mono ?_
  rintro rs R' (⟨_, h1, hR⟩ | ⟨m', h1, _⟩)
  · exact ⟨h1, hR⟩
  · cases h1
theorem key_in {s : List Th} {y : Th} (hi : IdsOk s) (hy : y ∈ s) : Ct Try.prog 15 (some (HeapR t rest s)) [.v (i64 y.id)] (fun rs R' => rs = [.v (k3 y.k0 y.k1 y.k2), .v (.bool true)] ∧ R' = some (HeapR t rest s)) := by
  refine (key_ct t rest s y.id).mono ?_
  rintro rs R' ⟨⟨h1, _⟩ | ⟨y', h1, h2, h3⟩, hR⟩
  · rw [hasT_t hy rfl] at h1; cases h1
  · obtain rfl := hi.eq h1 hy h2
    exact ⟨h3, hR⟩
theorem key_out {s : List Th} {a : Int} (h : hasT a s = false) : Ct Try.prog 15 (some (HeapR t rest s)) [.v (i64 a)] (fun rs R' => rs = [.v k0V, .v (.bool false)] ∧ R' = some (HeapR t rest s)) := by
  refine (key_ct t rest s a).mono ?_
  rintro rs R' ⟨⟨_, h1⟩ | ⟨y', h1, h2, h3⟩, hR⟩
  · exact ⟨h1, hR⟩
  · rw [hasT_t h1 h2] at h; cases h
end
theorem sorted_perm : ∀ {A B : List Th}, A.Perm B → A.Pairwise leT → B.Pairwise leT → A = B := by
  intro A B hp
  intro ha hb
  refine List.Perm.eq_of_pairwise ?_ ha hb hp
  intro a b _ _ h1 h2
  exact le_antisymm_id h1 h2
theorem nth_ext {a b : List Int} (hl : a.length = b.length) (h : ∀ j, j < a.length → nth a j = nth b j) : a = b := by
  apply List.ext_getElem hl
  intro i h1 h2
  have := h i h1
  simpa [nth, h1, h2] using this
structure SmI (a b : List Int) where
  k : Nat
  h1 : k ≤ a.length
  h2 : ∀ j, j < k → nth a j = nth b j
set_option maxRecDepth 100000 in
set_option maxHeartbeats 40000000 in
theorem same_ct (a b : List Int) (ha : a.length ≤ 1000000) : Ct Try.prog 16 none [.rows (flatR encI a) a.length, .rows (flatR encI b) b.length] (fun rs _ => rs = [.v (.bool (decide (a = b)))]) := by
  refine Ct.of_body tt_ok mixed Try.func16 rfl (Nat.le_of_ble_eq_true rfl) ?_
  intro w q F hrec
  refine ⟨⟨fun _ => none, fun _ => none⟩, [], ⟨rfl, rfl⟩, ?_⟩
  intro off c m t fz hc off2 c2 m2 t2 fz2 hc2
  by_cases hl : a.length = b.length
  · (conv => whnf)
    repeat' (first | (refine @And.intro (chkAll _ = true) _ ?_ ?_; (· kernel_rfl); (conv => whnf)) | (refine JoinG.direct ?_; (conv => whnf)) | (refine AppG.mk ?_; (conv => whnf)) | (refine both_intro ?_ ?_ <;> (conv => whnf)) | (exact VR.int _ _) | (exact VR.bool _) | (refine VR.ptr ?_; kernel_rfl) | (refine VR.slice ?_; kernel_rfl) | (exact VR.sliceN _ _) | (refine VR.map ?_; kernel_rfl) | (exact VR.clean _ rfl) | (refine VR.aggOf ?_) | (exact OR.win (flatR_clean (fun _ => rfl) _)) | (exact OR.clean rfl (flatR_clean (fun _ => rfl) _)) | (refine OR.cellsOf ?_) | (exact AR.same _ rfl) | (refine AR.consOf ?_ ?_) | (exact trivial) | (exact VR.sliceZ _ _ _) | (refine GR.rw ?_) | (refine GR.ro ?_) | (exact GR.abs rfl) | (exact idle_rw _) | (exact idle_ro _) | (refine VR.intOf ?_; (· first | rfl | (simp only [IntKind.wrap_i64]; omega) | (simp; done) | (simp; omega))) |  (refine And.intro ?_ ?_; (· (first | decide | omega | (simp only [IntKind.wrap_i64]; omega) | (simp only [List.length_append]; omega) | (simp only [IntKind.wrap_i64, List.length_append]; omega) | (simp only [IntKind.wrap_i64, List.length_append, Int.natCast_add]; omega) | exact keepP_same _ _ _ | (repeat (first | exact trivial | refine And.intro rfl ?_)))); (conv => whnf)) | (refine fun (nc : Nat) (hnc : _ ≤ nc) => ?_; (conv => whnf)) | (refine bif2_true ?_ ?_; (· assumption); (conv => whnf)) | (refine bif2_false ?_ ?_; (· assumption); (conv => whnf)) | (refine bif2_true ?_ ?_; (· first | assumption | (refine decide_eq_true ?_; omega) | (refine decide_eq_false ?_; omega) | (refine beq_t ?_; omega) | (refine beq_f ?_; omega) | (refine bne_t ?_; omega) | (refine bne_f ?_; omega) | (refine ble_t ?_; omega) | (refine ble_f ?_; omega) | (simp [*]; done)); (conv => whnf)) | (refine bif2_false ?_ ?_; (· first | assumption | (refine decide_eq_true ?_; omega) | (refine decide_eq_false ?_; omega) | (refine beq_t ?_; omega) | (refine beq_f ?_; omega) | (refine bne_t ?_; omega) | (refine bne_f ?_; omega) | (refine ble_t ?_; omega) | (refine ble_f ?_; omega) | (simp [*]; done)); (conv => whnf)) | (refine bif2_not ?_; (conv => whnf)) | (refine amb_no ?_ ?_; (· first | exact Nat.succ_ne_zero _ | omega); (conv => whnf)) | (refine And.intro ?_ (fun (hc0 : _ = 0) => ?_) <;> (conv => whnf)) | (refine bif2_ble (fun h => ?_) (fun h => ?_) <;> (conv => whnf)) | (refine bif2_dec (fun h => ?_) (fun h => ?_) <;> (conv => whnf)) | (refine bif2_beq (fun h => ?_) (fun h => ?_) <;> (conv => whnf)) | (refine bif2_bne (fun h => ?_) (fun h => ?_) <;> (conv => whnf)) | (refine bif2_split (fun h => ?_) (fun h => ?_) <;> (conv => whnf)))
    refine LoopG.mk (ι := SmI a b) (fun i => ⟨[(5, i64 i.k), (0, .slice (some ⟨600, off, none⟩) a.length c), (1, .slice (some ⟨601, off2, none⟩) b.length c2)],
      [(600, .ro (.cells (win off (flatR encI a) m) t fz)), (601, .ro (.cells (win off2 (flatR encI b) m2) t2 fz2))], [1000, 1001, 1002, 1003, 1004, 1005, 1006, 1007, 1008, 1009, 1010, 1011, 1012, 1013, 1014, 1015, 1016, 1017, 1018, 1019, 1020, 1021, 1022, 1023, 1024, 1025, 1026, 1027, 1028, 1029, 1030, 1031, 1032, 1033, 1034, 1035, 1036, 1037, 1038, 1039, 1040, 1041, 1042, 1043, 1044, 1045, 1046, 1047, 1048, 1049, 1050, 1051, 1052, 1053, 1054, 1055, 1056, 1057, 1058, 1059, 1060, 1061, 1062, 1063, 1064, 1065, 1066, 1067, 1068, 1069, 1070, 1071, 1072, 1073, 1074, 1075, 1076, 1077, 1078, 1079, 1080, 1081, 1082, 1083, 1084, 1085, 1086, 1087, 1088, 1089, 1090, 1091, 1092, 1093, 1094, 1095, 1096, 1097, 1098, 1099, 1100, 1101, 1102, 1103, 1104, 1105, 1106, 1107, 1108, 1109, 1110, 1111, 1112, 1113, 1114, 1115, 1116, 1117, 1118, 1119]⟩) (fun i => a.length - i.k) ⟨0, Nat.zero_le _, fun j h => (by omega)⟩ ?_ ?_
    · refine Wk.auto [0, 1] [] (by kernel_rfl) ?_ ?_
      all_goals (conv => whnf)
      repeat' (first | (refine @And.intro (chkAll _ = true) _ ?_ ?_; (· kernel_rfl); (conv => whnf)) | (refine JoinG.direct ?_; (conv => whnf)) | (refine AppG.mk ?_; (conv => whnf)) | (refine both_intro ?_ ?_ <;> (conv => whnf)) | (exact VR.int _ _) | (exact VR.bool _) | (refine VR.ptr ?_; kernel_rfl) | (refine VR.slice ?_; kernel_rfl) | (exact VR.sliceN _ _) | (refine VR.map ?_; kernel_rfl) | (exact VR.clean _ rfl) | (refine VR.aggOf ?_) | (exact OR.win (flatR_clean (fun _ => rfl) _)) | (exact OR.clean rfl (flatR_clean (fun _ => rfl) _)) | (refine OR.cellsOf ?_) | (exact AR.same _ rfl) | (refine AR.consOf ?_ ?_) | (exact trivial) | (exact VR.sliceZ _ _ _) | (refine GR.rw ?_) | (refine GR.ro ?_) | (exact GR.abs rfl) | (exact idle_rw _) | (exact idle_ro _) | (refine VR.intOf ?_; (· first | rfl | (simp only [IntKind.wrap_i64]; omega) | (simp; done) | (simp; omega))) |  (refine And.intro ?_ ?_; (· (first | decide | omega | (simp only [IntKind.wrap_i64]; omega) | (simp only [List.length_append]; omega) | (simp only [IntKind.wrap_i64, List.length_append]; omega) | (simp only [IntKind.wrap_i64, List.length_append, Int.natCast_add]; omega) | exact keepP_same _ _ _ | (repeat (first | exact trivial | refine And.intro rfl ?_)))); (conv => whnf)) | (refine fun (nc : Nat) (hnc : _ ≤ nc) => ?_; (conv => whnf)) | (refine bif2_true ?_ ?_; (· assumption); (conv => whnf)) | (refine bif2_false ?_ ?_; (· assumption); (conv => whnf)) | (refine bif2_true ?_ ?_; (· first | assumption | (refine decide_eq_true ?_; omega) | (refine decide_eq_false ?_; omega) | (refine beq_t ?_; omega) | (refine beq_f ?_; omega) | (refine bne_t ?_; omega) | (refine bne_f ?_; omega) | (refine ble_t ?_; omega) | (refine ble_f ?_; omega) | (simp [*]; done)); (conv => whnf)) | (refine bif2_false ?_ ?_; (· first | assumption | (refine decide_eq_true ?_; omega) | (refine decide_eq_false ?_; omega) | (refine beq_t ?_; omega) | (refine beq_f ?_; omega) | (refine bne_t ?_; omega) | (refine bne_f ?_; omega) | (refine ble_t ?_; omega) | (refine ble_f ?_; omega) | (simp [*]; done)); (conv => whnf)) | (refine bif2_not ?_; (conv => whnf)) | (refine amb_no ?_ ?_; (· first | exact Nat.succ_ne_zero _ | omega); (conv => whnf)) | (refine And.intro ?_ (fun (hc0 : _ = 0) => ?_) <;> (conv => whnf)) | (refine bif2_ble (fun h => ?_) (fun h => ?_) <;> (conv => whnf)) | (refine bif2_dec (fun h => ?_) (fun h => ?_) <;> (conv => whnf)) | (refine bif2_beq (fun h => ?_) (fun h => ?_) <;> (conv => whnf)) | (refine bif2_bne (fun h => ?_) (fun h => ?_) <;> (conv => whnf)) | (refine bif2_split (fun h => ?_) (fun h => ?_) <;> (conv => whnf)))
    · rintro ⟨k, hk1, hk2⟩
      dsimp only
      (conv => whnf)
      repeat' (first | (refine rdK_intro (rdW0 encI_len (by omega) rfl) ?_; (conv => whnf)) | (refine @And.intro (chkAll _ = true) _ ?_ ?_; (· kernel_rfl); (conv => whnf)) | (refine JoinG.direct ?_; (conv => whnf)) | (refine AppG.mk ?_; (conv => whnf)) | (refine both_intro ?_ ?_ <;> (conv => whnf)) | (exact VR.int _ _) | (exact VR.bool _) | (refine VR.ptr ?_; kernel_rfl) | (refine VR.slice ?_; kernel_rfl) | (exact VR.sliceN _ _) | (refine VR.map ?_; kernel_rfl) | (exact VR.clean _ rfl) | (refine VR.aggOf ?_) | (exact OR.win (flatR_clean (fun _ => rfl) _)) | (exact OR.clean rfl (flatR_clean (fun _ => rfl) _)) | (refine OR.cellsOf ?_) | (exact AR.same _ rfl) | (refine AR.consOf ?_ ?_) | (exact trivial) | (exact VR.sliceZ _ _ _) | (refine GR.rw ?_) | (refine GR.ro ?_) | (exact GR.abs rfl) | (exact idle_rw _) | (exact idle_ro _) | (refine VR.intOf ?_; (· first | rfl | (simp only [IntKind.wrap_i64]; omega) | (simp; done) | (simp; omega))) |  (refine And.intro ?_ ?_; (· (first | decide | omega | (simp only [IntKind.wrap_i64]; omega) | (simp only [List.length_append]; omega) | (simp only [IntKind.wrap_i64, List.length_append]; omega) | (simp only [IntKind.wrap_i64, List.length_append, Int.natCast_add]; omega) | exact keepP_same _ _ _ | (repeat (first | exact trivial | refine And.intro rfl ?_)))); (conv => whnf)) | (refine fun (nc : Nat) (hnc : _ ≤ nc) => ?_; (conv => whnf)) | (refine bif2_true ?_ ?_; (· assumption); (conv => whnf)) | (refine bif2_false ?_ ?_; (· assumption); (conv => whnf)) | (refine bif2_true ?_ ?_; (· first | assumption | (refine decide_eq_true ?_; omega) | (refine decide_eq_false ?_; omega) | (refine beq_t ?_; omega) | (refine beq_f ?_; omega) | (refine bne_t ?_; omega) | (refine bne_f ?_; omega) | (refine ble_t ?_; omega) | (refine ble_f ?_; omega) | (simp [*]; done)); (conv => whnf)) | (refine bif2_false ?_ ?_; (· first | assumption | (refine decide_eq_true ?_; omega) | (refine decide_eq_false ?_; omega) | (refine beq_t ?_; omega) | (refine beq_f ?_; omega) | (refine bne_t ?_; omega) | (refine bne_f ?_; omega) | (refine ble_t ?_; omega) | (refine ble_f ?_; omega) | (simp [*]; done)); (conv => whnf)) | (refine bif2_not ?_; (conv => whnf)) | (refine amb_no ?_ ?_; (· first | exact Nat.succ_ne_zero _ | omega); (conv => whnf)) | (refine And.intro ?_ (fun (hc0 : _ = 0) => ?_) <;> (conv => whnf)) | (refine bif2_ble (fun h => ?_) (fun h => ?_) <;> (conv => whnf)) | (refine bif2_dec (fun h => ?_) (fun h => ?_) <;> (conv => whnf)) | (refine bif2_beq (fun h => ?_) (fun h => ?_) <;> (conv => whnf)) | (refine bif2_bne (fun h => ?_) (fun h => ?_) <;> (conv => whnf)) | (refine bif2_split (fun h => ?_) (fun h => ?_) <;> (conv => whnf)))
      · rename_i hlt
        refine Exists.intro ⟨k + 1, by omega, fun j hj => by
          rcases Nat.lt_or_ge j k with h1 | h1
          · exact hk2 j h1
          · have : j = k := by omega
            subst this; exact h⟩ (And.intro (by simp only; omega) (Wk.auto [0, 1] [] (by kernel_rfl) ?_ ?_)) <;> (conv => whnf)
        repeat' (first | (refine @And.intro (chkAll _ = true) _ ?_ ?_; (· kernel_rfl); (conv => whnf)) | (refine JoinG.direct ?_; (conv => whnf)) | (refine AppG.mk ?_; (conv => whnf)) | (refine both_intro ?_ ?_ <;> (conv => whnf)) | (exact VR.int _ _) | (exact VR.bool _) | (refine VR.ptr ?_; kernel_rfl) | (refine VR.slice ?_; kernel_rfl) | (exact VR.sliceN _ _) | (refine VR.map ?_; kernel_rfl) | (exact VR.clean _ rfl) | (refine VR.aggOf ?_) | (exact OR.win (flatR_clean (fun _ => rfl) _)) | (exact OR.clean rfl (flatR_clean (fun _ => rfl) _)) | (refine OR.cellsOf ?_) | (exact AR.same _ rfl) | (refine AR.consOf ?_ ?_) | (exact trivial) | (exact VR.sliceZ _ _ _) | (refine GR.rw ?_) | (refine GR.ro ?_) | (exact GR.abs rfl) | (exact idle_rw _) | (exact idle_ro _) | (refine VR.intOf ?_; (· first | rfl | (simp only [IntKind.wrap_i64]; omega) | (simp; done) | (simp; omega))) |  (refine And.intro ?_ ?_; (· (first | decide | omega | (simp only [IntKind.wrap_i64]; omega) | (simp only [List.length_append]; omega) | (simp only [IntKind.wrap_i64, List.length_append]; omega) | (simp only [IntKind.wrap_i64, List.length_append, Int.natCast_add]; omega) | exact keepP_same _ _ _ | (repeat (first | exact trivial | refine And.intro rfl ?_)))); (conv => whnf)) | (refine fun (nc : Nat) (hnc : _ ≤ nc) => ?_; (conv => whnf)) | (refine bif2_true ?_ ?_; (· assumption); (conv => whnf)) | (refine bif2_false ?_ ?_; (· assumption); (conv => whnf)) | (refine bif2_true ?_ ?_; (· first | assumption | (refine decide_eq_true ?_; omega) | (refine decide_eq_false ?_; omega) | (refine beq_t ?_; omega) | (refine beq_f ?_; omega) | (refine bne_t ?_; omega) | (refine bne_f ?_; omega) | (refine ble_t ?_; omega) | (refine ble_f ?_; omega) | (simp [*]; done)); (conv => whnf)) | (refine bif2_false ?_ ?_; (· first | assumption | (refine decide_eq_true ?_; omega) | (refine decide_eq_false ?_; omega) | (refine beq_t ?_; omega) | (refine beq_f ?_; omega) | (refine bne_t ?_; omega) | (refine bne_f ?_; omega) | (refine ble_t ?_; omega) | (refine ble_f ?_; omega) | (simp [*]; done)); (conv => whnf)) | (refine bif2_not ?_; (conv => whnf)) | (refine amb_no ?_ ?_; (· first | exact Nat.succ_ne_zero _ | omega); (conv => whnf)) | (refine And.intro ?_ (fun (hc0 : _ = 0) => ?_) <;> (conv => whnf)) | (refine bif2_ble (fun h => ?_) (fun h => ?_) <;> (conv => whnf)) | (refine bif2_dec (fun h => ?_) (fun h => ?_) <;> (conv => whnf)) | (refine bif2_beq (fun h => ?_) (fun h => ?_) <;> (conv => whnf)) | (refine bif2_bne (fun h => ?_) (fun h => ?_) <;> (conv => whnf)) | (refine bif2_split (fun h => ?_) (fun h => ?_) <;> (conv => whnf)))
      · have hne : a ≠ b := fun e => h (by rw [e])
        exact Fin.mk [.v (.bool false)] none [.bool false] [] rfl (.plain (.cons (.v rfl) .nil)) rfl (by rw [decide_eq_false hne])
      · have he : a = b := nth_ext hl fun j hj => hk2 j (by omega)
        exact Fin.mk [.v (.bool true)] none [.bool true] [] rfl (.plain (.cons (.v rfl) .nil)) rfl (by rw [decide_eq_true he])
  · have hne : a ≠ b := fun h => hl (by rw [h])
    (conv => whnf)
    repeat' (first | (refine @And.intro (chkAll _ = true) _ ?_ ?_; (· kernel_rfl); (conv => whnf)) | (refine JoinG.direct ?_; (conv => whnf)) | (refine AppG.mk ?_; (conv => whnf)) | (refine both_intro ?_ ?_ <;> (conv => whnf)) | (exact VR.int _ _) | (exact VR.bool _) | (refine VR.ptr ?_; kernel_rfl) | (refine VR.slice ?_; kernel_rfl) | (exact VR.sliceN _ _) | (refine VR.map ?_; kernel_rfl) | (exact VR.clean _ rfl) | (refine VR.aggOf ?_) | (exact OR.win (flatR_clean (fun _ => rfl) _)) | (exact OR.clean rfl (flatR_clean (fun _ => rfl) _)) | (refine OR.cellsOf ?_) | (exact AR.same _ rfl) | (refine AR.consOf ?_ ?_) | (exact trivial) | (exact VR.sliceZ _ _ _) | (refine GR.rw ?_) | (refine GR.ro ?_) | (exact GR.abs rfl) | (exact idle_rw _) | (exact idle_ro _) | (refine VR.intOf ?_; (· first | rfl | (simp only [IntKind.wrap_i64]; omega) | (simp; done) | (simp; omega))) |  (refine And.intro ?_ ?_; (· (first | decide | omega | (simp only [IntKind.wrap_i64]; omega) | (simp only [List.length_append]; omega) | (simp only [IntKind.wrap_i64, List.length_append]; omega) | (simp only [IntKind.wrap_i64, List.length_append, Int.natCast_add]; omega) | exact keepP_same _ _ _ | (repeat (first | exact trivial | refine And.intro rfl ?_)))); (conv => whnf)) | (refine fun (nc : Nat) (hnc : _ ≤ nc) => ?_; (conv => whnf)) | (refine bif2_true ?_ ?_; (· assumption); (conv => whnf)) | (refine bif2_false ?_ ?_; (· assumption); (conv => whnf)) | (refine bif2_true ?_ ?_; (· first | assumption | (refine decide_eq_true ?_; omega) | (refine decide_eq_false ?_; omega) | (refine beq_t ?_; omega) | (refine beq_f ?_; omega) | (refine bne_t ?_; omega) | (refine bne_f ?_; omega) | (refine ble_t ?_; omega) | (refine ble_f ?_; omega) | (simp [*]; done)); (conv => whnf)) | (refine bif2_false ?_ ?_; (· first | assumption | (refine decide_eq_true ?_; omega) | (refine decide_eq_false ?_; omega) | (refine beq_t ?_; omega) | (refine beq_f ?_; omega) | (refine bne_t ?_; omega) | (refine bne_f ?_; omega) | (refine ble_t ?_; omega) | (refine ble_f ?_; omega) | (simp [*]; done)); (conv => whnf)) | (refine bif2_not ?_; (conv => whnf)) | (refine amb_no ?_ ?_; (· first | exact Nat.succ_ne_zero _ | omega); (conv => whnf)) | (refine And.intro ?_ (fun (hc0 : _ = 0) => ?_) <;> (conv => whnf)) | (refine bif2_ble (fun h => ?_) (fun h => ?_) <;> (conv => whnf)) | (refine bif2_dec (fun h => ?_) (fun h => ?_) <;> (conv => whnf)) | (refine bif2_beq (fun h => ?_) (fun h => ?_) <;> (conv => whnf)) | (refine bif2_bne (fun h => ?_) (fun h => ?_) <;> (conv => whnf)) | (refine bif2_split (fun h => ?_) (fun h => ?_) <;> (conv => whnf)))
    exact Fin.mk [.v (.bool false)] none [.bool false] [] rfl (.plain (.cons (.v rfl) .nil)) rfl (by rw [decide_eq_false hne])
end Go.Proofs.Ytdligbcmhjhkfaa

/- How much is on its way. -/
import Derived.Test.YtkcmhcgmiflgbaaDoorNN7

namespace Go.Proofs.YtkcmhcgmiflgbaaDoor
open Go.RowKit
/-- entries that stand as they are, by other names -/
theorem GR.lits {s : NM} {E : List NEnt} {ck : Nat} {nm : Nat} (h5 : s 500 = some 500) (h9 : s 599 = some 599) : GR s (.rw (.map ⟨encR (E.map (gN none nm))⟩ ck)) (.rw (.map ⟨encR (E.map (gN none nm))⟩ ck)) := by
  refine GR.sem fun f o' hi h => ?_
  cases h with
  | map _ hE =>
    obtain ⟨G', rfl, hl, hs⟩ := hE.real
    refine .map _ (SameE.es ⟨hl, fun i x x' h1 h2 => ?_⟩)
    obtain ⟨e1, e2, e3, e4⟩ := hs i x x' h1 h2
    refine ⟨e1, e2, e3, ?_⟩
    simp only [List.getElem?_map, Option.map_eq_some_iff] at h1
    obtain ⟨e, _, rfl⟩ := h1
    have e4 : VR f (lit e.real) x'.v := e4
    have : VR (NM.comp s f) (lit e.real) x'.v := by
      generalize x'.v = v' at e4
      cases e4 with
      | lit _ q1 q2 => exact .lit _ (NM.comp_some h5 q1) (NM.comp_some h9 q2)
    exact this
def lfE (E : List NEnt) (seen : Array Nat) : List NEnt := E.filter fun e => !seen.contains e.n
theorem lfR_map {K0 : Option (Int × Int)} {nm : Nat} (E : List NEnt) (seen : Array Nat) : lfR (E.map (gN K0 nm)) seen = (lfE E seen).map (gN K0 nm) := by
  unfold lfR lfE
  rw [List.filter_map]
  rfl
theorem lfE_nil (E : List NEnt) : lfE E #[] = E := by
  unfold lfE
  apply List.filter_eq_self.2
  intro x _
  simp
theorem lfE_push {E : List NEnt} {seen : Array Nat} {x : NEnt} (hx : x ∈ lfE E seen) (hn : (E.map (·.n)).Nodup) : (lfE E seen).Perm (x :: lfE E (seen.push x.n)) := by
  have key : ∀ M : List NEnt, x ∈ M → (M.map (·.n)).Nodup → (!seen.contains x.n) = true → (M.filter fun y => !seen.contains y.n).Perm (x :: M.filter fun y => !(seen.push x.n).contains y.n) := by
    intro M
    induction M with
    | nil => intro h; cases h
    | cons y r ih =>
      intro h hn hs
      simp only [List.map_cons, List.nodup_cons] at hn
      rcases List.mem_cons.1 h with rfl | h2
      · rw [List.filter_cons_of_pos (by simpa using hs), List.filter_cons_of_neg (by simp [])]
        refine List.Perm.cons _ ?_
        refine List.Perm.of_eq (List.filter_congr fun y hy => ?_)
        have : (y.n == x.n) = false := by
          cases e : y.n == x.n with
          | false => rfl
          | true => exact absurd (List.mem_map.2 ⟨y, hy, by simpa using e⟩) hn.1
        rw [Array.contains_push, this, Bool.or_false]
      · have hne : (y.n == x.n) = false := by
          cases e : y.n == x.n with
          | false => rfl
          | true => exact absurd (List.mem_map.2 ⟨x, h2, by have := beq_iff_eq.1 e; exact this.symm⟩) hn.1
        have ih2 := ih h2 hn.2 hs
        by_cases hy : (!seen.contains y.n) = true
        · rw [List.filter_cons_of_pos (by simpa using hy), List.filter_cons_of_pos (by rw [Array.contains_push, hne, Bool.or_false]; simpa using hy)]
          exact (List.Perm.cons y ih2).trans (List.Perm.swap x y _)
        · rw [List.filter_cons_of_neg (by simpa using hy), List.filter_cons_of_neg (by rw [Array.contains_push, hne, Bool.or_false]; simpa using hy)]
          exact ih2
  have h1 := List.mem_filter.1 hx
  exact key E h1.1 hn h1.2
def sumE (E : List NEnt) : Nat := (E.map (·.L.length)).sum
theorem sumE_cons (e : NEnt) (E : List NEnt) : sumE (e :: E) = e.L.length + sumE E := by simp [sumE]
theorem sumE_perm {E E' : List NEnt} (p : E.Perm E') : sumE E = sumE E' := (p.map _).sum_nat
theorem sum_keys {ks : List (Int × Int)} {m : Msg} : ks.Nodup → kM m ∈ ks → (ks.map fun k => if kM m = k then 1 else 0).sum = 1 := by
  induction ks with
  | nil => intro _ h; cases h
  | cons k r ih =>
    intro hn h
    simp only [List.nodup_cons] at hn
    simp only [List.map_cons, List.sum_cons]
    by_cases e : kM m = k
    · rw [if_pos e]
      have : (r.map fun k => if kM m = k then 1 else 0).sum = 0 := by
        have : ∀ r : List (Int × Int), kM m ∉ r → (r.map fun k => if kM m = k then 1 else 0).sum = 0 := by
          intro r
          induction r with
          | nil => intro _; rfl
          | cons y r ih2 =>
            intro h2
            simp only [List.mem_cons, not_or] at h2
            simp only [List.map_cons, List.sum_cons]
            rw [if_neg h2.1, ih2 h2.2]
        exact this r (by rw [e]; exact hn.1)
      omega
    · rw [if_neg e, ih hn.2 (by simpa [e] using h)]
theorem sum_ofL {ks : List (Int × Int)} (hn : ks.Nodup) : ∀ {x : List Msg}, (∀ m ∈ x, kM m ∈ ks) → (ks.map fun k => (ofL k.1 k.2 x).length).sum = x.length := by
  intro x
  induction x with
  | nil =>
    intro _
    have : ∀ ks : List (Int × Int), (ks.map fun k => (ofL k.1 k.2 []).length).sum = 0 := by
      intro ks
      induction ks with
      | nil => rfl
      | cons k r ih => simp only [List.map_cons, List.sum_cons, ih]; rfl
    exact this ks
  | cons m r ih =>
    intro h
    have h1 := ih fun y hy => h y (List.mem_cons_of_mem _ hy)
    have h2 := sum_keys hn (h m (by simp))
    have h3 : ∀ k : Int × Int, (ofL k.1 k.2 (m :: r)).length = (if kM m = k then 1 else 0) + (ofL k.1 k.2 r).length := by
      intro k
      obtain ⟨a, b⟩ := k
      unfold ofL
      by_cases e : m.f = a ∧ m.t = b
      · rw [List.filter_cons_of_pos (by simp [e]), if_pos (by simp [kM, e])]; simp; omega
      · rw [List.filter_cons_of_neg (by simpa using e), if_neg (by simpa [kM] using e)]; simp
    have h4 : ∀ ks : List (Int × Int), (ks.map fun k => (ofL k.1 k.2 (m :: r)).length).sum = (ks.map fun k => if kM m = k then 1 else 0).sum + (ks.map fun k => (ofL k.1 k.2 r).length).sum := by
      intro ks
      induction ks with
      | nil => rfl
      | cons k t ih2 => rw [List.map_cons, List.sum_cons, ih2, h3]; simp only [List.map_cons, List.sum_cons]; omega
    rw [h4, h1, h2]
    simp; omega
theorem NetI.sum {E : List NEnt} {ck : Nat} {x : List Msg} (hI : NetI E ck x) : sumE E = x.length := by
  rw [← sum_ofL hI.nd (x := x) (fun m hm => by
    obtain ⟨e, h1, h2, h3⟩ := hI.all m hm
    exact List.mem_map.2 ⟨e, h1, by simp [NEnt.key, kM, h2, h3]⟩)]
  unfold sumE
  rw [List.map_map]
  congr 1
  refine List.map_congr_left fun e he => ?_
  show e.L.length = (ofL e.a e.b x).length
  rw [← hI.eq e he]
structure TotI (E : List NEnt) (tot : Nat) where
  s : Array Nat
  n : Nat
  h : n + sumE (lfE E s) = tot
/-- a net, all of it as it stands -/
theorem net_two {R : ARes} {x : List Msg} {w : World} {b : Nat} {F : Nat → Prop} (h : RecvR w (some (NetR x)) b F) {Go : Prop}
    (k0 : x = [] → ∀ f t, UnpR w (some R) b F f [(500, .rw (.cells ⟨[.map none]⟩ t (0, 0)))] → Go)
    (k1 : ∀ f t E ck rest, NetI E ck x → (E.map (·.k)).Nodup → RestOk E rest →
      UnpR w (some R) b F f ((500, .rw (.cells ⟨[.map (some 501)]⟩ t (0, 0))) :: (501, .rw (.map ⟨encR (E.map (gN none 502))⟩ ck)) :: rest) → Go) : Go := by
  obtain ⟨⟨t, o, h1, h2, h3⟩, h4, h5⟩ := h
  cases o with
  | none =>
    have hx0 : x = [] := h3
    subst hx0
    exact net_ways (R := R) ⟨⟨t, none, h1, h2, h3⟩, h4, h5⟩ 0 0 k0 (fun _ f t E ck rest hI hb _ hr hu => k1 f t E ck rest hI hb hr hu) (fun f t te E ck rest e hI hb he hk hx hr hu => absurd hx.symm (hI.ne e he))
  | some m =>
    obtain ⟨h6, E, ck, h7, hI, hB⟩ := h3
    obtain ⟨f, te, rest, hr, hu⟩ := unp_net0 (R := R) h1 h2 h6 h7 hI hB h4 h5 none none (Or.inl ⟨rfl, fun e _ h => by cases h⟩)
    have : offK none E = E := by unfold offK; rw [List.filter_eq_self]; intro e _; simp
    rw [this] at hr
    exact k1 f t E ck rest hI hB.1 hr hu
set_option maxRecDepth 100000
set_option maxHeartbeats 4000000
theorem total_ct (x : List Msg) (hx : x.length ≤ 1000000) : Ct Tryd.prog 18 (some (NetR x)) [] (fun rs R' => rs = [.v (i64 (x.length : Int))] ∧ R' = some (NetR x)) := by
  refine Ct.of_body tt_ok mixed Tryd.func18 rfl (Nat.le_of_ble_eq_true rfl) ?_
  intro w b F hrec
  refine net_two (R := NetR x) hrec (fun hx f t hu => ⟨f, _, hu, ?_⟩) (fun f t E ck rest hI hb hr hu => ⟨f, _, hu, ?_⟩)
  · clear hu hrec
    subst hx
    (conv => whnf)
    repeat' (first | (refine raw_range0 tt_ok rfl rfl rfl ?_; (conv => whnf)) | (refine raw_next0 rfl rfl ?_; (conv => whnf)) | (refine LoopG.unroll 1 ?_; (conv => whnf)) | (exact Fin.mk [.v (i64 0)] (some (NetR [])) [i64 0] [500] rfl (.plain (.cons (.v rfl) .nil)) (pack0 rfl) ⟨rfl, rfl⟩ ) | (refine @And.intro (chkAll _ = true) _ ?_ ?_; (· kernel_rfl); (conv => whnf)) | (refine JoinG.direct ?_; (conv => whnf)) | (refine AppG.mk ?_; (conv => whnf)) | (refine both_intro ?_ ?_ <;> (conv => whnf)) | (exact VR.int _ _) | (exact VR.bool _) | (refine VR.ptr ?_; kernel_rfl) | (refine VR.slice ?_; kernel_rfl) | (exact VR.sliceN _ _) | (refine VR.map ?_; kernel_rfl) | (exact VR.clean _ rfl) | (refine VR.aggOf ?_) | (exact OR.win (flatR_clean (fun _ => rfl) _)) | (exact OR.clean rfl (flatR_clean (fun _ => rfl) _)) | (refine OR.cellsOf ?_) | (exact AR.same _ rfl) | (refine AR.consOf ?_ ?_) | (exact trivial) | (exact VR.sliceZ _ _ _) | (refine GR.rw ?_) | (refine GR.ro ?_) | (exact GR.abs rfl) | (exact idle_rw _) | (exact idle_ro _) | (refine VR.intOf ?_; (· first | rfl | (simp only [IntKind.wrap_i64]; omega) | (simp; done) | (simp; omega))) |  (refine And.intro ?_ ?_; (· (first | decide | omega | (simp only [IntKind.wrap_i64]; omega) | (simp only [List.length_append]; omega) | (simp only [IntKind.wrap_i64, List.length_append]; omega) | (simp only [IntKind.wrap_i64, List.length_append, Int.natCast_add]; omega) | exact keepP_same _ _ _ | (repeat (first | exact trivial | refine And.intro rfl ?_)))); (conv => whnf)) | (refine fun (nc : Nat) (hnc : _ ≤ nc) => ?_; (conv => whnf)) | (refine bif2_true ?_ ?_; (· assumption); (conv => whnf)) | (refine bif2_false ?_ ?_; (· assumption); (conv => whnf)) | (refine bif2_true ?_ ?_; (· first | assumption | (refine decide_eq_true ?_; omega) | (refine decide_eq_false ?_; omega) | (refine beq_t ?_; omega) | (refine beq_f ?_; omega) | (refine bne_t ?_; omega) | (refine bne_f ?_; omega) | (refine ble_t ?_; omega) | (refine ble_f ?_; omega) | (simp [*]; done)); (conv => whnf)) | (refine bif2_false ?_ ?_; (· first | assumption | (refine decide_eq_true ?_; omega) | (refine decide_eq_false ?_; omega) | (refine beq_t ?_; omega) | (refine beq_f ?_; omega) | (refine bne_t ?_; omega) | (refine bne_f ?_; omega) | (refine ble_t ?_; omega) | (refine ble_f ?_; omega) | (simp [*]; done)); (conv => whnf)) | (refine bif2_not ?_; (conv => whnf)) | (refine amb_no ?_ ?_; (· first | exact Nat.succ_ne_zero _ | omega); (conv => whnf)) | (refine And.intro ?_ (fun (hc0 : _ = 0) => ?_) <;> (conv => whnf)) | (refine bif2_ble (fun h => ?_) (fun h => ?_) <;> (conv => whnf)) | (refine bif2_dec (fun h => ?_) (fun h => ?_) <;> (conv => whnf)) | (refine bif2_beq (fun h => ?_) (fun h => ?_) <;> (conv => whnf)) | (refine bif2_bne (fun h => ?_) (fun h => ?_) <;> (conv => whnf)) | (refine bif2_split (fun h => ?_) (fun h => ?_) <;> (conv => whnf)))
    all_goals trace_state
  · clear hu hrec
    have hsum := hI.sum
    rcases hr with ⟨hE0, rfl⟩ | rfl
    · (conv => whnf)
      repeat' (first | (refine raw_range tt_ok rfl rfl rfl rfl ?_; (conv => whnf)) | (refine @And.intro (chkAll _ = true) _ ?_ ?_; (· kernel_rfl); (conv => whnf)) | (refine JoinG.direct ?_; (conv => whnf)) | (refine AppG.mk ?_; (conv => whnf)) | (refine both_intro ?_ ?_ <;> (conv => whnf)) | (exact VR.int _ _) | (exact VR.bool _) | (refine VR.ptr ?_; kernel_rfl) | (refine VR.slice ?_; kernel_rfl) | (exact VR.sliceN _ _) | (refine VR.map ?_; kernel_rfl) | (exact VR.clean _ rfl) | (refine VR.aggOf ?_) | (exact OR.win (flatR_clean (fun _ => rfl) _)) | (exact OR.clean rfl (flatR_clean (fun _ => rfl) _)) | (refine OR.cellsOf ?_) | (exact AR.same _ rfl) | (refine AR.consOf ?_ ?_) | (exact trivial) | (exact VR.sliceZ _ _ _) | (refine GR.rw ?_) | (refine GR.ro ?_) | (exact GR.abs rfl) | (exact idle_rw _) | (exact idle_ro _) | (refine VR.intOf ?_; (· first | rfl | (simp only [IntKind.wrap_i64]; omega) | (simp; done) | (simp; omega))) |  (refine And.intro ?_ ?_; (· (first | decide | omega | (simp only [IntKind.wrap_i64]; omega) | (simp only [List.length_append]; omega) | (simp only [IntKind.wrap_i64, List.length_append]; omega) | (simp only [IntKind.wrap_i64, List.length_append, Int.natCast_add]; omega) | exact keepP_same _ _ _ | (repeat (first | exact trivial | refine And.intro rfl ?_)))); (conv => whnf)) | (refine fun (nc : Nat) (hnc : _ ≤ nc) => ?_; (conv => whnf)) | (refine bif2_true ?_ ?_; (· assumption); (conv => whnf)) | (refine bif2_false ?_ ?_; (· assumption); (conv => whnf)) | (refine bif2_true ?_ ?_; (· first | assumption | (refine decide_eq_true ?_; omega) | (refine decide_eq_false ?_; omega) | (refine beq_t ?_; omega) | (refine beq_f ?_; omega) | (refine bne_t ?_; omega) | (refine bne_f ?_; omega) | (refine ble_t ?_; omega) | (refine ble_f ?_; omega) | (simp [*]; done)); (conv => whnf)) | (refine bif2_false ?_ ?_; (· first | assumption | (refine decide_eq_true ?_; omega) | (refine decide_eq_false ?_; omega) | (refine beq_t ?_; omega) | (refine beq_f ?_; omega) | (refine bne_t ?_; omega) | (refine bne_f ?_; omega) | (refine ble_t ?_; omega) | (refine ble_f ?_; omega) | (simp [*]; done)); (conv => whnf)) | (refine bif2_not ?_; (conv => whnf)) | (refine amb_no ?_ ?_; (· first | exact Nat.succ_ne_zero _ | omega); (conv => whnf)) | (refine And.intro ?_ (fun (hc0 : _ = 0) => ?_) <;> (conv => whnf)) | (refine bif2_ble (fun h => ?_) (fun h => ?_) <;> (conv => whnf)) | (refine bif2_dec (fun h => ?_) (fun h => ?_) <;> (conv => whnf)) | (refine bif2_beq (fun h => ?_) (fun h => ?_) <;> (conv => whnf)) | (refine bif2_bne (fun h => ?_) (fun h => ?_) <;> (conv => whnf)) | (refine bif2_split (fun h => ?_) (fun h => ?_) <;> (conv => whnf)))
      refine LoopG.mk (ι := TotI E x.length) (fun i => ⟨[(12, .pointer (some ⟨1000, 0, none⟩)), (3, i64 i.n), (0, .pointer (some ⟨500, 0, none⟩))],
        [(1000, .rw (.mapIter (some 501) ck i.s ck)), (500, .rw (.cells ⟨[.map (some 501)]⟩ t)), (501, .rw (.map ⟨encR (E.map (gN none 502))⟩ ck))], [1001, 1002, 1003, 1004, 1005, 1006, 1007, 1008, 1009, 1010, 1011, 1012, 1013, 1014, 1015, 1016, 1017, 1018, 1019, 1020, 1021, 1022, 1023, 1024, 1025, 1026, 1027, 1028, 1029, 1030, 1031, 1032, 1033, 1034, 1035, 1036, 1037, 1038, 1039, 1040, 1041, 1042, 1043, 1044, 1045, 1046, 1047, 1048, 1049, 1050, 1051, 1052, 1053, 1054, 1055, 1056, 1057, 1058, 1059, 1060, 1061, 1062, 1063, 1064, 1065, 1066, 1067, 1068, 1069, 1070, 1071, 1072, 1073, 1074, 1075, 1076, 1077, 1078, 1079, 1080, 1081, 1082, 1083, 1084, 1085, 1086, 1087, 1088, 1089, 1090, 1091, 1092, 1093, 1094, 1095, 1096, 1097, 1098, 1099, 1100, 1101, 1102, 1103, 1104, 1105, 1106, 1107, 1108, 1109, 1110, 1111, 1112, 1113, 1114, 1115, 1116, 1117, 1118, 1119]⟩) (fun i => (lfE E i.s).length) ⟨#[], 0, by rw [lfE_nil, hsum]; omega⟩ ?_ ?_
      · refine Wk.auto [0, 12] [] (by kernel_rfl) ?_ ?_
        all_goals (conv => whnf)
        repeat' (first | (exact GR.lits rfl rfl ) | ((refine OR.iter _ _ _ ?_; kernel_rfl)) | (refine @And.intro (chkAll _ = true) _ ?_ ?_; (· kernel_rfl); (conv => whnf)) | (refine JoinG.direct ?_; (conv => whnf)) | (refine AppG.mk ?_; (conv => whnf)) | (refine both_intro ?_ ?_ <;> (conv => whnf)) | (exact VR.int _ _) | (exact VR.bool _) | (refine VR.ptr ?_; kernel_rfl) | (refine VR.slice ?_; kernel_rfl) | (exact VR.sliceN _ _) | (refine VR.map ?_; kernel_rfl) | (exact VR.clean _ rfl) | (refine VR.aggOf ?_) | (exact OR.win (flatR_clean (fun _ => rfl) _)) | (exact OR.clean rfl (flatR_clean (fun _ => rfl) _)) | (refine OR.cellsOf ?_) | (exact AR.same _ rfl) | (refine AR.consOf ?_ ?_) | (exact trivial) | (exact VR.sliceZ _ _ _) | (refine GR.rw ?_) | (refine GR.ro ?_) | (exact GR.abs rfl) | (exact idle_rw _) | (exact idle_ro _) | (refine VR.intOf ?_; (· first | rfl | (simp only [IntKind.wrap_i64]; omega) | (simp; done) | (simp; omega))) |  (refine And.intro ?_ ?_; (· (first | decide | omega | (simp only [IntKind.wrap_i64]; omega) | (simp only [List.length_append]; omega) | (simp only [IntKind.wrap_i64, List.length_append]; omega) | (simp only [IntKind.wrap_i64, List.length_append, Int.natCast_add]; omega) | exact keepP_same _ _ _ | (repeat (first | exact trivial | refine And.intro rfl ?_)))); (conv => whnf)) | (refine fun (nc : Nat) (hnc : _ ≤ nc) => ?_; (conv => whnf)) | (refine bif2_true ?_ ?_; (· assumption); (conv => whnf)) | (refine bif2_false ?_ ?_; (· assumption); (conv => whnf)) | (refine bif2_true ?_ ?_; (· first | assumption | (refine decide_eq_true ?_; omega) | (refine decide_eq_false ?_; omega) | (refine beq_t ?_; omega) | (refine beq_f ?_; omega) | (refine bne_t ?_; omega) | (refine bne_f ?_; omega) | (refine ble_t ?_; omega) | (refine ble_f ?_; omega) | (simp [*]; done)); (conv => whnf)) | (refine bif2_false ?_ ?_; (· first | assumption | (refine decide_eq_true ?_; omega) | (refine decide_eq_false ?_; omega) | (refine beq_t ?_; omega) | (refine beq_f ?_; omega) | (refine bne_t ?_; omega) | (refine bne_f ?_; omega) | (refine ble_t ?_; omega) | (refine ble_f ?_; omega) | (simp [*]; done)); (conv => whnf)) | (refine bif2_not ?_; (conv => whnf)) | (refine amb_no ?_ ?_; (· first | exact Nat.succ_ne_zero _ | omega); (conv => whnf)) | (refine And.intro ?_ (fun (hc0 : _ = 0) => ?_) <;> (conv => whnf)) | (refine bif2_ble (fun h => ?_) (fun h => ?_) <;> (conv => whnf)) | (refine bif2_dec (fun h => ?_) (fun h => ?_) <;> (conv => whnf)) | (refine bif2_beq (fun h => ?_) (fun h => ?_) <;> (conv => whnf)) | (refine bif2_bne (fun h => ?_) (fun h => ?_) <;> (conv => whnf)) | (refine bif2_split (fun h => ?_) (fun h => ?_) <;> (conv => whnf)))
        all_goals trace_state
      · rintro ⟨s, n, hn⟩
        dsimp only
        have hnx : n ≤ x.length := by omega
        (conv => whnf)
        refine raw_next rfl rfl rfl (fun y hy => by obtain ⟨e, he, rfl⟩ := List.mem_map.1 hy; exact hI.lt e he) (fun hl => ?_) (fun y hy => ?_)
        · have hz : lfE E s = [] := by rw [lfR_map] at hl; exact List.map_eq_nil_iff.1 hl
          rw [hz] at hn
          have hn2 : n = x.length := by simpa [sumE] using hn
          subst hn2
          (conv => whnf)
          repeat' (first | (exact Fin.mk [.v (i64 (x.length : Int))] (some (NetR x)) [i64 (x.length : Int)] [500, 501, 503] rfl (.plain (.cons (.v rfl) .nil)) (pack1 rfl rfl hI hb (Or.inl ⟨hE0, rfl⟩) (fun _ => rfl)) ⟨rfl, rfl⟩ ) | (refine @And.intro (chkAll _ = true) _ ?_ ?_; (· kernel_rfl); (conv => whnf)) | (refine JoinG.direct ?_; (conv => whnf)) | (refine AppG.mk ?_; (conv => whnf)) | (refine both_intro ?_ ?_ <;> (conv => whnf)) | (exact VR.int _ _) | (exact VR.bool _) | (refine VR.ptr ?_; kernel_rfl) | (refine VR.slice ?_; kernel_rfl) | (exact VR.sliceN _ _) | (refine VR.map ?_; kernel_rfl) | (exact VR.clean _ rfl) | (refine VR.aggOf ?_) | (exact OR.win (flatR_clean (fun _ => rfl) _)) | (exact OR.clean rfl (flatR_clean (fun _ => rfl) _)) | (refine OR.cellsOf ?_) | (exact AR.same _ rfl) | (refine AR.consOf ?_ ?_) | (exact trivial) | (exact VR.sliceZ _ _ _) | (refine GR.rw ?_) | (refine GR.ro ?_) | (exact GR.abs rfl) | (exact idle_rw _) | (exact idle_ro _) | (refine VR.intOf ?_; (· first | rfl | (simp only [IntKind.wrap_i64]; omega) | (simp; done) | (simp; omega))) |  (refine And.intro ?_ ?_; (· (first | decide | omega | (simp only [IntKind.wrap_i64]; omega) | (simp only [List.length_append]; omega) | (simp only [IntKind.wrap_i64, List.length_append]; omega) | (simp only [IntKind.wrap_i64, List.length_append, Int.natCast_add]; omega) | exact keepP_same _ _ _ | (repeat (first | exact trivial | refine And.intro rfl ?_)))); (conv => whnf)) | (refine fun (nc : Nat) (hnc : _ ≤ nc) => ?_; (conv => whnf)) | (refine bif2_true ?_ ?_; (· assumption); (conv => whnf)) | (refine bif2_false ?_ ?_; (· assumption); (conv => whnf)) | (refine bif2_true ?_ ?_; (· first | assumption | (refine decide_eq_true ?_; omega) | (refine decide_eq_false ?_; omega) | (refine beq_t ?_; omega) | (refine beq_f ?_; omega) | (refine bne_t ?_; omega) | (refine bne_f ?_; omega) | (refine ble_t ?_; omega) | (refine ble_f ?_; omega) | (simp [*]; done)); (conv => whnf)) | (refine bif2_false ?_ ?_; (· first | assumption | (refine decide_eq_true ?_; omega) | (refine decide_eq_false ?_; omega) | (refine beq_t ?_; omega) | (refine beq_f ?_; omega) | (refine bne_t ?_; omega) | (refine bne_f ?_; omega) | (refine ble_t ?_; omega) | (refine ble_f ?_; omega) | (simp [*]; done)); (conv => whnf)) | (refine bif2_not ?_; (conv => whnf)) | (refine amb_no ?_ ?_; (· first | exact Nat.succ_ne_zero _ | omega); (conv => whnf)) | (refine And.intro ?_ (fun (hc0 : _ = 0) => ?_) <;> (conv => whnf)) | (refine bif2_ble (fun h => ?_) (fun h => ?_) <;> (conv => whnf)) | (refine bif2_dec (fun h => ?_) (fun h => ?_) <;> (conv => whnf)) | (refine bif2_beq (fun h => ?_) (fun h => ?_) <;> (conv => whnf)) | (refine bif2_bne (fun h => ?_) (fun h => ?_) <;> (conv => whnf)) | (refine bif2_split (fun h => ?_) (fun h => ?_) <;> (conv => whnf)))
          all_goals trace_state
        · rw [lfR_map] at hy
          obtain ⟨e, he, rfl⟩ := List.mem_map.1 hy
          have hE : e ∈ E := (List.mem_filter.1 he).1
          have hp := lfE_push he hI.bn
          have hs2 := sumE_perm hp
          rw [sumE_cons] at hs2
          have hlen := hp.length_eq
          simp only [List.length_cons] at hlen
          have hmem : gN none 502 e ∈ E.map (gN none 502) := List.mem_map.2 ⟨e, hE, rfl⟩
          have hbn : ((E.map (gN none 502)).map (·.n)).Nodup := by rw [gE_n]; exact hI.bn
          have hw : IntKind.i64.wrap ((n : Int) + (e.L.length : Int)) = ((n + e.L.length : Nat) : Int) := by rw [IntKind.wrap_i64]; omega
          (conv => whnf)
          repeat' (first | (refine raw_entry rfl rfl rfl hmem hbn ?_; (conv => whnf)) | (refine @And.intro (chkAll _ = true) _ ?_ ?_; (· kernel_rfl); (conv => whnf)) | (refine JoinG.direct ?_; (conv => whnf)) | (refine AppG.mk ?_; (conv => whnf)) | (refine both_intro ?_ ?_ <;> (conv => whnf)) | (exact VR.int _ _) | (exact VR.bool _) | (refine VR.ptr ?_; kernel_rfl) | (refine VR.slice ?_; kernel_rfl) | (exact VR.sliceN _ _) | (refine VR.map ?_; kernel_rfl) | (exact VR.clean _ rfl) | (refine VR.aggOf ?_) | (exact OR.win (flatR_clean (fun _ => rfl) _)) | (exact OR.clean rfl (flatR_clean (fun _ => rfl) _)) | (refine OR.cellsOf ?_) | (exact AR.same _ rfl) | (refine AR.consOf ?_ ?_) | (exact trivial) | (exact VR.sliceZ _ _ _) | (refine GR.rw ?_) | (refine GR.ro ?_) | (exact GR.abs rfl) | (exact idle_rw _) | (exact idle_ro _) | (refine VR.intOf ?_; (· first | rfl | (simp only [IntKind.wrap_i64]; omega) | (simp; done) | (simp; omega))) |  (refine And.intro ?_ ?_; (· (first | decide | omega | (simp only [IntKind.wrap_i64]; omega) | (simp only [List.length_append]; omega) | (simp only [IntKind.wrap_i64, List.length_append]; omega) | (simp only [IntKind.wrap_i64, List.length_append, Int.natCast_add]; omega) | exact keepP_same _ _ _ | (repeat (first | exact trivial | refine And.intro rfl ?_)))); (conv => whnf)) | (refine fun (nc : Nat) (hnc : _ ≤ nc) => ?_; (conv => whnf)) | (refine bif2_true ?_ ?_; (· assumption); (conv => whnf)) | (refine bif2_false ?_ ?_; (· assumption); (conv => whnf)) | (refine bif2_true ?_ ?_; (· first | assumption | (refine decide_eq_true ?_; omega) | (refine decide_eq_false ?_; omega) | (refine beq_t ?_; omega) | (refine beq_f ?_; omega) | (refine bne_t ?_; omega) | (refine bne_f ?_; omega) | (refine ble_t ?_; omega) | (refine ble_f ?_; omega) | (simp [*]; done)); (conv => whnf)) | (refine bif2_false ?_ ?_; (· first | assumption | (refine decide_eq_true ?_; omega) | (refine decide_eq_false ?_; omega) | (refine beq_t ?_; omega) | (refine beq_f ?_; omega) | (refine bne_t ?_; omega) | (refine bne_f ?_; omega) | (refine ble_t ?_; omega) | (refine ble_f ?_; omega) | (simp [*]; done)); (conv => whnf)) | (refine bif2_not ?_; (conv => whnf)) | (refine amb_no ?_ ?_; (· first | exact Nat.succ_ne_zero _ | omega); (conv => whnf)) | (refine And.intro ?_ (fun (hc0 : _ = 0) => ?_) <;> (conv => whnf)) | (refine bif2_ble (fun h => ?_) (fun h => ?_) <;> (conv => whnf)) | (refine bif2_dec (fun h => ?_) (fun h => ?_) <;> (conv => whnf)) | (refine bif2_beq (fun h => ?_) (fun h => ?_) <;> (conv => whnf)) | (refine bif2_bne (fun h => ?_) (fun h => ?_) <;> (conv => whnf)) | (refine bif2_split (fun h => ?_) (fun h => ?_) <;> (conv => whnf)))
          refine Exists.intro ⟨s.push e.n, n + e.L.length, by omega⟩ (And.intro (by simp only; omega) (Wk.auto [0, 12] [] (by kernel_rfl) ?_ ?_)) <;> (conv => whnf)
          repeat' (first | (exact GR.lits rfl rfl ) | ((refine OR.iter _ _ _ ?_; kernel_rfl)) | ((refine VR.intOf ?_; (· exact hw.symm))) | (refine @And.intro (chkAll _ = true) _ ?_ ?_; (· kernel_rfl); (conv => whnf)) | (refine JoinG.direct ?_; (conv => whnf)) | (refine AppG.mk ?_; (conv => whnf)) | (refine both_intro ?_ ?_ <;> (conv => whnf)) | (exact VR.int _ _) | (exact VR.bool _) | (refine VR.ptr ?_; kernel_rfl) | (refine VR.slice ?_; kernel_rfl) | (exact VR.sliceN _ _) | (refine VR.map ?_; kernel_rfl) | (exact VR.clean _ rfl) | (refine VR.aggOf ?_) | (exact OR.win (flatR_clean (fun _ => rfl) _)) | (exact OR.clean rfl (flatR_clean (fun _ => rfl) _)) | (refine OR.cellsOf ?_) | (exact AR.same _ rfl) | (refine AR.consOf ?_ ?_) | (exact trivial) | (exact VR.sliceZ _ _ _) | (refine GR.rw ?_) | (refine GR.ro ?_) | (exact GR.abs rfl) | (exact idle_rw _) | (exact idle_ro _) | (refine VR.intOf ?_; (· first | rfl | (simp only [IntKind.wrap_i64]; omega) | (simp; done) | (simp; omega))) |  (refine And.intro ?_ ?_; (· (first | decide | omega | (simp only [IntKind.wrap_i64]; omega) | (simp only [List.length_append]; omega) | (simp only [IntKind.wrap_i64, List.length_append]; omega) | (simp only [IntKind.wrap_i64, List.length_append, Int.natCast_add]; omega) | exact keepP_same _ _ _ | (repeat (first | exact trivial | refine And.intro rfl ?_)))); (conv => whnf)) | (refine fun (nc : Nat) (hnc : _ ≤ nc) => ?_; (conv => whnf)) | (refine bif2_true ?_ ?_; (· assumption); (conv => whnf)) | (refine bif2_false ?_ ?_; (· assumption); (conv => whnf)) | (refine bif2_true ?_ ?_; (· first | assumption | (refine decide_eq_true ?_; omega) | (refine decide_eq_false ?_; omega) | (refine beq_t ?_; omega) | (refine beq_f ?_; omega) | (refine bne_t ?_; omega) | (refine bne_f ?_; omega) | (refine ble_t ?_; omega) | (refine ble_f ?_; omega) | (simp [*]; done)); (conv => whnf)) | (refine bif2_false ?_ ?_; (· first | assumption | (refine decide_eq_true ?_; omega) | (refine decide_eq_false ?_; omega) | (refine beq_t ?_; omega) | (refine beq_f ?_; omega) | (refine bne_t ?_; omega) | (refine bne_f ?_; omega) | (refine ble_t ?_; omega) | (refine ble_f ?_; omega) | (simp [*]; done)); (conv => whnf)) | (refine bif2_not ?_; (conv => whnf)) | (refine amb_no ?_ ?_; (· first | exact Nat.succ_ne_zero _ | omega); (conv => whnf)) | (refine And.intro ?_ (fun (hc0 : _ = 0) => ?_) <;> (conv => whnf)) | (refine bif2_ble (fun h => ?_) (fun h => ?_) <;> (conv => whnf)) | (refine bif2_dec (fun h => ?_) (fun h => ?_) <;> (conv => whnf)) | (refine bif2_beq (fun h => ?_) (fun h => ?_) <;> (conv => whnf)) | (refine bif2_bne (fun h => ?_) (fun h => ?_) <;> (conv => whnf)) | (refine bif2_split (fun h => ?_) (fun h => ?_) <;> (conv => whnf)))
          all_goals trace_state
    · (conv => whnf)
      repeat' (first | (refine raw_range tt_ok rfl rfl rfl rfl ?_; (conv => whnf)) | (refine @And.intro (chkAll _ = true) _ ?_ ?_; (· kernel_rfl); (conv => whnf)) | (refine JoinG.direct ?_; (conv => whnf)) | (refine AppG.mk ?_; (conv => whnf)) | (refine both_intro ?_ ?_ <;> (conv => whnf)) | (exact VR.int _ _) | (exact VR.bool _) | (refine VR.ptr ?_; kernel_rfl) | (refine VR.slice ?_; kernel_rfl) | (exact VR.sliceN _ _) | (refine VR.map ?_; kernel_rfl) | (exact VR.clean _ rfl) | (refine VR.aggOf ?_) | (exact OR.win (flatR_clean (fun _ => rfl) _)) | (exact OR.clean rfl (flatR_clean (fun _ => rfl) _)) | (refine OR.cellsOf ?_) | (exact AR.same _ rfl) | (refine AR.consOf ?_ ?_) | (exact trivial) | (exact VR.sliceZ _ _ _) | (refine GR.rw ?_) | (refine GR.ro ?_) | (exact GR.abs rfl) | (exact idle_rw _) | (exact idle_ro _) | (refine VR.intOf ?_; (· first | rfl | (simp only [IntKind.wrap_i64]; omega) | (simp; done) | (simp; omega))) |  (refine And.intro ?_ ?_; (· (first | decide | omega | (simp only [IntKind.wrap_i64]; omega) | (simp only [List.length_append]; omega) | (simp only [IntKind.wrap_i64, List.length_append]; omega) | (simp only [IntKind.wrap_i64, List.length_append, Int.natCast_add]; omega) | exact keepP_same _ _ _ | (repeat (first | exact trivial | refine And.intro rfl ?_)))); (conv => whnf)) | (refine fun (nc : Nat) (hnc : _ ≤ nc) => ?_; (conv => whnf)) | (refine bif2_true ?_ ?_; (· assumption); (conv => whnf)) | (refine bif2_false ?_ ?_; (· assumption); (conv => whnf)) | (refine bif2_true ?_ ?_; (· first | assumption | (refine decide_eq_true ?_; omega) | (refine decide_eq_false ?_; omega) | (refine beq_t ?_; omega) | (refine beq_f ?_; omega) | (refine bne_t ?_; omega) | (refine bne_f ?_; omega) | (refine ble_t ?_; omega) | (refine ble_f ?_; omega) | (simp [*]; done)); (conv => whnf)) | (refine bif2_false ?_ ?_; (· first | assumption | (refine decide_eq_true ?_; omega) | (refine decide_eq_false ?_; omega) | (refine beq_t ?_; omega) | (refine beq_f ?_; omega) | (refine bne_t ?_; omega) | (refine bne_f ?_; omega) | (refine ble_t ?_; omega) | (refine ble_f ?_; omega) | (simp [*]; done)); (conv => whnf)) | (refine bif2_not ?_; (conv => whnf)) | (refine amb_no ?_ ?_; (· first | exact Nat.succ_ne_zero _ | omega); (conv => whnf)) | (refine And.intro ?_ (fun (hc0 : _ = 0) => ?_) <;> (conv => whnf)) | (refine bif2_ble (fun h => ?_) (fun h => ?_) <;> (conv => whnf)) | (refine bif2_dec (fun h => ?_) (fun h => ?_) <;> (conv => whnf)) | (refine bif2_beq (fun h => ?_) (fun h => ?_) <;> (conv => whnf)) | (refine bif2_bne (fun h => ?_) (fun h => ?_) <;> (conv => whnf)) | (refine bif2_split (fun h => ?_) (fun h => ?_) <;> (conv => whnf)))
      refine LoopG.mk (ι := TotI E x.length) (fun i => ⟨[(12, .pointer (some ⟨1000, 0, none⟩)), (3, i64 i.n), (0, .pointer (some ⟨500, 0, none⟩))],
        [(1000, .rw (.mapIter (some 501) ck i.s ck)), (500, .rw (.cells ⟨[.map (some 501)]⟩ t)), (501, .rw (.map ⟨encR (E.map (gN none 502))⟩ ck)), (503, .abs (BagR E))], [1001, 1002, 1003, 1004, 1005, 1006, 1007, 1008, 1009, 1010, 1011, 1012, 1013, 1014, 1015, 1016, 1017, 1018, 1019, 1020, 1021, 1022, 1023, 1024, 1025, 1026, 1027, 1028, 1029, 1030, 1031, 1032, 1033, 1034, 1035, 1036, 1037, 1038, 1039, 1040, 1041, 1042, 1043, 1044, 1045, 1046, 1047, 1048, 1049, 1050, 1051, 1052, 1053, 1054, 1055, 1056, 1057, 1058, 1059, 1060, 1061, 1062, 1063, 1064, 1065, 1066, 1067, 1068, 1069, 1070, 1071, 1072, 1073, 1074, 1075, 1076, 1077, 1078, 1079, 1080, 1081, 1082, 1083, 1084, 1085, 1086, 1087, 1088, 1089, 1090, 1091, 1092, 1093, 1094, 1095, 1096, 1097, 1098, 1099, 1100, 1101, 1102, 1103, 1104, 1105, 1106, 1107, 1108, 1109, 1110, 1111, 1112, 1113, 1114, 1115, 1116, 1117, 1118, 1119]⟩) (fun i => (lfE E i.s).length) ⟨#[], 0, by rw [lfE_nil, hsum]; omega⟩ ?_ ?_
      · refine Wk.auto [0, 12] [] (by kernel_rfl) ?_ ?_
        all_goals (conv => whnf)
        repeat' (first | (exact GR.lits rfl rfl ) | ((refine OR.iter _ _ _ ?_; kernel_rfl)) | (refine @And.intro (chkAll _ = true) _ ?_ ?_; (· kernel_rfl); (conv => whnf)) | (refine JoinG.direct ?_; (conv => whnf)) | (refine AppG.mk ?_; (conv => whnf)) | (refine both_intro ?_ ?_ <;> (conv => whnf)) | (exact VR.int _ _) | (exact VR.bool _) | (refine VR.ptr ?_; kernel_rfl) | (refine VR.slice ?_; kernel_rfl) | (exact VR.sliceN _ _) | (refine VR.map ?_; kernel_rfl) | (exact VR.clean _ rfl) | (refine VR.aggOf ?_) | (exact OR.win (flatR_clean (fun _ => rfl) _)) | (exact OR.clean rfl (flatR_clean (fun _ => rfl) _)) | (refine OR.cellsOf ?_) | (exact AR.same _ rfl) | (refine AR.consOf ?_ ?_) | (exact trivial) | (exact VR.sliceZ _ _ _) | (refine GR.rw ?_) | (refine GR.ro ?_) | (exact GR.abs rfl) | (exact idle_rw _) | (exact idle_ro _) | (refine VR.intOf ?_; (· first | rfl | (simp only [IntKind.wrap_i64]; omega) | (simp; done) | (simp; omega))) |  (refine And.intro ?_ ?_; (· (first | decide | omega | (simp only [IntKind.wrap_i64]; omega) | (simp only [List.length_append]; omega) | (simp only [IntKind.wrap_i64, List.length_append]; omega) | (simp only [IntKind.wrap_i64, List.length_append, Int.natCast_add]; omega) | exact keepP_same _ _ _ | (repeat (first | exact trivial | refine And.intro rfl ?_)))); (conv => whnf)) | (refine fun (nc : Nat) (hnc : _ ≤ nc) => ?_; (conv => whnf)) | (refine bif2_true ?_ ?_; (· assumption); (conv => whnf)) | (refine bif2_false ?_ ?_; (· assumption); (conv => whnf)) | (refine bif2_true ?_ ?_; (· first | assumption | (refine decide_eq_true ?_; omega) | (refine decide_eq_false ?_; omega) | (refine beq_t ?_; omega) | (refine beq_f ?_; omega) | (refine bne_t ?_; omega) | (refine bne_f ?_; omega) | (refine ble_t ?_; omega) | (refine ble_f ?_; omega) | (simp [*]; done)); (conv => whnf)) | (refine bif2_false ?_ ?_; (· first | assumption | (refine decide_eq_true ?_; omega) | (refine decide_eq_false ?_; omega) | (refine beq_t ?_; omega) | (refine beq_f ?_; omega) | (refine bne_t ?_; omega) | (refine bne_f ?_; omega) | (refine ble_t ?_; omega) | (refine ble_f ?_; omega) | (simp [*]; done)); (conv => whnf)) | (refine bif2_not ?_; (conv => whnf)) | (refine amb_no ?_ ?_; (· first | exact Nat.succ_ne_zero _ | omega); (conv => whnf)) | (refine And.intro ?_ (fun (hc0 : _ = 0) => ?_) <;> (conv => whnf)) | (refine bif2_ble (fun h => ?_) (fun h => ?_) <;> (conv => whnf)) | (refine bif2_dec (fun h => ?_) (fun h => ?_) <;> (conv => whnf)) | (refine bif2_beq (fun h => ?_) (fun h => ?_) <;> (conv => whnf)) | (refine bif2_bne (fun h => ?_) (fun h => ?_) <;> (conv => whnf)) | (refine bif2_split (fun h => ?_) (fun h => ?_) <;> (conv => whnf)))
        all_goals trace_state
      · rintro ⟨s, n, hn⟩
        dsimp only
        have hnx : n ≤ x.length := by omega
        (conv => whnf)
        refine raw_next rfl rfl rfl (fun y hy => by obtain ⟨e, he, rfl⟩ := List.mem_map.1 hy; exact hI.lt e he) (fun hl => ?_) (fun y hy => ?_)
        · have hz : lfE E s = [] := by rw [lfR_map] at hl; exact List.map_eq_nil_iff.1 hl
          rw [hz] at hn
          have hn2 : n = x.length := by simpa [sumE] using hn
          subst hn2
          (conv => whnf)
          repeat' (first | (exact Fin.mk [.v (i64 (x.length : Int))] (some (NetR x)) [i64 (x.length : Int)] [500, 501, 503] rfl (.plain (.cons (.v rfl) .nil)) (pack1 rfl rfl hI hb (Or.inr rfl) (fun _ => rfl)) ⟨rfl, rfl⟩ ) | (refine @And.intro (chkAll _ = true) _ ?_ ?_; (· kernel_rfl); (conv => whnf)) | (refine JoinG.direct ?_; (conv => whnf)) | (refine AppG.mk ?_; (conv => whnf)) | (refine both_intro ?_ ?_ <;> (conv => whnf)) | (exact VR.int _ _) | (exact VR.bool _) | (refine VR.ptr ?_; kernel_rfl) | (refine VR.slice ?_; kernel_rfl) | (exact VR.sliceN _ _) | (refine VR.map ?_; kernel_rfl) | (exact VR.clean _ rfl) | (refine VR.aggOf ?_) | (exact OR.win (flatR_clean (fun _ => rfl) _)) | (exact OR.clean rfl (flatR_clean (fun _ => rfl) _)) | (refine OR.cellsOf ?_) | (exact AR.same _ rfl) | (refine AR.consOf ?_ ?_) | (exact trivial) | (exact VR.sliceZ _ _ _) | (refine GR.rw ?_) | (refine GR.ro ?_) | (exact GR.abs rfl) | (exact idle_rw _) | (exact idle_ro _) | (refine VR.intOf ?_; (· first | rfl | (simp only [IntKind.wrap_i64]; omega) | (simp; done) | (simp; omega))) |  (refine And.intro ?_ ?_; (· (first | decide | omega | (simp only [IntKind.wrap_i64]; omega) | (simp only [List.length_append]; omega) | (simp only [IntKind.wrap_i64, List.length_append]; omega) | (simp only [IntKind.wrap_i64, List.length_append, Int.natCast_add]; omega) | exact keepP_same _ _ _ | (repeat (first | exact trivial | refine And.intro rfl ?_)))); (conv => whnf)) | (refine fun (nc : Nat) (hnc : _ ≤ nc) => ?_; (conv => whnf)) | (refine bif2_true ?_ ?_; (· assumption); (conv => whnf)) | (refine bif2_false ?_ ?_; (· assumption); (conv => whnf)) | (refine bif2_true ?_ ?_; (· first | assumption | (refine decide_eq_true ?_; omega) | (refine decide_eq_false ?_; omega) | (refine beq_t ?_; omega) | (refine beq_f ?_; omega) | (refine bne_t ?_; omega) | (refine bne_f ?_; omega) | (refine ble_t ?_; omega) | (refine ble_f ?_; omega) | (simp [*]; done)); (conv => whnf)) | (refine bif2_false ?_ ?_; (· first | assumption | (refine decide_eq_true ?_; omega) | (refine decide_eq_false ?_; omega) | (refine beq_t ?_; omega) | (refine beq_f ?_; omega) | (refine bne_t ?_; omega) | (refine bne_f ?_; omega) | (refine ble_t ?_; omega) | (refine ble_f ?_; omega) | (simp [*]; done)); (conv => whnf)) | (refine bif2_not ?_; (conv => whnf)) | (refine amb_no ?_ ?_; (· first | exact Nat.succ_ne_zero _ | omega); (conv => whnf)) | (refine And.intro ?_ (fun (hc0 : _ = 0) => ?_) <;> (conv => whnf)) | (refine bif2_ble (fun h => ?_) (fun h => ?_) <;> (conv => whnf)) | (refine bif2_dec (fun h => ?_) (fun h => ?_) <;> (conv => whnf)) | (refine bif2_beq (fun h => ?_) (fun h => ?_) <;> (conv => whnf)) | (refine bif2_bne (fun h => ?_) (fun h => ?_) <;> (conv => whnf)) | (refine bif2_split (fun h => ?_) (fun h => ?_) <;> (conv => whnf)))
          all_goals trace_state
        · rw [lfR_map] at hy
          obtain ⟨e, he, rfl⟩ := List.mem_map.1 hy
          have hE : e ∈ E := (List.mem_filter.1 he).1
          have hp := lfE_push he hI.bn
          have hs2 := sumE_perm hp
          rw [sumE_cons] at hs2
          have hlen := hp.length_eq
          simp only [List.length_cons] at hlen
          have hmem : gN none 502 e ∈ E.map (gN none 502) := List.mem_map.2 ⟨e, hE, rfl⟩
          have hbn : ((E.map (gN none 502)).map (·.n)).Nodup := by rw [gE_n]; exact hI.bn
          have hw : IntKind.i64.wrap ((n : Int) + (e.L.length : Int)) = ((n + e.L.length : Nat) : Int) := by rw [IntKind.wrap_i64]; omega
          (conv => whnf)
          repeat' (first | (refine raw_entry rfl rfl rfl hmem hbn ?_; (conv => whnf)) | (refine @And.intro (chkAll _ = true) _ ?_ ?_; (· kernel_rfl); (conv => whnf)) | (refine JoinG.direct ?_; (conv => whnf)) | (refine AppG.mk ?_; (conv => whnf)) | (refine both_intro ?_ ?_ <;> (conv => whnf)) | (exact VR.int _ _) | (exact VR.bool _) | (refine VR.ptr ?_; kernel_rfl) | (refine VR.slice ?_; kernel_rfl) | (exact VR.sliceN _ _) | (refine VR.map ?_; kernel_rfl) | (exact VR.clean _ rfl) | (refine VR.aggOf ?_) | (exact OR.win (flatR_clean (fun _ => rfl) _)) | (exact OR.clean rfl (flatR_clean (fun _ => rfl) _)) | (refine OR.cellsOf ?_) | (exact AR.same _ rfl) | (refine AR.consOf ?_ ?_) | (exact trivial) | (exact VR.sliceZ _ _ _) | (refine GR.rw ?_) | (refine GR.ro ?_) | (exact GR.abs rfl) | (exact idle_rw _) | (exact idle_ro _) | (refine VR.intOf ?_; (· first | rfl | (simp only [IntKind.wrap_i64]; omega) | (simp; done) | (simp; omega))) |  (refine And.intro ?_ ?_; (· (first | decide | omega | (simp only [IntKind.wrap_i64]; omega) | (simp only [List.length_append]; omega) | (simp only [IntKind.wrap_i64, List.length_append]; omega) | (simp only [IntKind.wrap_i64, List.length_append, Int.natCast_add]; omega) | exact keepP_same _ _ _ | (repeat (first | exact trivial | refine And.intro rfl ?_)))); (conv => whnf)) | (refine fun (nc : Nat) (hnc : _ ≤ nc) => ?_; (conv => whnf)) | (refine bif2_true ?_ ?_; (· assumption); (conv => whnf)) | (refine bif2_false ?_ ?_; (· assumption); (conv => whnf)) | (refine bif2_true ?_ ?_; (· first | assumption | (refine decide_eq_true ?_; omega) | (refine decide_eq_false ?_; omega) | (refine beq_t ?_; omega) | (refine beq_f ?_; omega) | (refine bne_t ?_; omega) | (refine bne_f ?_; omega) | (refine ble_t ?_; omega) | (refine ble_f ?_; omega) | (simp [*]; done)); (conv => whnf)) | (refine bif2_false ?_ ?_; (· first | assumption | (refine decide_eq_true ?_; omega) | (refine decide_eq_false ?_; omega) | (refine beq_t ?_; omega) | (refine beq_f ?_; omega) | (refine bne_t ?_; omega) | (refine bne_f ?_; omega) | (refine ble_t ?_; omega) | (refine ble_f ?_; omega) | (simp [*]; done)); (conv => whnf)) | (refine bif2_not ?_; (conv => whnf)) | (refine amb_no ?_ ?_; (· first | exact Nat.succ_ne_zero _ | omega); (conv => whnf)) | (refine And.intro ?_ (fun (hc0 : _ = 0) => ?_) <;> (conv => whnf)) | (refine bif2_ble (fun h => ?_) (fun h => ?_) <;> (conv => whnf)) | (refine bif2_dec (fun h => ?_) (fun h => ?_) <;> (conv => whnf)) | (refine bif2_beq (fun h => ?_) (fun h => ?_) <;> (conv => whnf)) | (refine bif2_bne (fun h => ?_) (fun h => ?_) <;> (conv => whnf)) | (refine bif2_split (fun h => ?_) (fun h => ?_) <;> (conv => whnf)))
          refine Exists.intro ⟨s.push e.n, n + e.L.length, by omega⟩ (And.intro (by simp only; omega) (Wk.auto [0, 12] [] (by kernel_rfl) ?_ ?_)) <;> (conv => whnf)
          repeat' (first | (exact GR.lits rfl rfl ) | ((refine OR.iter _ _ _ ?_; kernel_rfl)) | ((refine VR.intOf ?_; (· exact hw.symm))) | (refine @And.intro (chkAll _ = true) _ ?_ ?_; (· kernel_rfl); (conv => whnf)) | (refine JoinG.direct ?_; (conv => whnf)) | (refine AppG.mk ?_; (conv => whnf)) | (refine both_intro ?_ ?_ <;> (conv => whnf)) | (exact VR.int _ _) | (exact VR.bool _) | (refine VR.ptr ?_; kernel_rfl) | (refine VR.slice ?_; kernel_rfl) | (exact VR.sliceN _ _) | (refine VR.map ?_; kernel_rfl) | (exact VR.clean _ rfl) | (refine VR.aggOf ?_) | (exact OR.win (flatR_clean (fun _ => rfl) _)) | (exact OR.clean rfl (flatR_clean (fun _ => rfl) _)) | (refine OR.cellsOf ?_) | (exact AR.same _ rfl) | (refine AR.consOf ?_ ?_) | (exact trivial) | (exact VR.sliceZ _ _ _) | (refine GR.rw ?_) | (refine GR.ro ?_) | (exact GR.abs rfl) | (exact idle_rw _) | (exact idle_ro _) | (refine VR.intOf ?_; (· first | rfl | (simp only [IntKind.wrap_i64]; omega) | (simp; done) | (simp; omega))) |  (refine And.intro ?_ ?_; (· (first | decide | omega | (simp only [IntKind.wrap_i64]; omega) | (simp only [List.length_append]; omega) | (simp only [IntKind.wrap_i64, List.length_append]; omega) | (simp only [IntKind.wrap_i64, List.length_append, Int.natCast_add]; omega) | exact keepP_same _ _ _ | (repeat (first | exact trivial | refine And.intro rfl ?_)))); (conv => whnf)) | (refine fun (nc : Nat) (hnc : _ ≤ nc) => ?_; (conv => whnf)) | (refine bif2_true ?_ ?_; (· assumption); (conv => whnf)) | (refine bif2_false ?_ ?_; (· assumption); (conv => whnf)) | (refine bif2_true ?_ ?_; (· first | assumption | (refine decide_eq_true ?_; omega) | (refine decide_eq_false ?_; omega) | (refine beq_t ?_; omega) | (refine beq_f ?_; omega) | (refine bne_t ?_; omega) | (refine bne_f ?_; omega) | (refine ble_t ?_; omega) | (refine ble_f ?_; omega) | (simp [*]; done)); (conv => whnf)) | (refine bif2_false ?_ ?_; (· first | assumption | (refine decide_eq_true ?_; omega) | (refine decide_eq_false ?_; omega) | (refine beq_t ?_; omega) | (refine beq_f ?_; omega) | (refine bne_t ?_; omega) | (refine bne_f ?_; omega) | (refine ble_t ?_; omega) | (refine ble_f ?_; omega) | (simp [*]; done)); (conv => whnf)) | (refine bif2_not ?_; (conv => whnf)) | (refine amb_no ?_ ?_; (· first | exact Nat.succ_ne_zero _ | omega); (conv => whnf)) | (refine And.intro ?_ (fun (hc0 : _ = 0) => ?_) <;> (conv => whnf)) | (refine bif2_ble (fun h => ?_) (fun h => ?_) <;> (conv => whnf)) | (refine bif2_dec (fun h => ?_) (fun h => ?_) <;> (conv => whnf)) | (refine bif2_beq (fun h => ?_) (fun h => ?_) <;> (conv => whnf)) | (refine bif2_bne (fun h => ?_) (fun h => ?_) <;> (conv => whnf)) | (refine bif2_split (fun h => ?_) (fun h => ?_) <;> (conv => whnf)))
          all_goals trace_state
end Go.Proofs.YtkcmhcgmiflgbaaDoor

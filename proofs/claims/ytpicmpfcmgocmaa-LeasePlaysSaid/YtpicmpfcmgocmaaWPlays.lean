/- What any calls tell, and the lease behind each: the program's answer is the reference's. -/
import Derived.Test.YtpicmpfcmgocmaaLeaseG
namespace Go.Proofs.Ytpicmpfcmgocmaa
open Go.RowKit Go.ChangeShapes Go.WideShapes Go.ChangeAt
def PRel (w : World) (n s x : Nat) (span : Int) (i : Value) (wr : World) : Prop :=
  ∃ (k : Nat) (h e u : Int), i = .int .i64 k ∧ k ≤ n ∧ StoreAt wr s span h e u ∧ Blk wr x 42 #[.int .i64 span, .int .i64 h, .int .i64 e, .int .i64 u] ∧ Gr w wr ∧ -1 ≤ h ∧ 0 ≤ e ∧ e ≤ 4294967295
structure PS (w : World) (s x a : Nat) (span h e u k0 k1 k2 k3 : Int) (w' : World) : Prop where
  st : StoreAt w' s span h e u
  bx : Blk w' x 42 #[.int .i64 span, .int .i64 h, .int .i64 e, .int .i64 u]
  ba : Blk w' a 46 #[.int .i64 k0, .int .i64 k1, .int .i64 k2, .int .i64 k3]
  gr : Gr w w'
theorem PS.go {w : World} {s x a : Nat} {span h e u k0 k1 k2 k3 : Int} {w1 w2 : World} (hg : Gr w1 w2) (p : PS w s x a span h e u k0 k1 k2 k3 w1) : PS w s x a span h e u k0 k1 k2 k3 w2 :=
  ⟨p.st.gr hg, p.bx.gr hg, p.ba.gr hg, p.gr.trans hg⟩
theorem PS.drew {w : World} {s x a : Nat} {span h e u k0 k1 k2 k3 : Int} {w1 : World} (p : PS w s x a span h e u k0 k1 k2 k3 w1) : PS w s x a span h e u k0 k1 k2 k3 w1.drew := p.go ((Gr.refl _).drew)
theorem act_cells {w : World} {A : Option Addr} {n : Nat} (h : SliceAt w A n 4 [.i .i64, .i .i64, .i .i64, .i .i64]) {k : Nat} (hk : k < n) :
    ∃ (b off : Nat) (k0 k1 k2 k3 : Int), A = some ⟨b, off, none⟩ ∧ b < w.heap.size ∧ (w.cell? ⟨b, off + k * 4, none⟩ = some (.int .i64 k0) ∧ I64 k0) ∧ (w.cell? ⟨b, off + k * 4 + 1, none⟩ = some (.int .i64 k1) ∧ I64 k1)
      ∧ (w.cell? ⟨b, off + k * 4 + 2, none⟩ = some (.int .i64 k2) ∧ I64 k2) ∧ (w.cell? ⟨b, off + k * 4 + 3, none⟩ = some (.int .i64 k3) ∧ I64 k3) := by
  obtain ⟨b, off, rfl, hb, hc⟩ := h k hk
  obtain ⟨v0, e0, a0, rfl, i0⟩ := hc 0 (.i .i64) rfl
  obtain ⟨v1, e1, a1, rfl, i1⟩ := hc 1 (.i .i64) rfl
  obtain ⟨v2, e2, a2, rfl, i2⟩ := hc 2 (.i .i64) rfl
  obtain ⟨v3, e3, a3, rfl, i3⟩ := hc 3 (.i .i64) rfl
  exact ⟨b, off, a0, a1, a2, a3, rfl, hb, ⟨e0, I64_wf i0⟩, ⟨e1, I64_wf i1⟩, ⟨e2, I64_wf i2⟩, ⟨e3, I64_wf i3⟩⟩
theorem acq_bnd {now who h e u : Int} (b1 : -1 ≤ h) (b2 : 0 ≤ e) (b3 : e ≤ 4294967295) :
    -1 ≤ pickV (chgOk (chgR now who) (acqE h e u now who)) who h ∧ 0 ≤ pickV (chgOk (chgR now who) (acqE h e u now who)) (e + 1) e ∧ pickV (chgOk (chgR now who) (acqE h e u now who)) (e + 1) e ≤ 4294967295 := by
  cases hr : chgR now who
  · exact ⟨b1, b2, b3⟩
  · have hw : 0 ≤ who := by unfold chgR rightB at hr; simp at hr; omega
    unfold chgOk acqE
    by_cases hb : heldB h u now = true
    · rw [if_pos hb]
      by_cases hb2 : (h == who) = true
      · rw [if_pos hb2]; exact ⟨b1, b2, b3⟩
      · rw [if_neg hb2]; exact ⟨b1, b2, b3⟩
    · rw [if_neg hb]
      by_cases hb2 : (e == 4294967295) = true
      · rw [if_pos hb2]; exact ⟨b1, b2, b3⟩
      · rw [if_neg hb2]
        have : e ≠ 4294967295 := by simpa using hb2
        refine ⟨?_, ?_, ?_⟩
        · change -1 ≤ who; omega
        · change 0 ≤ e + 1; omega
        · change e + 1 ≤ 4294967295; omega
theorem pick_bnd {b : Bool} {h : Int} (b1 : -1 ≤ h) : -1 ≤ pickV b (-1) h := by cases b <;> first | exact b1 | exact (by decide : (-1 : Int) ≤ -1)
theorem release_k {now who ep span h e u : Int} {er h' u' : Int} {s : Nat} {w : World} (hs : StoreAt w s span h e u) (hsp : (span == 0) = false)
    (h2 : chgE (chgR now who) (ledE (leadsB h e u now who ep)) = er) (h3 : pickV (chgOk (chgR now who) (ledE (leadsB h e u now who ep))) (-1) h = h')
    (h5 : pickV (chgOk (chgR now who) (ledE (leadsB h e u now who ep))) 0 u = u') :
    Calls Try.prog 35 #[.pointer (some ⟨s, 0, none⟩), .int .i64 now, .int .i64 who, .int .i64 ep] w (KPost w s span h' e u' (.int .i64 er)) := by
  refine (release_c now who ep span h e u s w hs hsp).mono ?_
  rintro e' w' ⟨rfl, hb, hst⟩
  rw [h3, h5, pickV_same] at hst
  exact ⟨by rw [h2], hb, hst⟩
theorem racquire_k {now who span h e u : Int} {n er h' ep' u' : Int} {w : World} (hh : -1 ≤ h) (hsp : (span == 0) = false) (he0 : 0 ≤ e) (he1 : e ≤ 4294967295)
    (h1 : acqV (chgOk (chgR now who) (acqE h e u now who)) (e + 1) = n) (h2 : chgE (chgR now who) (acqE h e u now who) = er) (h3 : pickV (chgOk (chgR now who) (acqE h e u now who)) who h = h')
    (h4 : pickV (chgOk (chgR now who) (acqE h e u now who)) (e + 1) e = ep') (h5 : pickV (chgOk (chgR now who) (acqE h e u now who)) (laterV now span) u = u') :
    Calls Try.prog 32 #[.agg #[.int .i64 (span), .int .i64 (h), .int .i64 (e), .int .i64 (u)], .int .i64 now, .int .i64 who] w fun e' w' => e' = .returned (.tuple #[.agg #[.int .i64 span, .int .i64 h', .int .i64 ep', .int .i64 u'], .int .i64 n, .int .i64 er]) ∧ Gr w w' := by
  subst h1 h2 h3 h4 h5
  exact racquire_c now who span h e u w hh hsp he0 he1
theorem rrenew_k {now who ep span h e u : Int} {er u' : Int} {w : World} (hh : -1 ≤ h) (hsp : 0 < span)
    (h2 : chgE (chgR now who) (ledE (leadsB h e u now who ep)) = er) (h5 : pickV (chgOk (chgR now who) (ledE (leadsB h e u now who ep))) (max u (laterV now span)) u = u') :
    Calls Try.prog 34 #[.agg #[.int .i64 (span), .int .i64 (h), .int .i64 (e), .int .i64 (u)], .int .i64 now, .int .i64 who, .int .i64 ep] w fun e' w' => e' = .returned (.tuple #[.agg #[.int .i64 span, .int .i64 h, .int .i64 e, .int .i64 u'], .int .i64 er]) ∧ Gr w w' := by
  subst h2 h5
  exact rrenew_c now who ep span h e u w hh hsp
theorem rrelease_k {now who ep span h e u : Int} {er h' u' : Int} {w : World} (hh : -1 ≤ h) (hsp : 0 < span)
    (h2 : chgE (chgR now who) (ledE (leadsB h e u now who ep)) = er) (h3 : pickV (chgOk (chgR now who) (ledE (leadsB h e u now who ep))) (-1) h = h') (h5 : pickV (chgOk (chgR now who) (ledE (leadsB h e u now who ep))) 0 u = u') :
    Calls Try.prog 36 #[.agg #[.int .i64 (span), .int .i64 (h), .int .i64 (e), .int .i64 (u)], .int .i64 now, .int .i64 who, .int .i64 ep] w fun e' w' => e' = .returned (.tuple #[.agg #[.int .i64 span, .int .i64 h', .int .i64 e, .int .i64 u'], .int .i64 er]) ∧ Gr w w' := by
  subst h2 h3 h5
  exact rrelease_c now who ep span h e u w hh hsp
theorem StoreAt.far {w : World} {s x : Nat} {span h e u : Int} {t : TypeId} {cs : Array Value} (hs : StoreAt w s span h e u) (hx : Blk w x t cs) (hne : x ≠ s) (ht : t ≠ 40) (o : Nat) (v : Value) : StoreAt (w.setCell ⟨x, o, none⟩ v) s span h e u := by
  obtain ⟨b, h1, h2⟩ := hs
  exact ⟨b, h1.far (p := ⟨x, o, none⟩) (Ne.symm hne) v, h2.far (p := ⟨x, o, none⟩) (Ne.symm (blk_ne hx h2 ht)) v⟩
theorem PS.set1 {w : World} {s x a : Nat} {span h e u k0 k1 k2 k3 : Int} {w4 : World} {cs : Array Value} (hst : StoreAt w4 s span h e u) (bx : Blk w4 x 42 cs) (ba : Blk w4 a 46 #[.int .i64 k0, .int .i64 k1, .int .i64 k2, .int .i64 k3])
    (hg : Gr w w4) (hx : w.heap.size ≤ x) (hax : x ≠ a) (hsx : x ≠ s) (v0 v1 v2 v3 : Value) (hcs : cs.size = 4) (e0 : v0 = .int .i64 span) (e1 : v1 = .int .i64 h) (e2 : v2 = .int .i64 e) (e3 : v3 = .int .i64 u) :
    PS w s x a span h e u k0 k1 k2 k3 ((((w4.setCell ⟨x, 0, none⟩ v0).setCell ⟨x, 1, none⟩ v1).setCell ⟨x, 2, none⟩ v2).setCell ⟨x, 3, none⟩ v3) := by
  subst e0 e1 e2 e3
  obtain ⟨l⟩ := cs
  obtain ⟨c0, c1, c2, c3, rfl⟩ : ∃ c0 c1 c2 c3, l = [c0, c1, c2, c3] := by
    match l, hcs with
    | [c0, c1, c2, c3], _ => exact ⟨c0, c1, c2, c3, rfl⟩
  have ht : 42 ≠ 40 := by decide
  refine ⟨?_, ?_, ?_, ?_⟩
  · exact (((hst.far bx hsx ht 0 _).far (bx.set_ 0 _) hsx ht 1 _).far ((bx.set_ 0 _).set_ 1 _) hsx ht 2 _).far (((bx.set_ 0 _).set_ 1 _).set_ 2 _) hsx ht 3 _
  · exact (((bx.set_ 0 _).set_ 1 _).set_ 2 _).set_ 3 _
  · exact (((ba.far (p := ⟨x, 0, none⟩) (Ne.symm hax) _).far (p := ⟨x, 1, none⟩) (Ne.symm hax) _).far (p := ⟨x, 2, none⟩) (Ne.symm hax) _).far (p := ⟨x, 3, none⟩) (Ne.symm hax) _
  · exact ((((hg.setCell (p := ⟨x, 0, none⟩) hx _).setCell (p := ⟨x, 1, none⟩) hx _).setCell (p := ⟨x, 2, none⟩) hx _).setCell (p := ⟨x, 3, none⟩) hx _)
theorem PS.rules (w : World) (s x a : Nat) (span h e u k0 k1 k2 k3 : Int) :
    (∀ w', PS w s x a span h e u k0 k1 k2 k3 w' → w'.cell? ⟨x, 0, none⟩ = some (.int .i64 span)) ∧ (∀ w', PS w s x a span h e u k0 k1 k2 k3 w' → w'.cell? ⟨x, 1, none⟩ = some (.int .i64 h)) ∧
    (∀ w', PS w s x a span h e u k0 k1 k2 k3 w' → w'.cell? ⟨x, 2, none⟩ = some (.int .i64 e)) ∧ (∀ w', PS w s x a span h e u k0 k1 k2 k3 w' → w'.cell? ⟨x, 3, none⟩ = some (.int .i64 u)) ∧
    (∀ w', PS w s x a span h e u k0 k1 k2 k3 w' → w'.cell? ⟨a, 1, none⟩ = some (.int .i64 k1)) ∧ (∀ w', PS w s x a span h e u k0 k1 k2 k3 w' → w'.cell? ⟨a, 2, none⟩ = some (.int .i64 k2)) ∧
    (∀ w', PS w s x a span h e u k0 k1 k2 k3 w' → w'.cell? ⟨a, 3, none⟩ = some (.int .i64 k3)) :=
  ⟨fun _ p => p.bx.cell 0, fun _ p => p.bx.cell 1, fun _ p => p.bx.cell 2, fun _ p => p.bx.cell 3, fun _ p => p.ba.cell 1, fun _ p => p.ba.cell 2, fun _ p => p.ba.cell 3⟩

set_option maxRecDepth 100000 in
set_option maxHeartbeats 8000000 in
theorem leasePlays_walk (span : Int) (hi : I64 span) (A : Option Addr) (n c : Nat) (hn : n ≤ c) (hc : c ≤ maxLen) (w : World) (hs : SliceAt w A n 4 [.i .i64, .i .i64, .i .i64, .i .i64]) :
    Calls Try.prog 7 #[.int .i64 span, .slice A n c] w fun e w' => e = .returned (.bool true) ∧ Gr w w' := by
  have HZ := hid hs
  clear hs
  have hm : n ≤ 9223372036854775807 := by unfold maxLen at hc; omega
  clear hc hn
  by_cases hlen : n ≤ 100
  · cases hr : rightB span 1 64
    · have h1 : newP false w.heap.size = .pointer none := rfl
      go_enter Try.func7, Try.ntmps7
      go_wp2_with fail
      refine (new_c _ _).mono ?_
      rintro e' w1 ⟨rfl, hg1, hs1⟩
      clear hs1
      go_wp2_with fail
      refine (rnew15_c _ _).mono ?_
      rintro e' w2 ⟨rfl, hg2⟩
      go_wp2_with fail
      refine wp_loop_rounds 1 ?_
      rw [rounds_succ]
      go_wp2_with fail
      all_goals
        refine (awake15_c _).mono ?_
        rintro e' w9 ⟨rfl, hg9⟩
        go_wp2_with fail
        go_ret
        refine ⟨by first | trivial | rfl, ?_⟩
        repeat (first | (with_reducible exact Gr.refl _) | (with_reducible assumption) | (with_reducible apply Gr.alloc) | (with_reducible apply Gr.drew) | ((with_reducible refine Gr.setCell ?_ ?_ _); rotate_left; focus (simp <;> omega)) | (with_reducible refine Gr.trans ?_ (by assumption)))
    · have hsp : 0 < span := by unfold rightB at hr; simp at hr; omega
      have hsp0 : (span == 0) = false := by simp; omega
      go_enter Try.func7, Try.ntmps7
      go_wp2_with fail
      refine (new_c _ _).mono ?_
      rintro e' w1 ⟨rfl, hg1, hs1⟩
      have hs1 := hs1 hr
      rw [hr]
      go_wp2_with fail
      refine (rnew15_c _ _).mono ?_
      rintro e' w2 ⟨rfl, hg2⟩
      rw [hr]
      go_wp2_with fail
      have HP : PRel w n w.heap.size w2.heap.size span (.int .i64 (0 : Nat)) (w2.alloc (Obj.cells #[.int .i64 span, .int .i64 (-1), .int .i64 0, .int .i64 0] 42)) :=
        ⟨0, -1, 0, 0, rfl, Nat.zero_le _, (hs1.gr hg2).alloc _, Blk.new_ rfl, (hg1.trans hg2).alloc _, by decide, by decide, by decide⟩
      obtain ⟨s, hs⟩ : ∃ s, s = w.heap.size := ⟨_, rfl⟩
      obtain ⟨x, hx⟩ : ∃ x, x = w2.heap.size := ⟨_, rfl⟩
      rw [← hs, ← hx] at HP
      rw [← hs, ← hx]
      have hws : w.heap.size ≤ s := by omega
      have hwx : w.heap.size ≤ x := by rw [hx]; exact (hg1.trans hg2).size
      have hsx : x ≠ s := by have := hs1.lt; have := hg2.size; omega
      have HX := hid (And.intro hws (And.intro hwx hsx))
      clear hws hwx hsx hs hx hs1 hg1 hg2
      go_loopw [9] (fun i wr => PRel w n s x span i wr) (fun i _ => n - (intOf i).toNat)
      case atStart => exact HP
      case round =>
        clear HP
        obtain ⟨k, h, e, u, rfl, hk, hst, bx, hgr, b1, b2, b3⟩ := hrel
        by_cases hlt : k < n
        · obtain ⟨b, off, k0, k1, k2, k3, rfl, hbl, ⟨c0, i0⟩, ⟨c1, i1⟩, ⟨c2, i2⟩, ⟨c3, i3⟩⟩ := act_cells HZ.out hlt
          have c0 := (hgr.cell (p := ⟨b, off + k * 4, none⟩) hbl).trans c0
          have c1 := (hgr.cell (p := ⟨b, off + k * 4 + 1, none⟩) hbl).trans c1
          have c2 := (hgr.cell (p := ⟨b, off + k * 4 + 2, none⟩) hbl).trans c2
          have c3 := (hgr.cell (p := ⟨b, off + k * 4 + 3, none⟩) hbl).trans c3
          obtain ⟨xc, xf, xz⟩ := bx.rules
          obtain ⟨hws, hwx, hsx⟩ := HX.out
          have haw : w.heap.size ≤ wr.heap.size := hgr.size
          have has : wr.heap.size ≠ s := by have := hst.lt; omega
          have hax : x ≠ wr.heap.size := by omega
          have HA := hid (And.intro haw (And.intro has hax))
          clear haw has hax hws hwx hsx
          cases q1 : (k0 == 1)
          · cases q2 : (k0 == 2)
            · cases q3 : (k0 == 3)
              · clear xc xf xz
                have B1 := b1
                have B2 := b2
                have B3 := b3
                have hPS : PS w s x wr.heap.size span h e u k0 k1 k2 k3 _ := ⟨hst.alloc _, bx.alloc _, Blk.new wr _ _, hgr.alloc _⟩
                go_wp2_with fail
                obtain ⟨r0, r1, r2, r3, r4, r5, r6⟩ := PS.rules w s x wr.heap.size span h e u k0 k1 k2 k3
                go_region_held3 (PS w s x wr.heap.size span h e u k0 k1 k2 k3) (first | exact hPS | exact hPS.drew | exact PS.go (by assumption) (by assumption)) (first | (go_at_call 37; refine (get_c _ _ _ _ _ _ (PS.st (by assumption))).mono ?_; rintro z6 w6 ⟨rfl, hg6⟩) | (go_at_call 38; refine (holds_c _ _ _ _ _ _ _ _ _ (PS.st (by assumption)) hsp).mono ?_; rintro z7 w7 ⟨rfl, hg7⟩) | (go_at_call 39; refine (rholds_c _ _ _ _ _ _ _ _ B1 hsp).mono ?_; rintro z8 w8 ⟨rfl, hg8⟩))
                all_goals
                  clear r0 r1 r2 r3 r4 r5 r6
                  go_wp2_with fail
                  all_goals
                    refine ⟨⟨k + 1, h, e, u, by go_num, by omega, ?_, ?_, ?_, B1, B2, B3⟩, by simp [intOf]; omega⟩
                    · exact PS.st (by assumption)
                    · exact PS.bx (by assumption)
                    · exact PS.gr (by assumption)
              · clear xc xf xz
                obtain ⟨er, E2⟩ : ∃ z, chgE (chgR k1 k2) (ledE (leadsB h e u k1 k2 k3)) = z := ⟨_, rfl⟩
                obtain ⟨h', E3⟩ : ∃ z, pickV (chgOk (chgR k1 k2) (ledE (leadsB h e u k1 k2 k3))) (-1) h = z := ⟨_, rfl⟩
                obtain ⟨u', E5⟩ : ∃ z, pickV (chgOk (chgR k1 k2) (ledE (leadsB h e u k1 k2 k3))) 0 u = z := ⟨_, rfl⟩
                have B1 : -1 ≤ h' := by rw [← E3]; exact pick_bnd b1
                have HE := hid (And.intro E2 (And.intro E3 E5))
                clear E2 E3 E5
                have B2 := b2
                have B3 := b3
                go_wp2_with fail
                refine (release_k (hst.alloc _) hsp0 HE.out.1 HE.out.2.1 HE.out.2.2).mono ?_
                rintro z1 w3 ⟨rfl, hB3, hst3⟩
                have bx3 := hB3.blk (bx.alloc _) HX.out.2.2
                have ba3 := hB3.blk (Blk.new _ _ _) HA.out.2.1
                have hg3 : Gr w w3 := hB3.gr (hgr.alloc _) HX.out.1
                clear hB3
                obtain ⟨xc, xf, xz⟩ := bx3.rules
                obtain ⟨ac, af, az⟩ := ba3.rules
                go_wp2_with fail
                refine (rrelease_k b1 hsp HE.out.1 HE.out.2.1 HE.out.2.2).mono ?_
                rintro z1 w4 ⟨rfl, hg4⟩
                have bx4 := bx3.gr hg4
                have ba4 := ba3.gr hg4
                have hst4 := hst3.gr hg4
                clear xc xf xz ac af az
                obtain ⟨xc, xf, xz⟩ := bx4.rules
                obtain ⟨ac, af, az⟩ := ba4.rules
                go_wp2_with fail
                have hPS := PS.set1 (w := w) hst4 bx4 ba4 (hg3.trans hg4) HX.out.2.1 HA.out.2.2 HX.out.2.2 _ _ _ _ rfl rfl rfl rfl rfl
                clear xc xf xz ac af az bx4 ba4 hst4 bx3 ba3 hst3
                obtain ⟨r0, r1, r2, r3, r4, r5, r6⟩ := PS.rules w s x wr.heap.size span h' e u' k0 k1 k2 k3
                go_region_held3 (PS w s x wr.heap.size span h' e u' k0 k1 k2 k3) (first | exact hPS | exact hPS.drew | exact PS.go (by assumption) (by assumption)) (first | (go_at_call 37; refine (get_c _ _ _ _ _ _ (PS.st (by assumption))).mono ?_; rintro z6 w6 ⟨rfl, hg6⟩) | (go_at_call 38; refine (holds_c _ _ _ _ _ _ _ _ _ (PS.st (by assumption)) hsp).mono ?_; rintro z7 w7 ⟨rfl, hg7⟩) | (go_at_call 39; refine (rholds_c _ _ _ _ _ _ _ _ B1 hsp).mono ?_; rintro z8 w8 ⟨rfl, hg8⟩))
                all_goals
                  clear r0 r1 r2 r3 r4 r5 r6
                  go_wp2_with fail
                  all_goals
                    refine ⟨⟨k + 1, h', e, u', by go_num, by omega, ?_, ?_, ?_, B1, B2, B3⟩, by simp [intOf]; omega⟩
                    · exact PS.st (by assumption)
                    · exact PS.bx (by assumption)
                    · exact PS.gr (by assumption)
            · clear xc xf xz
              obtain ⟨er, E2⟩ : ∃ z, chgE (chgR k1 k2) (ledE (leadsB h e u k1 k2 k3)) = z := ⟨_, rfl⟩
              obtain ⟨u', E5⟩ : ∃ z, pickV (chgOk (chgR k1 k2) (ledE (leadsB h e u k1 k2 k3))) (max u (laterV k1 span)) u = z := ⟨_, rfl⟩
              have B1 := b1
              have HE := hid (And.intro E2 E5)
              clear E2 E5
              have B2 := b2
              have B3 := b3
              go_wp2_with fail
              refine (renew_k er h e u' (hst.alloc _) hsp0 HE.out.1 (pickV_same _ _) (pickV_same _ _) HE.out.2).mono ?_
              rintro z1 w3 ⟨rfl, hB3, hst3⟩
              have bx3 := hB3.blk (bx.alloc _) HX.out.2.2
              have ba3 := hB3.blk (Blk.new _ _ _) HA.out.2.1
              have hg3 : Gr w w3 := hB3.gr (hgr.alloc _) HX.out.1
              clear hB3
              obtain ⟨xc, xf, xz⟩ := bx3.rules
              obtain ⟨ac, af, az⟩ := ba3.rules
              go_wp2_with fail
              refine (rrenew_k b1 hsp HE.out.1 HE.out.2).mono ?_
              rintro z1 w4 ⟨rfl, hg4⟩
              have bx4 := bx3.gr hg4
              have ba4 := ba3.gr hg4
              have hst4 := hst3.gr hg4
              clear xc xf xz ac af az
              obtain ⟨xc, xf, xz⟩ := bx4.rules
              obtain ⟨ac, af, az⟩ := ba4.rules
              go_wp2_with fail
              have hPS := PS.set1 (w := w) hst4 bx4 ba4 (hg3.trans hg4) HX.out.2.1 HA.out.2.2 HX.out.2.2 _ _ _ _ rfl rfl rfl rfl rfl
              clear xc xf xz ac af az bx4 ba4 hst4 bx3 ba3 hst3
              obtain ⟨r0, r1, r2, r3, r4, r5, r6⟩ := PS.rules w s x wr.heap.size span h e u' k0 k1 k2 k3
              go_region_held3 (PS w s x wr.heap.size span h e u' k0 k1 k2 k3) (first | exact hPS | exact hPS.drew | exact PS.go (by assumption) (by assumption)) (first | (go_at_call 37; refine (get_c _ _ _ _ _ _ (PS.st (by assumption))).mono ?_; rintro z6 w6 ⟨rfl, hg6⟩) | (go_at_call 38; refine (holds_c _ _ _ _ _ _ _ _ _ (PS.st (by assumption)) hsp).mono ?_; rintro z7 w7 ⟨rfl, hg7⟩) | (go_at_call 39; refine (rholds_c _ _ _ _ _ _ _ _ B1 hsp).mono ?_; rintro z8 w8 ⟨rfl, hg8⟩))
              all_goals
                clear r0 r1 r2 r3 r4 r5 r6
                go_wp2_with fail
                all_goals
                  refine ⟨⟨k + 1, h, e, u', by go_num, by omega, ?_, ?_, ?_, B1, B2, B3⟩, by simp [intOf]; omega⟩
                  · exact PS.st (by assumption)
                  · exact PS.bx (by assumption)
                  · exact PS.gr (by assumption)
          · clear xc xf xz
            obtain ⟨n', E1⟩ : ∃ z, acqV (chgOk (chgR k1 k2) (acqE h e u k1 k2)) (e + 1) = z := ⟨_, rfl⟩
            obtain ⟨er, E2⟩ : ∃ z, chgE (chgR k1 k2) (acqE h e u k1 k2) = z := ⟨_, rfl⟩
            obtain ⟨h', E3⟩ : ∃ z, pickV (chgOk (chgR k1 k2) (acqE h e u k1 k2)) k2 h = z := ⟨_, rfl⟩
            obtain ⟨e', E4⟩ : ∃ z, pickV (chgOk (chgR k1 k2) (acqE h e u k1 k2)) (e + 1) e = z := ⟨_, rfl⟩
            obtain ⟨u', E5⟩ : ∃ z, pickV (chgOk (chgR k1 k2) (acqE h e u k1 k2)) (laterV k1 span) u = z := ⟨_, rfl⟩
            obtain ⟨B1, B2, B3⟩ := acq_bnd (now := k1) (who := k2) (u := u) b1 b2 b3
            rw [E3] at B1
            rw [E4] at B2 B3
            have HE := hid (And.intro E1 (And.intro E2 (And.intro E3 (And.intro E4 E5))))
            clear E1 E2 E3 E4 E5
            go_wp2_with fail
            refine (acquire_k n' er h' e' u' (hst.alloc _) hsp0 b2 b3 HE.out.1 HE.out.2.1 HE.out.2.2.1 HE.out.2.2.2.1 HE.out.2.2.2.2).mono ?_
            rintro z1 w3 ⟨rfl, hB3, hst3⟩
            have bx3 := hB3.blk (bx.alloc _) HX.out.2.2
            have ba3 := hB3.blk (Blk.new _ _ _) HA.out.2.1
            have hg3 : Gr w w3 := hB3.gr (hgr.alloc _) HX.out.1
            clear hB3
            obtain ⟨xc, xf, xz⟩ := bx3.rules
            obtain ⟨ac, af, az⟩ := ba3.rules
            go_wp2_with fail
            refine (racquire_k b1 hsp0 b2 b3 HE.out.1 HE.out.2.1 HE.out.2.2.1 HE.out.2.2.2.1 HE.out.2.2.2.2).mono ?_
            rintro z1 w4 ⟨rfl, hg4⟩
            have bx4 := bx3.gr hg4
            have ba4 := ba3.gr hg4
            have hst4 := hst3.gr hg4
            clear xc xf xz ac af az
            obtain ⟨xc, xf, xz⟩ := bx4.rules
            obtain ⟨ac, af, az⟩ := ba4.rules
            go_wp2_with fail
            have hPS := PS.set1 (w := w) hst4 bx4 ba4 (hg3.trans hg4) HX.out.2.1 HA.out.2.2 HX.out.2.2 _ _ _ _ rfl rfl rfl rfl rfl
            clear xc xf xz ac af az bx4 ba4 hst4 bx3 ba3 hst3
            obtain ⟨r0, r1, r2, r3, r4, r5, r6⟩ := PS.rules w s x wr.heap.size span h' e' u' k0 k1 k2 k3
            go_region_held3 (PS w s x wr.heap.size span h' e' u' k0 k1 k2 k3) (first | exact hPS | exact hPS.drew | exact PS.go (by assumption) (by assumption)) (first | (go_at_call 37; refine (get_c _ _ _ _ _ _ (PS.st (by assumption))).mono ?_; rintro z6 w6 ⟨rfl, hg6⟩) | (go_at_call 38; refine (holds_c _ _ _ _ _ _ _ _ _ (PS.st (by assumption)) hsp).mono ?_; rintro z7 w7 ⟨rfl, hg7⟩) | (go_at_call 39; refine (rholds_c _ _ _ _ _ _ _ _ B1 hsp).mono ?_; rintro z8 w8 ⟨rfl, hg8⟩))
            all_goals
              clear r0 r1 r2 r3 r4 r5 r6
              go_wp2_with fail
              all_goals
                refine ⟨⟨k + 1, h', e', u', by go_num, by omega, ?_, ?_, ?_, B1, B2, B3⟩, by simp [intOf]; omega⟩
                · exact PS.st (by assumption)
                · exact PS.bx (by assumption)
                · exact PS.gr (by assumption)
        · go_wp2_with fail
          refine (awake15_c _).mono ?_
          rintro e' w9 ⟨rfl, hg9⟩
          go_wp2_with fail
          go_ret
          refine ⟨by first | trivial | rfl, ?_⟩
          repeat (first | (with_reducible exact Gr.refl _) | (with_reducible assumption) | (with_reducible apply Gr.alloc) | (with_reducible apply Gr.drew) | ((with_reducible refine Gr.setCell ?_ ?_ _); rotate_left; focus (simp <;> omega)) | (with_reducible refine Gr.trans ?_ (by assumption)))
  · go_enter Try.func7, Try.ntmps7
    go_wp2_with fail
    refine (awake15_c _).mono ?_
    rintro e' w9 ⟨rfl, hg9⟩
    go_wp2_with fail
    go_ret
    refine ⟨by first | trivial | rfl, ?_⟩
    repeat (first | (with_reducible exact Gr.refl _) | (with_reducible assumption) | (with_reducible apply Gr.alloc) | (with_reducible apply Gr.drew) | ((with_reducible refine Gr.setCell ?_ ?_ _); rotate_left; focus (simp <;> omega)) | (with_reducible refine Gr.trans ?_ (by assumption)))
end Go.Proofs.Ytpicmpfcmgocmaa

/- What must come whatever the arguments are (package lease); calls at given numbers. -/
import Derived.Test.YtpicmpfcmgocmaaLeaseF
import Derived.Test.YtpicmpfcmgocmaaRead
namespace Go.Proofs.Ytpicmpfcmgocmaa
open Go.RowKit
@[simp] theorem newP_t (s : Nat) : newP true s = .pointer (some ⟨s, 0, none⟩) := rfl
@[simp] theorem newP_f (s : Nat) : newP false s = .pointer none := rfl
section
variable (a0 a1 a2 b0 b1 b2 : Int) (w : World)
theorem leaves_lease : leaves Try.prog 3 40 = some [.i .i64, .i .i64, .i .i64] := by kernel_rfl
theorem eql_lease : (Op.equalIn 10000 40 (.agg #[.int .i64 a0, .int .i64 a1, .int .i64 a2]) (.agg #[.int .i64 b0, .int .i64 b1, .int .i64 b2])).run Try.prog w = .ok (a0 == b0 && (a1 == b1 && a2 == b2)) w := by
  have := run_equalIn_leaves (P := Try.prog) 9997 3 40 w _ [.int .i64 a0, .int .i64 a1, .int .i64 a2] [.int .i64 b0, .int .i64 b1, .int .i64 b2] leaves_lease (by kernel_rfl) (.i (.i (.i .nil))) (.i (.i (.i .nil)))
  have ha : aggT Try.prog 40 = true := by kernel_rfl
  simp only [ofCells, ha, if_true] at this
  simpa [aggEq, leafEq] using this
theorem eqGuard_lease (op : BinOp) (x y : Operand) (xs ys : Array Value) : (eqGuard op 40 x y (.agg xs) (.agg ys)).run Try.prog w = .ok () w := run_eqGuard_agg w _ _ _ _ _ _ (by kernel_rfl)
end
attribute [go_sem] eql_lease eqGuard_lease
/-- A call at given numbers. -/
def KPost (w : World) (s : Nat) (span h e u : Int) (res : Value) (e' : Ending) (w' : World) : Prop := e' = .returned res ∧ But s w w' ∧ StoreAt w' s span h e u
theorem acquire_k {now who span h e u : Int} (n er h' ep' u' : Int) {s : Nat} {w : World} (hs : StoreAt w s span h e u) (hsp : (span == 0) = false) (he0 : 0 ≤ e) (he1 : e ≤ 4294967295)
    (h1 : acqV (chgOk (chgR now who) (acqE h e u now who)) (e + 1) = n) (h2 : chgE (chgR now who) (acqE h e u now who) = er) (h3 : pickV (chgOk (chgR now who) (acqE h e u now who)) who h = h')
    (h4 : pickV (chgOk (chgR now who) (acqE h e u now who)) (e + 1) e = ep') (h5 : pickV (chgOk (chgR now who) (acqE h e u now who)) (laterV now span) u = u') :
    Calls Try.prog 31 #[.pointer (some ⟨s, 0, none⟩), .int .i64 now, .int .i64 who] w (KPost w s span h' ep' u' (.tuple #[.int .i64 n, .int .i64 er])) := by
  refine (acquire_c now who span h e u s w hs hsp he0 he1).mono ?_
  rintro e' w' ⟨rfl, hb, hst⟩
  rw [h3, h4, h5] at hst
  exact ⟨by rw [h1, h2], hb, hst⟩
theorem renew_k {now who ep span h e u : Int} (er h' ep' u' : Int) {s : Nat} {w : World} (hs : StoreAt w s span h e u) (hsp : (span == 0) = false)
    (h2 : chgE (chgR now who) (ledE (leadsB h e u now who ep)) = er) (h3 : pickV (chgOk (chgR now who) (ledE (leadsB h e u now who ep))) h h = h')
    (h4 : pickV (chgOk (chgR now who) (ledE (leadsB h e u now who ep))) e e = ep') (h5 : pickV (chgOk (chgR now who) (ledE (leadsB h e u now who ep))) (max u (laterV now span)) u = u') :
    Calls Try.prog 33 #[.pointer (some ⟨s, 0, none⟩), .int .i64 now, .int .i64 who, .int .i64 ep] w (KPost w s span h' ep' u' (.int .i64 er)) := by
  refine (renew_c now who ep span h e u s w hs hsp).mono ?_
  rintro e' w' ⟨rfl, hb, hst⟩
  rw [h3, h4, h5] at hst
  exact ⟨by rw [h2], hb, hst⟩
set_option maxHeartbeats 1000000 in
theorem awake15_c (w : World) : Calls Try.prog 28 #[] w fun e' w' => e' = .returned (.bool true) ∧ Gr w w' := by
  have r5 : rightB 5 1 64 = true := by rfl
  go_enter Try.func28, Try.ntmps28
  go_wp2_with fail
  refine (new_c 5 _).mono ?_
  rintro e' w1 ⟨rfl, hg1, hs1⟩
  have hs1 := hs1 r5
  rw [r5]
  go_wp2_with fail
  refine (acquire_k 1 0 1 1 5 hs1 (by rfl) (by decide) (by decide) (by rfl) (by rfl) (by rfl) (by rfl) (by rfl)).mono ?_
  rintro e' w2 ⟨rfl, hg2, hs2⟩
  go_wp2_with fail
  refine (acquire_k 0 12 1 1 5 hs2 (by rfl) (by decide) (by decide) (by rfl) (by rfl) (by rfl) (by rfl) (by rfl)).mono ?_
  rintro e' w3 ⟨rfl, hg3, hs3⟩
  go_wp2_with fail
  refine (acquire_k 2 0 2 2 10 hs3 (by rfl) (by decide) (by decide) (by rfl) (by rfl) (by rfl) (by rfl) (by rfl)).mono ?_
  rintro e' w4 ⟨rfl, hg4, hs4⟩
  go_wp2_with fail
  refine (renew_k 11 2 2 10 hs4 (by rfl) (by rfl) (by rfl) (by rfl) (by rfl)).mono ?_
  rintro e' w5 ⟨rfl, hg5, hs5⟩
  go_wp2_with fail
  refine (get_c _ _ _ _ _ _ hs5).mono ?_
  rintro e' w6 ⟨rfl, hg6⟩
  go_wp2_with fail
  have hl : leadsB 2 2 10 9 2 2 = true := by rfl
  refine (holds_c _ _ _ _ _ _ _ _ _ (hs5.gr hg6) (by decide)).mono ?_
  rintro e' w7 ⟨rfl, hg7⟩
  rw [hl]
  go_wp2_with fail
  go_ret
  refine ⟨by first | trivial | rfl, ?_⟩
  have hx : But w.heap.size w w6 := ((((But.of_gr hg1).trans hg2).trans hg3).trans hg4).trans (hg5.trans (.of_gr hg6))
  exact (hx.gr (Gr.refl w) (Nat.le_refl _)).trans hg7
end Go.Proofs.Ytpicmpfcmgocmaa

/- A store that nobody made grants nothing. -/
import Derived.Test.YtpicmpfcmgocmaaLeaseN
namespace Go.Proofs.Ytpicmpfcmgocmaa
open Go.RowKit
structure NS (w : World) (p q : Option Addr) (b : Nat) (t : TypeId) (w' : World) : Prop where
  np : Nob w' p
  nq : Nob w' q
  bl : Blk w' b t #[.pointer p, .pointer q]
  gr : Gr w w'
theorem NS.go {w : World} {p q : Option Addr} {b : Nat} {t : TypeId} {w1 w2 : World} (hg : Gr w1 w2) (h : NS w p q b t w1) : NS w p q b t w2 := ⟨h.np.gr hg, h.nq.gr hg, h.bl.gr hg, h.gr.trans hg⟩
theorem NS.drew {w : World} {p q : Option Addr} {b : Nat} {t : TypeId} {w1 : World} (h : NS w p q b t w1) : NS w p q b t w1.drew := h.go ((Gr.refl _).drew)
theorem NS.rules (w : World) (p q : Option Addr) (b : Nat) (t : TypeId) : (∀ w', NS w p q b t w' → w'.cell? ⟨b, 0, none⟩ = some (.pointer p)) ∧ (∀ w', NS w p q b t w' → w'.cell? ⟨b, 1, none⟩ = some (.pointer q)) :=
  ⟨fun _ h => h.bl.cell 0, fun _ h => h.bl.cell 1⟩
set_option maxRecDepth 100000 in
set_option maxHeartbeats 4000000 in
theorem leaseNobody_walk (now : Int) (_ : I64 now) (who : Int) (_ : I64 who) (ep : Int) (_ : I64 ep) (w : World) :
    Calls Try.prog 9 #[.int .i64 now, .int .i64 who, .int .i64 ep] w fun e w' => e = .returned (.bool true) ∧ Gr w w' := by
  go_enter Try.func9, Try.ntmps9
  have hz : w.heap.size < w.heap.size + 1 := Nat.lt_succ_self _
  go_wp2_with fail
  have hN0 : NS w none (some ⟨w.heap.size, 0, none⟩) (w.heap.size + 1) 35 ((w.alloc (Obj.cells #[.int .i64 0, .pointer none] 65)).alloc (Obj.cells #[.pointer none, .pointer (some ⟨w.heap.size, 0, none⟩)] 35)) :=
    ⟨.inl rfl, .inr ⟨_, rfl, (Blk.new _ _ _).alloc _⟩, Blk.new_ (by simp), ((Gr.refl w).alloc _).alloc _⟩
  obtain ⟨r0, r1⟩ := NS.rules w none (some ⟨w.heap.size, 0, none⟩) (w.heap.size + 1) 35
  refine wp_loop_rounds 3 ?_
  rw [rounds_succ]
  go_wp2_with fail
  refine (acquire_n _ _ _ _ (NS.np hN0)).mono ?_
  rintro z1 w1 ⟨rfl, hg1⟩
  have hN1 := hN0.go hg1
  clear hN0 hg1
  go_wp2_with fail
  refine (renew_n _ _ _ _ _ (NS.np hN1)).mono ?_
  rintro z1 w2 ⟨rfl, hg2⟩
  have hN2 := hN1.go hg2
  clear hN1 hg2
  go_wp2_with fail
  refine (release_n _ _ _ _ _ (NS.np hN2)).mono ?_
  rintro z1 w3 ⟨rfl, hg3⟩
  have hN3 := hN2.go hg3
  clear hN2 hg3
  go_wp2_with fail
  refine (get_n _ _ (NS.np hN3)).mono ?_
  rintro z1 w4 ⟨rfl, hg4⟩
  have hN4 := hN3.go hg4
  clear hN3 hg4
  go_wp2_with fail
  refine (holds_n _ _ _ _ _ (NS.np hN4)).mono ?_
  rintro z1 w5 ⟨rfl, hg5⟩
  have hN5 := hN4.go hg5
  clear hN4 hg5
  go_wp2_with fail
  rw [rounds_succ]
  go_wp2_with fail
  refine (acquire_n _ _ _ _ (NS.nq hN5)).mono ?_
  rintro z1 w6 ⟨rfl, hg6⟩
  have hN6 := hN5.go hg6
  clear hN5 hg6
  go_wp2_with fail
  refine (renew_n _ _ _ _ _ (NS.nq hN6)).mono ?_
  rintro z1 w7 ⟨rfl, hg7⟩
  have hN7 := hN6.go hg7
  clear hN6 hg7
  go_wp2_with fail
  refine (release_n _ _ _ _ _ (NS.nq hN7)).mono ?_
  rintro z1 w8 ⟨rfl, hg8⟩
  have hN8 := hN7.go hg8
  clear hN7 hg8
  go_wp2_with fail
  refine (get_n _ _ (NS.nq hN8)).mono ?_
  rintro z1 w9 ⟨rfl, hg9⟩
  have hN9 := hN8.go hg9
  clear hN8 hg9
  go_wp2_with fail
  refine (holds_n _ _ _ _ _ (NS.nq hN9)).mono ?_
  rintro z1 w10 ⟨rfl, hg10⟩
  have hN10 := hN9.go hg10
  clear hN9 hg10
  go_wp2_with fail
  rw [rounds_succ]
  go_wp2_with fail
  refine (awake15_c _).mono ?_
  rintro z1 w99 ⟨rfl, hg99⟩
  go_wp2_with fail
  go_ret
  exact ⟨by first | trivial | rfl, hN10.gr.trans hg99⟩
end Go.Proofs.Ytpicmpfcmgocmaa

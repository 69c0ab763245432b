/- What slices.Delete does: a slice that is cut with three numbers; cells that are cleared. -/
import Derived.Test.YtkcmhcgmiflgbaaDoorNN9

namespace Go.Proofs.YtkcmhcgmiflgbaaDoor
open Go.RowKit
theorem AR.four {f : NM} {x y u v : Value} {z : Array Value} (h : AR f ⟨[x, y, u, v]⟩ z) : ∃ x' y' u' v', z = #[x', y', u', v'] ∧ VR f x x' ∧ VR f y y' ∧ VR f u u' ∧ VR f v v' := by
  obtain ⟨x', l, rfl, h1, h2⟩ := AR.cons (x' := undef) h
  obtain ⟨y', l2, e, h3, h4⟩ := AR.cons (x' := undef) h2
  cases e
  obtain ⟨u', l3, e, h5, h6⟩ := AR.cons (x' := undef) h4
  cases e
  obtain ⟨v', l4, e, h7, h8⟩ := AR.cons (x' := undef) h6
  cases e
  have : l4 = [] := by have := h8.1; exact List.eq_nil_of_length_eq_zero (by simpa using this.symm)
  subst this
  exact ⟨x', y', u', v', rfl, h1, h3, h5, h7⟩
section
variable {P : Program} {tt : List (Nat × TK)} (hT : TKok P tt) {o : Oper} {h : List (Nat × GO)} {ns : List Nat} {K : Value → List (Nat × GO) → List Nat → Prop}
include hT in
theorem raw_slice3 {t e : Nat} {i ei : TK} {x lo hi mx : Operand} {a : Option Addr} {len cap : Nat} {l j m : Int} (ho : o.op = .slice t x (some lo) (some hi) (some mx)) (hi2 : look tt t = some i) (hd : i.desc = .slice e) (hei : look tt e = some ei)
    (h0 : 0 ≤ l) (h1 : l ≤ j) (h2 : j ≤ m) (h3 : m ≤ cap) (hK : K hole h ns) : RawG P o [.slice a len cap, .int .i64 l, .int .i64 j, .int .i64 m] h ns K := by
  refine .mk (fun c e => by rw [ho] at e; cases e) fun c f tm act w ρ H hA => ?_
  rw [ho] at hA
  obtain ⟨x', l', j', m', eq, q1, q2, q3, q4⟩ := AR.four hA
  cases q2; cases q3; cases q4
  have ex : ρ x = x' ∧ ρ lo = .int .i64 l ∧ ρ hi = .int .i64 j ∧ ρ mx = .int .i64 m := by simpa [Op.operands] using eq
  obtain ⟨a', ha'⟩ : ∃ a', x' = .slice a' len cap := by cases q1 <;> exact ⟨_, rfl⟩
  subst ha'
  have hrun : (Instr.sliceAt t (.slice a' len cap) (some (.int .i64 l)) (some (.int .i64 j)) (some (.int .i64 m))).run P w = .ok (.slice (if m.toNat = l.toNat then a' else a'.map (·.add (l.toNat * ei.size))) (j.toNat - l.toNat) (m.toNat - l.toNat)) w := by
    have c1 : 0 ≤ m := by omega
    have c2 : 0 ≤ j := by omega
    have c3 : j ≤ (m.toNat : Int) := by omega
    have c4 : l ≤ (j.toNat : Int) := by omega
    simp only [Instr.sliceAt, Sem.run_bind, tk_und hT hi2, Result.andThen_ok, hd, Instr.slice]
    simp only [Instr.sliceBounds, Instr.sliceBound, asIntOf, pure_bind, h0, h3, c1, c2, c3, c4, and_self, if_true, Sem.run_pure, Result.andThen_ok, tk_size hT hei]
  refine ⟨.value (.slice (if m.toNat = l.toNat then a' else a'.map (·.add (l.toNat * ei.size))) (j.toNat - l.toNat) (m.toNat - l.toNat)), hole, _, h, ns, f, w, ?_, Or.inl rfl, .any _, H, hK⟩
  unfold execOp
  rw [ho]
  simp only [Option.map_some, ex.1, ex.2.1, ex.2.2.1, ex.2.2.2]
  exact exec_v0 hrun
include hT in
theorem raw_clear {ts : Array TypeId} {t e : Nat} {i ei : TK} {xs : Array Operand} {nm off n cap : Nat} {C r z : List Value} {ct : TypeId} (ho : o.op = .call ⟨.builtin .clear, xs, ts⟩) (ht : ts[0]? = some t) (hi2 : look tt t = some i) (hd : i.desc = .slice e) (hei : look tt e = some ei)
    (hn : 0 < n) (hl : look h nm = some (.rw (.cells ⟨C⟩ ct (0, 0)))) (hz : (Builtin.zeroCells ei.zero.cells n).toList = z) (hz1 : oneL z = true) (hzc : cleanL z = true) (hb : blitL off z C = some r)
    (hK : K (.tuple #[]) ((nm, .rw (.cells ⟨r⟩ ct)) :: h) ns) : RawG P o [.slice (some ⟨nm, off, none⟩) n cap] h ns K := by
  refine .mk (fun c e => by rw [ho] at e; cases e) fun c f tm act w ρ H hA => ?_
  rw [ho] at hA
  have hA : AR f ⟨[.slice (some ⟨nm, off, none⟩) n cap]⟩ (xs.map ρ) := by simpa [Op.operands, Call.operands] using hA
  obtain ⟨x', eq, q1⟩ := AR.one_inv hA
  cases q1 with
  | sliceZ => omega
  | slice hnm =>
    rename_i b
    obtain ⟨o', g0, g2, g3⟩ := H.sees nm _ hl b hnm
    cases g3 with
    | cells _ _ hc =>
      rename_i cs'
      obtain ⟨h1, h2⟩ := blit_AR hc (vs := z) (vs' := z) (cleanA f hzc) hb
      have hst := run_storeCells (P := P) b ct off z w cs' 0 g2 (fun v hv => by
        have := oneL_VR (f := f) (cleanA f hzc) hz1 v hv; exact this) (by simpa using h1)
      refine ⟨.value (.tuple #[]), _, _, _, ns, f, _, ?_, Or.inl rfl, (AR.nil f).tuple, H.write hl hnm (.cells ct (0, 0) h2), hK⟩
      unfold execOp
      rw [ho]
      simp only [resolve, pure_bind, invoke, builtin, Sem.run_bind]
      rw [show Array.map ρ xs = #[.slice (some ⟨b, off, none⟩) n cap] from eq]
      have hne : n ≠ 0 := by omega
      cases n with
      | zero => omega
      | succ n =>
        simp [Builtin.clear_, ht, tk_und hT hi2, hd, tk_zero hT hei, hz, hst]
end
end Go.Proofs.YtkcmhcgmiflgbaaDoor

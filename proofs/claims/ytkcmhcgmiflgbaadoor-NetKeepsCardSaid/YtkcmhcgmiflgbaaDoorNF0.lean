/- What the variable of the ways of a message holds, and calls that look at it. -/
import Derived.Test.YtkcmhcgmiflgbaaDoorNA1
import Derived.Test.YtkcmhcgmiflgbaaDoorRows
import Derived.Test.YtkcmhcgmiflgbaaDoorChecked
import Derived.Test.YtkcmhcgmiflgbaaDoorCards
import Derived.Test.YtkcmhcgmiflgbaaDoorTie
import Derived.Deep.DeepHandedRow
import Derived.Lib.LaidTab

namespace Go.Proofs.YtkcmhcgmiflgbaaDoor
open Go.RowKit
open Go.RowKit Go.ChangeShapes Go.WideShapes Go.ChangeAt
open Go.Proofs.YtkcmhcgmiflgbaaDoor
theorem own : ownKnob Tryd.prog.godebug = none := by kernel_rfl
theorem laidOut : laidOutB Tryd.prog = true := by kernel_rfl
theorem CtX.calls {P : Program} {k : Nat} {aa : List AV} {V : Value} {o : Obj} (s : CtX (GlobX o) P k none aa fun rs _ => rs = [.v V]) {W : World} (h0 : W.heap[0]? = some o) {vs : List Value} (ha : ArgsR W (fun b => b < W.heap.size) aa vs) :
    Calls P k ⟨vs⟩ W fun e W' => e = .returned V ∧ Gr W W' := by
  have hsz : 0 < W.heap.size := (Array.getElem?_eq_some_iff.1 h0).1
  refine (s W (fun b => b < W.heap.size) (fun _ => False) 0 vs ⟨h0, hsz⟩ (fun _ h => h) (fun _ h => h.elim) ha).mono ?_
  rintro e w' ⟨rs, R', O, F', us', rfl, h1, rfl, h3, h4, h5⟩
  cases us' with
  | nil => exact h4.elim
  | cons u us' =>
    cases us' with
    | cons => exact h4.2.elim
    | nil =>
      obtain ⟨⟨rfl, _⟩, _⟩ := h4
      exact ⟨rfl, ⟨h5.os, h5.tape, h5.out, h5.grow, fun b hb => h5.far b hb (fun h => h)⟩⟩
/-- an array that reads as these holds them, if its elements do -/
theorem cells_of_arr {X H : Type} {enc : TypeId × Value → H} {P : Program} {w : World} {base : Nat} {sp : Nat → Bool} {held : Bool} {fuel : Nat} {t e : TypeId} {n c : Nat} {cs : List Value} {zs : List X} {p : List MemPlace} {f : X → DataW H} {g : X → List Value}
    (ht : P.underlying t = some (.array n e)) (hce : P.cellsOf e = c) (hct : P.cellsOf t = n * c)
    (each : ∀ {fuel cs x p}, DataW.trod enc P w base sp held fuel e cs = some (f x, p) → cs = g x) (_ : ∀ x, (g x).length = c)
    (h : DataW.trod enc P w base sp held fuel t cs = some (.agg (zs.map f), p)) : cs = zs.flatMap g := by
  cases fuel with
  | zero => simp [DataW.trod] at h
  | succ fuel =>
    simp only [DataW.trod, ht, hce] at h
    split at h
    · rename_i hl
      obtain ⟨xs, hm, hx⟩ := Option.map_eq_some_iff.1 h
      have hxs : xs.map (·.1) = zs.map f := by
        have := congrArg Prod.fst hx
        simpa using this
      have hxl : xs.length = n := by simpa using Go.Lib.mapM_length hm
      have hzl : zs.length = n := by
        have := congrArg List.length hxs
        simp at this
        omega
      have hat : ∀ i (hi : i < zs.length), (cs.drop (i * c)).take c = g zs[i] := by
        intro i hi
        have hi2 : i < n := by omega
        obtain ⟨b, hb, hf⟩ := Go.Lib.mapM_at hm i i (by simp [hi2])
        have h2 : (xs.map (·.1))[i]? = some b.1 := by simp [hb]
        rw [hxs] at h2
        simp only [List.getElem?_map, Option.map_eq_some_iff] at h2
        obtain ⟨z', hz', e2⟩ := h2
        have : zs[i] = z' := by
          have := List.getElem?_eq_some_iff.1 hz'
          exact this.2
        rw [this]
        exact each (p := b.2) (by rw [e2]; exact hf)
      have hlen : cs.length = zs.length * c := by rw [hzl, hl, hct]
      clear h hm hx hxs hl
      clear ht
      have key : ∀ (zs : List X) (cs : List Value), cs.length = zs.length * c → (∀ i (hi : i < zs.length), (cs.drop (i * c)).take c = g zs[i]) → cs = zs.flatMap g := by
        intro zs
        induction zs with
        | nil => intro cs h _; simp at h; simp [h]
        | cons z r ih =>
          intro cs h hat
          have h0 := hat 0 (by simp)
          simp at h0
          have hr := ih (cs.drop c) (by simp at h ⊢; rw [h, Nat.succ_mul]; omega) (fun i hi => by
            have := hat (i + 1) (by simp; omega)
            rw [List.drop_drop]
            rw [show c + i * c = (i + 1) * c by rw [Nat.succ_mul]; omega]
            simpa using this)
          rw [List.flatMap_cons, ← h0, ← hr, List.take_append_drop]
      exact key zs cs hlen hat
    · cases h
theorem gWays : Tryd.prog.globalNamed "reeve/msg.ways" = some 0 := by kernel_rfl
theorem gWaysType : (Tryd.prog.globals[0]?).map (·.type) = some 78 := by kernel_rfl
theorem names_laid {W : World} (h0 : laidMetH Tryd.prog Rows.netPlaysRow.laid W) : ∃ t, W.heap[0]? = some (.cells ⟨waysL⟩ t (0, 0)) := by
  have h : laidMet Tryd.prog [("reeve/msg.ways", .agg (([(2, 1), (1, 2), (1, 2), (1, 2), (2, 1), (3, 1), (3, 1), (1, 3)] : List (Int × Int)).map fun z => .agg ([z.1, z.2].map fun y => .lit (.int .i64 y))))] W := h0
  obtain ⟨ps, ⟨g, t, cs, fuel, p, q, hg, hty, hvar, hd, hq, rfl⟩, _, hcell⟩ := h
  obtain rfl := Option.some.inj (gWays.symm.trans hg)
  obtain rfl := Option.some.inj (gWaysType.symm.trans hty)
  have hcs := cells_of_arr (e := 61) (c := 2) (g := fun z : Int × Int => [.int .i64 z.1, .int .i64 z.2]) Tryd.underlying78 (by kernel_rfl) (by kernel_rfl) (fun {fuel cs x p} hx => by
    have := cells_of_arr (e := 3) (c := 1) (g := fun y : Int => [.int .i64 y]) Tryd.underlying61 (by kernel_rfl) (by kernel_rfl) (fun {fuel cs x p} hx => by
      obtain ⟨n, h1, h2, _⟩ := DataW.trod_int Tryd.underlying3 hx
      cases h2
      exact h1) (fun _ => rfl) hx
    simpa using this) (fun _ => rfl) hd
  have hcs' : cs = ⟨waysL⟩ := by
    apply Array.toList_inj.1
    rw [hcs]; rfl
  subst hcs'
  obtain ⟨⟨c, t', hb⟩, _⟩ := hcell 0 0 (by
    refine List.mem_append_left _ (List.mem_append_left _ ?_)
    simp [MemPlace.row])
  refine ⟨t', ?_⟩
  simp only [World.var?, gWays, Option.bind_some, hb, Option.some.injEq] at hvar
  rw [hb, hvar]
def rowN4 (cs : List Value) : ActN := ⟨intOf cs 0, intOf cs 1, intOf cs 2, intOf cs 3, ⟨intOf cs 4, intOf cs 5, intOf cs 6, intOf cs 7, intOf cs 8, intOf cs 9, intOf cs 10, intOf cs 11, intOf cs 12, intOf cs 13, intOf cs 14, intOf cs 15⟩⟩
end Go.Proofs.YtkcmhcgmiflgbaaDoor

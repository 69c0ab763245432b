/- Jobs in order: what the sorting's parts come to. -/
import Derived.Test.YtkoabiahebakjaaK1
import Derived.Test.YtkoabiahebakjaaGg

namespace Go.Proofs.Ytkoabiahebakjaa
open Go Go.Proofs Go.Sort
structure JB where
  id : Int
  pr : Int
  sq : Int
  ph : Int
  nd : Int
  n0 : Int
  n1 : Int
  n2 : Int
instance : Inhabited JB := ⟨⟨0, 0, 0, 0, 0, 0, 0, 0⟩⟩
def encJ (n : JB) : List Value := [.int .i64 n.id, .int .i64 n.pr, .int .i64 n.sq, .int .i64 n.ph, .int .i64 n.nd, .int .i64 n.n0, .int .i64 n.n1, .int .i64 n.n2]
theorem encJ_len (x : JB) : (encJ x).length = 8 := rfl
theorem encJ_cl (x : JB) : cleanL (encJ x) = true := rfl
abbrev jbV (n : JB) : Value := jobV n.id n.pr n.sq n.ph n.nd n.n0 n.n1 n.n2
def cmpJ (x y : JB) : Int := orI (cmpI y.pr x.pr) (orI (cmpI x.sq y.sq) (cmpI x.id y.id))
theorem cmpJ_s (x y : JB) : Pure Try.prog 0 34 [jbV x, jbV y] (fun v => v = i64 (cmpJ x y)) := compare_s _ _ _ _ _ _ _ _ _ _ _ _ _ _ _ _
def ltJ (x y : JB) : Bool := decide (cmpJ x y < 0)
theorem ltJ_eq (x y : JB) : ltJ x y = jobB x.id x.pr x.sq y.id y.pr y.sq := orI_neg _ _ _ _ _ _
theorem ltJ_iff {x y : JB} : ltJ x y = true ↔ y.pr < x.pr ∨ (x.pr = y.pr ∧ (x.sq < y.sq ∨ (x.sq = y.sq ∧ x.id < y.id))) := by
  rw [ltJ_eq]; simp [jobB]
theorem ltJ_no {x y : JB} : ltJ x y = false ↔ ¬ (y.pr < x.pr ∨ (x.pr = y.pr ∧ (x.sq < y.sq ∨ (x.sq = y.sq ∧ x.id < y.id)))) := by
  rw [← ltJ_iff]; simp
theorem swoJ : SWO ltJ where
  irrefl x := by rw [ltJ_no]; omega
  trans x y z h1 h2 := by rw [ltJ_iff] at *; omega
  ntrans x y z h1 h2 := by rw [ltJ_no] at *; omega
end Go.Proofs.Ytkoabiahebakjaa

/-
  No cell of these rows narrows 'for every input' (looked for: loops, veiled, ifaces, maps, wideKeys, modest, calm, conditions, laid).
  DERIVED. THE GIVEN ROWS OF THIS SEAT. 6 by the template 'for every input the law returns true; each argument reads behind the call as it read before'; 0 by the template 'total and deterministic' (their statements: YtkoabiahebakjaaTotals.lean).
  GIVEN WITH THE SEED: the statements are not yours to turn. If you find one false, say at which input.
  Laid BY PROGRAM, IN A SANDBOX (cutbox-rows.mjs): the forced cells as the released guide's own fill.sh prints them over the translation f23989fd63ed8646… (all of the seat's roots in one cut). By AI agents, Wed Nov 11 2026. No macro, syntax, notation, axiom, sorry.
-/
import Derived.Test.YtkoabiahebakjaaChecked
import GoSem.Claim
import GoSem.ClaimJoined
import GoSem.ClaimMapViews
import Derived.JoinedTies
import Derived.KernelRfl
namespace Go.Proofs.Ytkoabiahebakjaa
/- THE CELL 'sum', in the pinned program and in every row, IS THE sha256 OF THE DUMP (.gsa) THAT YtkoabiahebakjaaProg.lean LOADS. Nothing in Lean hashes anything: it is a label: what it is worth is what the hold of that sum in a sandbox is worth. -/
noncomputable def Try.pinned : Pinned := { name := "ytkoabiahebakjaa", sum := "f23989fd63ed86469781f483bc73e2b5345c264dcb699f59b78243d8c5af1b78", checked := Try.checked }
namespace Rows
def none {H : Type} : Left H := { results := [], args := [] }

/-- 'reevelaw10.RankJobs': WHATEVER THE INPUT: true; the input reads as it did. -/
def rankJobsSpec : ChangeSpec := { name := "rankJobs", fn := fun _ => fun
  | [d1, d2, d3] => { results := [.lit (.bool true)], args := [d1, d2, d3] }
  | _ => none }
def rankJobsRow : OpenClaim := { program := "ytkoabiahebakjaa", sum := "f23989fd63ed86469781f483bc73e2b5345c264dcb699f59b78243d8c5af1b78", func := "reeve/reevelaw10.RankJobs", spec := "rankJobs", unfollowed := true, recurses := true, apart := false }
def RankJobsSaid : Prop := rankJobsRow.holds Try.pinned (OpenSpec.ofChange rankJobsSpec)

/-- ITS FALSE NEIGHBOUR: 'it returns false'. Refute it at one input. -/
def rankJobsWrong : ChangeSpec := { name := "rankJobs", fn := fun _ => fun
  | [d1, d2, d3] => { results := [.lit (.bool false)], args := [d1, d2, d3] }
  | _ => none }
def RankJobsWrongFalsely : Prop := rankJobsRow.holds Try.pinned (OpenSpec.ofChange rankJobsWrong)

/-- 'reevelaw10.RankNodes': WHATEVER THE INPUT: true; the input reads as it did. -/
def rankNodesSpec : ChangeSpec := { name := "rankNodes", fn := fun _ => fun
  | [d1, d2, d3] => { results := [.lit (.bool true)], args := [d1, d2, d3] }
  | _ => none }
def rankNodesRow : OpenClaim := { program := "ytkoabiahebakjaa", sum := "f23989fd63ed86469781f483bc73e2b5345c264dcb699f59b78243d8c5af1b78", func := "reeve/reevelaw10.RankNodes", spec := "rankNodes", unfollowed := true, recurses := true, apart := false }
def RankNodesSaid : Prop := rankNodesRow.holds Try.pinned (OpenSpec.ofChange rankNodesSpec)

/-- ITS FALSE NEIGHBOUR: 'it returns false'. Refute it at one input. -/
def rankNodesWrong : ChangeSpec := { name := "rankNodes", fn := fun _ => fun
  | [d1, d2, d3] => { results := [.lit (.bool false)], args := [d1, d2, d3] }
  | _ => none }
def RankNodesWrongFalsely : Prop := rankNodesRow.holds Try.pinned (OpenSpec.ofChange rankNodesWrong)

/-- 'reevelaw10.RankOrders': WHATEVER THE INPUT: true; the input reads as it did. -/
def rankOrdersSpec : ChangeSpec := { name := "rankOrders", fn := fun _ => fun
  | [d1, d2] => { results := [.lit (.bool true)], args := [d1, d2] }
  | _ => none }
def rankOrdersRow : OpenClaim := { program := "ytkoabiahebakjaa", sum := "f23989fd63ed86469781f483bc73e2b5345c264dcb699f59b78243d8c5af1b78", func := "reeve/reevelaw10.RankOrders", spec := "rankOrders", unfollowed := true, recurses := true, apart := false }
def RankOrdersSaid : Prop := rankOrdersRow.holds Try.pinned (OpenSpec.ofChange rankOrdersSpec)

/-- ITS FALSE NEIGHBOUR: 'it returns false'. Refute it at one input. -/
def rankOrdersWrong : ChangeSpec := { name := "rankOrders", fn := fun _ => fun
  | [d1, d2] => { results := [.lit (.bool false)], args := [d1, d2] }
  | _ => none }
def RankOrdersWrongFalsely : Prop := rankOrdersRow.holds Try.pinned (OpenSpec.ofChange rankOrdersWrong)

/-- 'reevelaw27.ChooseTells': WHATEVER THE INPUT: true; the input reads as it did. -/
def chooseTellsSpec : ChangeSpec := { name := "chooseTells", fn := fun _ => fun
  | [d1, d2, d3] => { results := [.lit (.bool true)], args := [d1, d2, d3] }
  | _ => none }
def chooseTellsRow : OpenClaim := { program := "ytkoabiahebakjaa", sum := "f23989fd63ed86469781f483bc73e2b5345c264dcb699f59b78243d8c5af1b78", func := "reeve/reevelaw27.ChooseTells", spec := "chooseTells", unfollowed := true, recurses := true, apart := false }
def ChooseTellsSaid : Prop := chooseTellsRow.holds Try.pinned (OpenSpec.ofChange chooseTellsSpec)

/-- ITS FALSE NEIGHBOUR: 'it returns false'. Refute it at one input. -/
def chooseTellsWrong : ChangeSpec := { name := "chooseTells", fn := fun _ => fun
  | [d1, d2, d3] => { results := [.lit (.bool false)], args := [d1, d2, d3] }
  | _ => none }
def ChooseTellsWrongFalsely : Prop := chooseTellsRow.holds Try.pinned (OpenSpec.ofChange chooseTellsWrong)

/-- 'reevelaw27.ChooseBest': WHATEVER THE INPUT: true; the input reads as it did. -/
def chooseBestSpec : ChangeSpec := { name := "chooseBest", fn := fun _ => fun
  | [d1, d2, d3] => { results := [.lit (.bool true)], args := [d1, d2, d3] }
  | _ => none }
def chooseBestRow : OpenClaim := { program := "ytkoabiahebakjaa", sum := "f23989fd63ed86469781f483bc73e2b5345c264dcb699f59b78243d8c5af1b78", func := "reeve/reevelaw27.ChooseBest", spec := "chooseBest", unfollowed := true, recurses := true, apart := false }
def ChooseBestSaid : Prop := chooseBestRow.holds Try.pinned (OpenSpec.ofChange chooseBestSpec)

/-- ITS FALSE NEIGHBOUR: 'it returns false'. Refute it at one input. -/
def chooseBestWrong : ChangeSpec := { name := "chooseBest", fn := fun _ => fun
  | [d1, d2, d3] => { results := [.lit (.bool false)], args := [d1, d2, d3] }
  | _ => none }
def ChooseBestWrongFalsely : Prop := chooseBestRow.holds Try.pinned (OpenSpec.ofChange chooseBestWrong)

/-- 'reevelaw27.ChooseTurns': WHATEVER THE INPUT: true; the input reads as it did. -/
def chooseTurnsSpec : ChangeSpec := { name := "chooseTurns", fn := fun _ => fun
  | [d1, d2, d3] => { results := [.lit (.bool true)], args := [d1, d2, d3] }
  | _ => none }
def chooseTurnsRow : OpenClaim := { program := "ytkoabiahebakjaa", sum := "f23989fd63ed86469781f483bc73e2b5345c264dcb699f59b78243d8c5af1b78", func := "reeve/reevelaw27.ChooseTurns", spec := "chooseTurns", unfollowed := true, recurses := true, apart := false }
def ChooseTurnsSaid : Prop := chooseTurnsRow.holds Try.pinned (OpenSpec.ofChange chooseTurnsSpec)

/-- ITS FALSE NEIGHBOUR: 'it returns false'. Refute it at one input. -/
def chooseTurnsWrong : ChangeSpec := { name := "chooseTurns", fn := fun _ => fun
  | [d1, d2, d3] => { results := [.lit (.bool false)], args := [d1, d2, d3] }
  | _ => none }
def ChooseTurnsWrongFalsely : Prop := chooseTurnsRow.holds Try.pinned (OpenSpec.ofChange chooseTurnsWrong)

/- THE SECOND FORM. 'bulk': how many values and letters a reading holds, each counted each time it is reached (what is shared counts as often as it is met; a slice's spare places count too). A statement '..UptoSaid' is the law's where the arguments, and the package variables that the reading takes, are together of bulk at most 1048576: NARROWER than '..Said'. Prove '..Said' where nothing that the law and all that it calls make is longer than what came in: it says more and counts as full. Else prove '..UptoSaid'. A law counts once. -/
mutual
def uptoBulk {H : Type} : DataW H → Nat
  | .lit (.string bytes) => bytes.length + 1
  | .lit _ => 1
  | .nil => 1
  | .ptr d => uptoBulk d + 1
  | .slice elems spare => uptoBulkAll elems + uptoBulkAll spare + 1
  | .agg parts => uptoBulkAll parts + 1
  | .iface _ d => uptoBulk d + 1
  | .map entries => uptoBulkEntries entries + 1
  | .held _ => 1
def uptoBulkAll {H : Type} : List (DataW H) → Nat
  | [] => 0
  | d :: r => uptoBulk d + uptoBulkAll r
def uptoBulkEntries {H : Type} : List (Lit × DataW H) → Nat
  | [] => 0
  | x :: r => uptoBulkEntry x + uptoBulkEntries r
def uptoBulkEntry {H : Type} : Lit × DataW H → Nat
  | (.string bytes, d) => bytes.length + uptoBulk d + 1
  | (_, d) => uptoBulk d + 1
 end
def uptoSmall : (H : Type) → List (DataW H) → Bool := fun _ ds => decide (uptoBulkAll ds ≤ 1048576)
def OpenSpec.upto (s : _root_.Go.ChangeSpec) : _root_.Go.OpenSpec := { _root_.Go.OpenSpec.ofChange s with cond := some uptoSmall }

/-- 'reevelaw10.RankJobs', WHERE WHAT IT READS IS OF BULK AT MOST 1048576: true; the input reads as it did. -/
def rankJobsUptoRow : OpenClaim := { program := "ytkoabiahebakjaa", sum := "f23989fd63ed86469781f483bc73e2b5345c264dcb699f59b78243d8c5af1b78", func := "reeve/reevelaw10.RankJobs", spec := "rankJobs", unfollowed := true, recurses := true, apart := false, narrowed := true }
def RankJobsUptoSaid : Prop := rankJobsUptoRow.holds Try.pinned (OpenSpec.upto rankJobsSpec)

/-- 'reevelaw10.RankNodes', WHERE WHAT IT READS IS OF BULK AT MOST 1048576: true; the input reads as it did. -/
def rankNodesUptoRow : OpenClaim := { program := "ytkoabiahebakjaa", sum := "f23989fd63ed86469781f483bc73e2b5345c264dcb699f59b78243d8c5af1b78", func := "reeve/reevelaw10.RankNodes", spec := "rankNodes", unfollowed := true, recurses := true, apart := false, narrowed := true }
def RankNodesUptoSaid : Prop := rankNodesUptoRow.holds Try.pinned (OpenSpec.upto rankNodesSpec)

/-- 'reevelaw10.RankOrders', WHERE WHAT IT READS IS OF BULK AT MOST 1048576: true; the input reads as it did. -/
def rankOrdersUptoRow : OpenClaim := { program := "ytkoabiahebakjaa", sum := "f23989fd63ed86469781f483bc73e2b5345c264dcb699f59b78243d8c5af1b78", func := "reeve/reevelaw10.RankOrders", spec := "rankOrders", unfollowed := true, recurses := true, apart := false, narrowed := true }
def RankOrdersUptoSaid : Prop := rankOrdersUptoRow.holds Try.pinned (OpenSpec.upto rankOrdersSpec)

/-- 'reevelaw27.ChooseTells', WHERE WHAT IT READS IS OF BULK AT MOST 1048576: true; the input reads as it did. -/
def chooseTellsUptoRow : OpenClaim := { program := "ytkoabiahebakjaa", sum := "f23989fd63ed86469781f483bc73e2b5345c264dcb699f59b78243d8c5af1b78", func := "reeve/reevelaw27.ChooseTells", spec := "chooseTells", unfollowed := true, recurses := true, apart := false, narrowed := true }
def ChooseTellsUptoSaid : Prop := chooseTellsUptoRow.holds Try.pinned (OpenSpec.upto chooseTellsSpec)

/-- 'reevelaw27.ChooseBest', WHERE WHAT IT READS IS OF BULK AT MOST 1048576: true; the input reads as it did. -/
def chooseBestUptoRow : OpenClaim := { program := "ytkoabiahebakjaa", sum := "f23989fd63ed86469781f483bc73e2b5345c264dcb699f59b78243d8c5af1b78", func := "reeve/reevelaw27.ChooseBest", spec := "chooseBest", unfollowed := true, recurses := true, apart := false, narrowed := true }
def ChooseBestUptoSaid : Prop := chooseBestUptoRow.holds Try.pinned (OpenSpec.upto chooseBestSpec)

/-- 'reevelaw27.ChooseTurns', WHERE WHAT IT READS IS OF BULK AT MOST 1048576: true; the input reads as it did. -/
def chooseTurnsUptoRow : OpenClaim := { program := "ytkoabiahebakjaa", sum := "f23989fd63ed86469781f483bc73e2b5345c264dcb699f59b78243d8c5af1b78", func := "reeve/reevelaw27.ChooseTurns", spec := "chooseTurns", unfollowed := true, recurses := true, apart := false, narrowed := true }
def ChooseTurnsUptoSaid : Prop := chooseTurnsUptoRow.holds Try.pinned (OpenSpec.upto chooseTurnsSpec)

end Rows
end Go.Proofs.Ytkoabiahebakjaa

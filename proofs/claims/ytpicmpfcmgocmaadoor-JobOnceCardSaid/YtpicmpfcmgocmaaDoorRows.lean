/-
  NARROWER THAN 'FOR EVERY INPUT', by the rows' own cells (each row's printed sentence says how): JobSteps: laid · JobOnce: laid.
  DERIVED. THE GIVEN ROWS OF THIS SEAT. 2 by the template 'for every input the law returns true; each argument reads behind the call as it read before'; 0 by the template 'total and deterministic' (their statements: YtpicmpfcmgocmaaDoorTotals.lean).
  GIVEN WITH THE SEED: the statements are not yours to turn. If you find one false, say at which input.
  Laid BY PROGRAM, IN A SANDBOX (cutbox-rows.mjs): the forced cells as the released guide's own fill.sh prints them over the translation 3684d0e57a82d9ac… (all of the seat's roots in one cut). By AI agents, Wed Nov 11 2026. No macro, syntax, notation, axiom, sorry.
-/
import Derived.Test.YtpicmpfcmgocmaaDoorChecked
import GoSem.Claim
import GoSem.ClaimJoined
import GoSem.ClaimMapViews
import Derived.JoinedTies
import Derived.KernelRfl
namespace Go.Proofs.YtpicmpfcmgocmaaDoor
/- THE CELL 'sum', in the pinned program and in every row, IS THE sha256 OF THE DUMP (.gsa) THAT YtpicmpfcmgocmaaDoorProg.lean LOADS. Nothing in Lean hashes anything: it is a label: what it is worth is what the hold of that sum in a sandbox is worth. -/
noncomputable def Tryd.pinned : Pinned := { name := "ytpicmpfcmgocmaadoor", sum := "3684d0e57a82d9ac0973848a2f194711426e7abd4059e10005ea56dd9790068e", checked := Tryd.checked }
namespace Rows
def none {H : Type} : Left H := { results := [], args := [] }

/- WHAT THE LISTED PACKAGE-LEVEL VARIABLES READ AS WHEN THE CALL BEGINS. Each datum BY PROGRAM (the guide's laid-datum.mjs) off the statement by which the dump's own 'gosem.cut.vars' lays the variable. In a bare row this is a premise. The card (YtpicmpfcmgocmaaDoorCards.lean) ties it to the program's text. -/
def laid_reeve_job_names {H : Type} : DataW H := .agg [.lit (.string [112, 101, 110, 100, 105, 110, 103]), .lit (.string [114, 117, 110, 110, 105, 110, 103]), .lit (.string [100, 111, 110, 101]), .lit (.string [99, 97, 110, 99, 101, 108, 108, 101, 100])]

/-- 'reevelaw22.JobSteps': WHATEVER THE INPUT: true; the input reads as it did. -/
def jobStepsSpec : ChangeSpec := { name := "jobSteps", fn := fun _ => fun
  | [d1, d2, d3] => { results := [.lit (.bool true)], args := [d1, d2, d3] }
  | _ => none }
def jobStepsRow : OpenClaim := { program := "ytpicmpfcmgocmaadoor", sum := "3684d0e57a82d9ac0973848a2f194711426e7abd4059e10005ea56dd9790068e", func := "reeve/reevelaw22.JobSteps", spec := "jobSteps", unfollowed := true, recurses := true, named := ["reeve/job.names"], apart := false, laid := [("reeve/job.names", laid_reeve_job_names)] }
def JobStepsSaid : Prop := jobStepsRow.holds Tryd.pinned (OpenSpec.ofChange jobStepsSpec)

/-- ITS FALSE NEIGHBOUR: 'it returns false'. Refute it at one input. -/
def jobStepsWrong : ChangeSpec := { name := "jobSteps", fn := fun _ => fun
  | [d1, d2, d3] => { results := [.lit (.bool false)], args := [d1, d2, d3] }
  | _ => none }
def JobStepsWrongFalsely : Prop := jobStepsRow.holds Tryd.pinned (OpenSpec.ofChange jobStepsWrong)

/-- 'reevelaw22.JobOnce': WHATEVER THE INPUT: true; the input reads as it did. -/
def jobOnceSpec : ChangeSpec := { name := "jobOnce", fn := fun _ => fun
  | [d1, d2] => { results := [.lit (.bool true)], args := [d1, d2] }
  | _ => none }
def jobOnceRow : OpenClaim := { program := "ytpicmpfcmgocmaadoor", sum := "3684d0e57a82d9ac0973848a2f194711426e7abd4059e10005ea56dd9790068e", func := "reeve/reevelaw22.JobOnce", spec := "jobOnce", unfollowed := true, recurses := true, named := ["reeve/job.names"], apart := false, laid := [("reeve/job.names", laid_reeve_job_names)] }
def JobOnceSaid : Prop := jobOnceRow.holds Tryd.pinned (OpenSpec.ofChange jobOnceSpec)

/-- ITS FALSE NEIGHBOUR: 'it returns false'. Refute it at one input. -/
def jobOnceWrong : ChangeSpec := { name := "jobOnce", fn := fun _ => fun
  | [d1, d2] => { results := [.lit (.bool false)], args := [d1, d2] }
  | _ => none }
def JobOnceWrongFalsely : Prop := jobOnceRow.holds Tryd.pinned (OpenSpec.ofChange jobOnceWrong)

/- THE SECOND FORM. 'bulk': how many values and letters a reading holds, each counted each time it is reached (what is shared counts as often as it is met; a slice's spare places count too). A statement '..UptoSaid' is the law's where the arguments, and the package variables that the reading takes, are together of bulk at most 1048576: NARROWER than '..Said'. Prove '..Said' where nothing that the law and all that it calls make is longer than what came in: it says more and counts as full. Else prove '..UptoSaid'. A law counts once. -/
mutual
def uptoBulk {H : Type} : DataW H → Nat
  | .lit (.string bytes) => bytes.length + 1
  | .lit _ => 1
  | .nil => 1
  | .ptr d => uptoBulk d + 1
  | .slice elems spare => uptoBulkAll elems + uptoBulkAll spare + 1
  | .agg parts => uptoBulkAll parts + 1
  | .iface _ d => uptoBulk d + 1
  | .map entries => uptoBulkEntries entries + 1
  | .held _ => 1
def uptoBulkAll {H : Type} : List (DataW H) → Nat
  | [] => 0
  | d :: r => uptoBulk d + uptoBulkAll r
def uptoBulkEntries {H : Type} : List (Lit × DataW H) → Nat
  | [] => 0
  | x :: r => uptoBulkEntry x + uptoBulkEntries r
def uptoBulkEntry {H : Type} : Lit × DataW H → Nat
  | (.string bytes, d) => bytes.length + uptoBulk d + 1
  | (_, d) => uptoBulk d + 1
 end
def uptoSmall : (H : Type) → List (DataW H) → Bool := fun _ ds => decide (uptoBulkAll ds ≤ 1048576)
def OpenSpec.upto (s : _root_.Go.ChangeSpec) : _root_.Go.OpenSpec := { _root_.Go.OpenSpec.ofChange s with cond := some uptoSmall }

/-- 'reevelaw22.JobSteps', WHERE WHAT IT READS IS OF BULK AT MOST 1048576: true; the input reads as it did. -/
def jobStepsUptoRow : OpenClaim := { program := "ytpicmpfcmgocmaadoor", sum := "3684d0e57a82d9ac0973848a2f194711426e7abd4059e10005ea56dd9790068e", func := "reeve/reevelaw22.JobSteps", spec := "jobSteps", unfollowed := true, recurses := true, named := ["reeve/job.names"], apart := false, laid := [("reeve/job.names", laid_reeve_job_names)], narrowed := true }
def JobStepsUptoSaid : Prop := jobStepsUptoRow.holds Tryd.pinned (OpenSpec.upto jobStepsSpec)

/-- 'reevelaw22.JobOnce', WHERE WHAT IT READS IS OF BULK AT MOST 1048576: true; the input reads as it did. -/
def jobOnceUptoRow : OpenClaim := { program := "ytpicmpfcmgocmaadoor", sum := "3684d0e57a82d9ac0973848a2f194711426e7abd4059e10005ea56dd9790068e", func := "reeve/reevelaw22.JobOnce", spec := "jobOnce", unfollowed := true, recurses := true, named := ["reeve/job.names"], apart := false, laid := [("reeve/job.names", laid_reeve_job_names)], narrowed := true }
def JobOnceUptoSaid : Prop := jobOnceUptoRow.holds Tryd.pinned (OpenSpec.upto jobOnceSpec)

end Rows
end Go.Proofs.YtpicmpfcmgocmaaDoor

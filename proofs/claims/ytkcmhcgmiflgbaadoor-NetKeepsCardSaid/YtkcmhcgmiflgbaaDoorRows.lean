/-
  NARROWER THAN 'FOR EVERY INPUT', by the rows' own cells (each row's printed sentence says how): NetPlays: laid · NetKeeps: laid · NetApart: laid.
  DERIVED. THE GIVEN ROWS OF THIS SEAT. 3 by the template 'for every input the law returns true; each argument reads behind the call as it read before'; 0 by the template 'total and deterministic' (their statements: YtkcmhcgmiflgbaaDoorTotals.lean).
  GIVEN WITH THE SEED: the statements are not yours to turn. If you find one false, say at which input.
  Laid BY PROGRAM, IN A SANDBOX (cutbox-rows.mjs): the forced cells as the released guide's own fill.sh prints them over the translation fa575d3d6e85f051… (all of the seat's roots in one cut). By AI agents, Wed Nov 11 2026. No macro, syntax, notation, axiom, sorry.
-/
import Derived.Test.YtkcmhcgmiflgbaaDoorChecked
import GoSem.Claim
import GoSem.ClaimJoined
import GoSem.ClaimMapViews
import Derived.JoinedTies
import Derived.KernelRfl
namespace Go.Proofs.YtkcmhcgmiflgbaaDoor
/- THE CELL 'sum', in the pinned program and in every row, IS THE sha256 OF THE DUMP (.gsa) THAT YtkcmhcgmiflgbaaDoorProg.lean LOADS. Nothing in Lean hashes anything: it is a label: what it is worth is what the hold of that sum in a sandbox is worth. -/
noncomputable def Tryd.pinned : Pinned := { name := "ytkcmhcgmiflgbaadoor", sum := "fa575d3d6e85f051d9b1e8b65ed2796e322f88e4ad0f51dfec0736dbfd715a93", checked := Tryd.checked }
namespace Rows
def none {H : Type} : Left H := { results := [], args := [] }

/- WHAT THE LISTED PACKAGE-LEVEL VARIABLES READ AS WHEN THE CALL BEGINS. Each datum BY PROGRAM (the guide's laid-datum.mjs) off the statement by which the dump's own 'gosem.cut.vars' lays the variable. In a bare row this is a premise. The card (YtkcmhcgmiflgbaaDoorCards.lean) ties it to the program's text. -/
def laid_reeve_msg_ways {H : Type} : DataW H := .agg [.agg [.lit (.int .i64 2), .lit (.int .i64 1)], .agg [.lit (.int .i64 1), .lit (.int .i64 2)], .agg [.lit (.int .i64 1), .lit (.int .i64 2)], .agg [.lit (.int .i64 1), .lit (.int .i64 2)], .agg [.lit (.int .i64 2), .lit (.int .i64 1)], .agg [.lit (.int .i64 3), .lit (.int .i64 1)], .agg [.lit (.int .i64 3), .lit (.int .i64 1)], .agg [.lit (.int .i64 1), .lit (.int .i64 3)]]

/-- 'reevelaw37.NetPlays': WHATEVER THE INPUT: true; the input reads as it did. -/
def netPlaysSpec : ChangeSpec := { name := "netPlays", fn := fun _ => fun
  | [d1, d2, d3] => { results := [.lit (.bool true)], args := [d1, d2, d3] }
  | _ => none }
def netPlaysRow : OpenClaim := { program := "ytkcmhcgmiflgbaadoor", sum := "fa575d3d6e85f051d9b1e8b65ed2796e322f88e4ad0f51dfec0736dbfd715a93", func := "reeve/reevelaw37.NetPlays", spec := "netPlays", unfollowed := true, recurses := true, named := ["reeve/msg.ways"], plainKeys := false, apart := false, laid := [("reeve/msg.ways", laid_reeve_msg_ways)] }
def NetPlaysSaid : Prop := netPlaysRow.holds Tryd.pinned (OpenSpec.ofChange netPlaysSpec)

/-- ITS FALSE NEIGHBOUR: 'it returns false'. Refute it at one input. -/
def netPlaysWrong : ChangeSpec := { name := "netPlays", fn := fun _ => fun
  | [d1, d2, d3] => { results := [.lit (.bool false)], args := [d1, d2, d3] }
  | _ => none }
def NetPlaysWrongFalsely : Prop := netPlaysRow.holds Tryd.pinned (OpenSpec.ofChange netPlaysWrong)

/-- 'reevelaw37.NetKeeps': WHATEVER THE INPUT: true; the input reads as it did. -/
def netKeepsSpec : ChangeSpec := { name := "netKeeps", fn := fun _ => fun
  | [d1, d2] => { results := [.lit (.bool true)], args := [d1, d2] }
  | _ => none }
def netKeepsRow : OpenClaim := { program := "ytkcmhcgmiflgbaadoor", sum := "fa575d3d6e85f051d9b1e8b65ed2796e322f88e4ad0f51dfec0736dbfd715a93", func := "reeve/reevelaw37.NetKeeps", spec := "netKeeps", unfollowed := true, recurses := true, named := ["reeve/msg.ways"], plainKeys := false, apart := false, laid := [("reeve/msg.ways", laid_reeve_msg_ways)] }
def NetKeepsSaid : Prop := netKeepsRow.holds Tryd.pinned (OpenSpec.ofChange netKeepsSpec)

/-- ITS FALSE NEIGHBOUR: 'it returns false'. Refute it at one input. -/
def netKeepsWrong : ChangeSpec := { name := "netKeeps", fn := fun _ => fun
  | [d1, d2] => { results := [.lit (.bool false)], args := [d1, d2] }
  | _ => none }
def NetKeepsWrongFalsely : Prop := netKeepsRow.holds Tryd.pinned (OpenSpec.ofChange netKeepsWrong)

/-- 'reevelaw37.NetApart': WHATEVER THE INPUT: true; the input reads as it did. -/
def netApartSpec : ChangeSpec := { name := "netApart", fn := fun _ => fun
  | [d1, d2, d3] => { results := [.lit (.bool true)], args := [d1, d2, d3] }
  | _ => none }
def netApartRow : OpenClaim := { program := "ytkcmhcgmiflgbaadoor", sum := "fa575d3d6e85f051d9b1e8b65ed2796e322f88e4ad0f51dfec0736dbfd715a93", func := "reeve/reevelaw37.NetApart", spec := "netApart", unfollowed := true, recurses := true, named := ["reeve/msg.ways"], plainKeys := false, apart := false, laid := [("reeve/msg.ways", laid_reeve_msg_ways)] }
def NetApartSaid : Prop := netApartRow.holds Tryd.pinned (OpenSpec.ofChange netApartSpec)

/-- ITS FALSE NEIGHBOUR: 'it returns false'. Refute it at one input. -/
def netApartWrong : ChangeSpec := { name := "netApart", fn := fun _ => fun
  | [d1, d2, d3] => { results := [.lit (.bool false)], args := [d1, d2, d3] }
  | _ => none }
def NetApartWrongFalsely : Prop := netApartRow.holds Tryd.pinned (OpenSpec.ofChange netApartWrong)

/- THE SECOND FORM. 'bulk': how many values and letters a reading holds, each counted each time it is reached (what is shared counts as often as it is met; a slice's spare places count too). A statement '..UptoSaid' is the law's where the arguments, and the package variables that the reading takes, are together of bulk at most 1048576: NARROWER than '..Said'. Prove '..Said' where nothing that the law and all that it calls make is longer than what came in: it says more and counts as full. Else prove '..UptoSaid'. A law counts once. -/
mutual
def uptoBulk {H : Type} : DataW H → Nat
  | .lit (.string bytes) => bytes.length + 1
  | .lit _ => 1
  | .nil => 1
  | .ptr d => uptoBulk d + 1
  | .slice elems spare => uptoBulkAll elems + uptoBulkAll spare + 1
  | .agg parts => uptoBulkAll parts + 1
  | .iface _ d => uptoBulk d + 1
  | .map entries => uptoBulkEntries entries + 1
  | .held _ => 1
def uptoBulkAll {H : Type} : List (DataW H) → Nat
  | [] => 0
  | d :: r => uptoBulk d + uptoBulkAll r
def uptoBulkEntries {H : Type} : List (Lit × DataW H) → Nat
  | [] => 0
  | x :: r => uptoBulkEntry x + uptoBulkEntries r
def uptoBulkEntry {H : Type} : Lit × DataW H → Nat
  | (.string bytes, d) => bytes.length + uptoBulk d + 1
  | (_, d) => uptoBulk d + 1
 end
def uptoSmall : (H : Type) → List (DataW H) → Bool := fun _ ds => decide (uptoBulkAll ds ≤ 1048576)
def OpenSpec.upto (s : _root_.Go.ChangeSpec) : _root_.Go.OpenSpec := { _root_.Go.OpenSpec.ofChange s with cond := some uptoSmall }

/-- 'reevelaw37.NetPlays', WHERE WHAT IT READS IS OF BULK AT MOST 1048576: true; the input reads as it did. -/
def netPlaysUptoRow : OpenClaim := { program := "ytkcmhcgmiflgbaadoor", sum := "fa575d3d6e85f051d9b1e8b65ed2796e322f88e4ad0f51dfec0736dbfd715a93", func := "reeve/reevelaw37.NetPlays", spec := "netPlays", unfollowed := true, recurses := true, named := ["reeve/msg.ways"], plainKeys := false, apart := false, laid := [("reeve/msg.ways", laid_reeve_msg_ways)], narrowed := true }
def NetPlaysUptoSaid : Prop := netPlaysUptoRow.holds Tryd.pinned (OpenSpec.upto netPlaysSpec)

/-- 'reevelaw37.NetKeeps', WHERE WHAT IT READS IS OF BULK AT MOST 1048576: true; the input reads as it did. -/
def netKeepsUptoRow : OpenClaim := { program := "ytkcmhcgmiflgbaadoor", sum := "fa575d3d6e85f051d9b1e8b65ed2796e322f88e4ad0f51dfec0736dbfd715a93", func := "reeve/reevelaw37.NetKeeps", spec := "netKeeps", unfollowed := true, recurses := true, named := ["reeve/msg.ways"], plainKeys := false, apart := false, laid := [("reeve/msg.ways", laid_reeve_msg_ways)], narrowed := true }
def NetKeepsUptoSaid : Prop := netKeepsUptoRow.holds Tryd.pinned (OpenSpec.upto netKeepsSpec)

/-- 'reevelaw37.NetApart', WHERE WHAT IT READS IS OF BULK AT MOST 1048576: true; the input reads as it did. -/
def netApartUptoRow : OpenClaim := { program := "ytkcmhcgmiflgbaadoor", sum := "fa575d3d6e85f051d9b1e8b65ed2796e322f88e4ad0f51dfec0736dbfd715a93", func := "reeve/reevelaw37.NetApart", spec := "netApart", unfollowed := true, recurses := true, named := ["reeve/msg.ways"], plainKeys := false, apart := false, laid := [("reeve/msg.ways", laid_reeve_msg_ways)], narrowed := true }
def NetApartUptoSaid : Prop := netApartUptoRow.holds Tryd.pinned (OpenSpec.upto netApartSpec)

end Rows
end Go.Proofs.YtkcmhcgmiflgbaaDoor

/-
  No cell of these rows narrows 'for every input' (looked for: loops, veiled, ifaces, maps, wideKeys, modest, calm, conditions, laid).
  DERIVED. THE GIVEN ROWS OF THIS SEAT. 10 by the template 'for every input the law returns true; each argument reads behind the call as it read before'; 0 by the template 'total and deterministic' (their statements: YtpicmpfcmgocmaaTotals.lean).
  GIVEN WITH THE SEED: the statements are not yours to turn. If you find one false, say at which input.
  Laid BY PROGRAM, IN A SANDBOX (cutbox-rows.mjs): the forced cells as the released guide's own fill.sh prints them over the translation 83dde826e0a356ab… (all of the seat's roots in one cut). By AI agents, Wed Nov 11 2026. No macro, syntax, notation, axiom, sorry.
-/
import Derived.Test.YtpicmpfcmgocmaaChecked
import GoSem.Claim
import GoSem.ClaimJoined
import GoSem.ClaimMapViews
import Derived.JoinedTies
import Derived.KernelRfl
namespace Go.Proofs.Ytpicmpfcmgocmaa
/- THE CELL 'sum', in the pinned program and in every row, IS THE sha256 OF THE DUMP (.gsa) THAT YtpicmpfcmgocmaaProg.lean LOADS. Nothing in Lean hashes anything: it is a label: what it is worth is what the hold of that sum in a sandbox is worth. -/
noncomputable def Try.pinned : Pinned := { name := "ytpicmpfcmgocmaa", sum := "83dde826e0a356aba3fea0fd7d889c27e3150fbbf4e4259514fc1508b1c006be", checked := Try.checked }
namespace Rows
def none {H : Type} : Left H := { results := [], args := [] }

/-- 'reevelaw01.NumAdds': WHATEVER THE INPUT: true; the input reads as it did. -/
def numAddsSpec : ChangeSpec := { name := "numAdds", fn := fun _ => fun
  | [d1, d2] => { results := [.lit (.bool true)], args := [d1, d2] }
  | _ => none }
def numAddsRow : OpenClaim := { program := "ytpicmpfcmgocmaa", sum := "83dde826e0a356aba3fea0fd7d889c27e3150fbbf4e4259514fc1508b1c006be", func := "reeve/reevelaw01.NumAdds", spec := "numAdds", unfollowed := true, recurses := true, apart := false }
def NumAddsSaid : Prop := numAddsRow.holds Try.pinned (OpenSpec.ofChange numAddsSpec)

/-- ITS FALSE NEIGHBOUR: 'it returns false'. Refute it at one input. -/
def numAddsWrong : ChangeSpec := { name := "numAdds", fn := fun _ => fun
  | [d1, d2] => { results := [.lit (.bool false)], args := [d1, d2] }
  | _ => none }
def NumAddsWrongFalsely : Prop := numAddsRow.holds Try.pinned (OpenSpec.ofChange numAddsWrong)

/-- 'reevelaw01.NumSums': WHATEVER THE INPUT: true; the input reads as it did. -/
def numSumsSpec : ChangeSpec := { name := "numSums", fn := fun _ => fun
  | [d] => { results := [.lit (.bool true)], args := [d] }
  | _ => none }
def numSumsRow : OpenClaim := { program := "ytpicmpfcmgocmaa", sum := "83dde826e0a356aba3fea0fd7d889c27e3150fbbf4e4259514fc1508b1c006be", func := "reeve/reevelaw01.NumSums", spec := "numSums", unfollowed := true, recurses := true, apart := false }
def NumSumsSaid : Prop := numSumsRow.holds Try.pinned (OpenSpec.ofChange numSumsSpec)

/-- ITS FALSE NEIGHBOUR: 'it returns false'. Refute it at one input. -/
def numSumsWrong : ChangeSpec := { name := "numSums", fn := fun _ => fun
  | [d] => { results := [.lit (.bool false)], args := [d] }
  | _ => none }
def NumSumsWrongFalsely : Prop := numSumsRow.holds Try.pinned (OpenSpec.ofChange numSumsWrong)

/-- 'reevelaw01.NumBack': WHATEVER THE INPUT: true; the input reads as it did. -/
def numBackSpec : ChangeSpec := { name := "numBack", fn := fun _ => fun
  | [d1, d2, d3] => { results := [.lit (.bool true)], args := [d1, d2, d3] }
  | _ => none }
def numBackRow : OpenClaim := { program := "ytpicmpfcmgocmaa", sum := "83dde826e0a356aba3fea0fd7d889c27e3150fbbf4e4259514fc1508b1c006be", func := "reeve/reevelaw01.NumBack", spec := "numBack", unfollowed := true, recurses := true, apart := false }
def NumBackSaid : Prop := numBackRow.holds Try.pinned (OpenSpec.ofChange numBackSpec)

/-- ITS FALSE NEIGHBOUR: 'it returns false'. Refute it at one input. -/
def numBackWrong : ChangeSpec := { name := "numBack", fn := fun _ => fun
  | [d1, d2, d3] => { results := [.lit (.bool false)], args := [d1, d2, d3] }
  | _ => none }
def NumBackWrongFalsely : Prop := numBackRow.holds Try.pinned (OpenSpec.ofChange numBackWrong)

/-- 'reevelaw01.NumSpans': WHATEVER THE INPUT: true; the input reads as it did. -/
def numSpansSpec : ChangeSpec := { name := "numSpans", fn := fun _ => fun
  | [d1, d2, d3] => { results := [.lit (.bool true)], args := [d1, d2, d3] }
  | _ => none }
def numSpansRow : OpenClaim := { program := "ytpicmpfcmgocmaa", sum := "83dde826e0a356aba3fea0fd7d889c27e3150fbbf4e4259514fc1508b1c006be", func := "reeve/reevelaw01.NumSpans", spec := "numSpans", unfollowed := true, recurses := true, apart := false }
def NumSpansSaid : Prop := numSpansRow.holds Try.pinned (OpenSpec.ofChange numSpansSpec)

/-- ITS FALSE NEIGHBOUR: 'it returns false'. Refute it at one input. -/
def numSpansWrong : ChangeSpec := { name := "numSpans", fn := fun _ => fun
  | [d1, d2, d3] => { results := [.lit (.bool false)], args := [d1, d2, d3] }
  | _ => none }
def NumSpansWrongFalsely : Prop := numSpansRow.holds Try.pinned (OpenSpec.ofChange numSpansWrong)

/-- 'reevelaw15.LeasePlays': WHATEVER THE INPUT: true; the input reads as it did. -/
def leasePlaysSpec : ChangeSpec := { name := "leasePlays", fn := fun _ => fun
  | [d1, d2] => { results := [.lit (.bool true)], args := [d1, d2] }
  | _ => none }
def leasePlaysRow : OpenClaim := { program := "ytpicmpfcmgocmaa", sum := "83dde826e0a356aba3fea0fd7d889c27e3150fbbf4e4259514fc1508b1c006be", func := "reeve/reevelaw15.LeasePlays", spec := "leasePlays", inPlace := ["sync/atomic.StorePointer", "sync/atomic.LoadPointer", "sync/atomic.CompareAndSwapPointer"], unfollowed := true, recurses := true, apart := false }
def LeasePlaysSaid : Prop := leasePlaysRow.holds Try.pinned (OpenSpec.ofChange leasePlaysSpec)

/-- ITS FALSE NEIGHBOUR: 'it returns false'. Refute it at one input. -/
def leasePlaysWrong : ChangeSpec := { name := "leasePlays", fn := fun _ => fun
  | [d1, d2] => { results := [.lit (.bool false)], args := [d1, d2] }
  | _ => none }
def LeasePlaysWrongFalsely : Prop := leasePlaysRow.holds Try.pinned (OpenSpec.ofChange leasePlaysWrong)

/-- 'reevelaw15.LeaseOnce': WHATEVER THE INPUT: true; the input reads as it did. -/
def leaseOnceSpec : ChangeSpec := { name := "leaseOnce", fn := fun _ => fun
  | [d1, d2] => { results := [.lit (.bool true)], args := [d1, d2] }
  | _ => none }
def leaseOnceRow : OpenClaim := { program := "ytpicmpfcmgocmaa", sum := "83dde826e0a356aba3fea0fd7d889c27e3150fbbf4e4259514fc1508b1c006be", func := "reeve/reevelaw15.LeaseOnce", spec := "leaseOnce", inPlace := ["sync/atomic.StorePointer", "sync/atomic.LoadPointer", "sync/atomic.CompareAndSwapPointer"], unfollowed := true, recurses := true, apart := false }
def LeaseOnceSaid : Prop := leaseOnceRow.holds Try.pinned (OpenSpec.ofChange leaseOnceSpec)

/-- ITS FALSE NEIGHBOUR: 'it returns false'. Refute it at one input. -/
def leaseOnceWrong : ChangeSpec := { name := "leaseOnce", fn := fun _ => fun
  | [d1, d2] => { results := [.lit (.bool false)], args := [d1, d2] }
  | _ => none }
def LeaseOnceWrongFalsely : Prop := leaseOnceRow.holds Try.pinned (OpenSpec.ofChange leaseOnceWrong)

/-- 'reevelaw15.LeaseNobody': WHATEVER THE INPUT: true; the input reads as it did. -/
def leaseNobodySpec : ChangeSpec := { name := "leaseNobody", fn := fun _ => fun
  | [d1, d2, d3] => { results := [.lit (.bool true)], args := [d1, d2, d3] }
  | _ => none }
def leaseNobodyRow : OpenClaim := { program := "ytpicmpfcmgocmaa", sum := "83dde826e0a356aba3fea0fd7d889c27e3150fbbf4e4259514fc1508b1c006be", func := "reeve/reevelaw15.LeaseNobody", spec := "leaseNobody", inPlace := ["sync/atomic.LoadPointer", "sync/atomic.CompareAndSwapPointer", "sync/atomic.StorePointer"], unfollowed := true, recurses := true, apart := false }
def LeaseNobodySaid : Prop := leaseNobodyRow.holds Try.pinned (OpenSpec.ofChange leaseNobodySpec)

/-- ITS FALSE NEIGHBOUR: 'it returns false'. Refute it at one input. -/
def leaseNobodyWrong : ChangeSpec := { name := "leaseNobody", fn := fun _ => fun
  | [d1, d2, d3] => { results := [.lit (.bool false)], args := [d1, d2, d3] }
  | _ => none }
def LeaseNobodyWrongFalsely : Prop := leaseNobodyRow.holds Try.pinned (OpenSpec.ofChange leaseNobodyWrong)

/-- 'reevelaw15.LeaseKeeps': WHATEVER THE INPUT: true; the input reads as it did. -/
def leaseKeepsSpec : ChangeSpec := { name := "leaseKeeps", fn := fun _ => fun
  | [d1, d2] => { results := [.lit (.bool true)], args := [d1, d2] }
  | _ => none }
def leaseKeepsRow : OpenClaim := { program := "ytpicmpfcmgocmaa", sum := "83dde826e0a356aba3fea0fd7d889c27e3150fbbf4e4259514fc1508b1c006be", func := "reeve/reevelaw15.LeaseKeeps", spec := "leaseKeeps", inPlace := ["sync/atomic.StorePointer", "sync/atomic.LoadPointer", "sync/atomic.CompareAndSwapPointer"], unfollowed := true, recurses := true, apart := false }
def LeaseKeepsSaid : Prop := leaseKeepsRow.holds Try.pinned (OpenSpec.ofChange leaseKeepsSpec)

/-- ITS FALSE NEIGHBOUR: 'it returns false'. Refute it at one input. -/
def leaseKeepsWrong : ChangeSpec := { name := "leaseKeeps", fn := fun _ => fun
  | [d1, d2] => { results := [.lit (.bool false)], args := [d1, d2] }
  | _ => none }
def LeaseKeepsWrongFalsely : Prop := leaseKeepsRow.holds Try.pinned (OpenSpec.ofChange leaseKeepsWrong)

/-- 'reevelaw23.NodeSteps': WHATEVER THE INPUT: true; the input reads as it did. -/
def nodeStepsSpec : ChangeSpec := { name := "nodeSteps", fn := fun _ => fun
  | [d1, d2] => { results := [.lit (.bool true)], args := [d1, d2] }
  | _ => none }
def nodeStepsRow : OpenClaim := { program := "ytpicmpfcmgocmaa", sum := "83dde826e0a356aba3fea0fd7d889c27e3150fbbf4e4259514fc1508b1c006be", func := "reeve/reevelaw23.NodeSteps", spec := "nodeSteps", unfollowed := true, recurses := true, apart := false }
def NodeStepsSaid : Prop := nodeStepsRow.holds Try.pinned (OpenSpec.ofChange nodeStepsSpec)

/-- ITS FALSE NEIGHBOUR: 'it returns false'. Refute it at one input. -/
def nodeStepsWrong : ChangeSpec := { name := "nodeSteps", fn := fun _ => fun
  | [d1, d2] => { results := [.lit (.bool false)], args := [d1, d2] }
  | _ => none }
def NodeStepsWrongFalsely : Prop := nodeStepsRow.holds Try.pinned (OpenSpec.ofChange nodeStepsWrong)

/-- 'reevelaw23.NodeHolds': WHATEVER THE INPUT: true; the input reads as it did. -/
def nodeHoldsSpec : ChangeSpec := { name := "nodeHolds", fn := fun _ => fun
  | [d1, d2] => { results := [.lit (.bool true)], args := [d1, d2] }
  | _ => none }
def nodeHoldsRow : OpenClaim := { program := "ytpicmpfcmgocmaa", sum := "83dde826e0a356aba3fea0fd7d889c27e3150fbbf4e4259514fc1508b1c006be", func := "reeve/reevelaw23.NodeHolds", spec := "nodeHolds", unfollowed := true, recurses := true, apart := false }
def NodeHoldsSaid : Prop := nodeHoldsRow.holds Try.pinned (OpenSpec.ofChange nodeHoldsSpec)

/-- ITS FALSE NEIGHBOUR: 'it returns false'. Refute it at one input. -/
def nodeHoldsWrong : ChangeSpec := { name := "nodeHolds", fn := fun _ => fun
  | [d1, d2] => { results := [.lit (.bool false)], args := [d1, d2] }
  | _ => none }
def NodeHoldsWrongFalsely : Prop := nodeHoldsRow.holds Try.pinned (OpenSpec.ofChange nodeHoldsWrong)

/- THE SECOND FORM. 'bulk': how many values and letters a reading holds, each counted each time it is reached (what is shared counts as often as it is met; a slice's spare places count too). A statement '..UptoSaid' is the law's where the arguments, and the package variables that the reading takes, are together of bulk at most 1048576: NARROWER than '..Said'. Prove '..Said' where nothing that the law and all that it calls make is longer than what came in: it says more and counts as full. Else prove '..UptoSaid'. A law counts once. -/
mutual
def uptoBulk {H : Type} : DataW H → Nat
  | .lit (.string bytes) => bytes.length + 1
  | .lit _ => 1
  | .nil => 1
  | .ptr d => uptoBulk d + 1
  | .slice elems spare => uptoBulkAll elems + uptoBulkAll spare + 1
  | .agg parts => uptoBulkAll parts + 1
  | .iface _ d => uptoBulk d + 1
  | .map entries => uptoBulkEntries entries + 1
  | .held _ => 1
def uptoBulkAll {H : Type} : List (DataW H) → Nat
  | [] => 0
  | d :: r => uptoBulk d + uptoBulkAll r
def uptoBulkEntries {H : Type} : List (Lit × DataW H) → Nat
  | [] => 0
  | x :: r => uptoBulkEntry x + uptoBulkEntries r
def uptoBulkEntry {H : Type} : Lit × DataW H → Nat
  | (.string bytes, d) => bytes.length + uptoBulk d + 1
  | (_, d) => uptoBulk d + 1
 end
def uptoSmall : (H : Type) → List (DataW H) → Bool := fun _ ds => decide (uptoBulkAll ds ≤ 1048576)
def OpenSpec.upto (s : _root_.Go.ChangeSpec) : _root_.Go.OpenSpec := { _root_.Go.OpenSpec.ofChange s with cond := some uptoSmall }

/-- 'reevelaw01.NumAdds', WHERE WHAT IT READS IS OF BULK AT MOST 1048576: true; the input reads as it did. -/
def numAddsUptoRow : OpenClaim := { program := "ytpicmpfcmgocmaa", sum := "83dde826e0a356aba3fea0fd7d889c27e3150fbbf4e4259514fc1508b1c006be", func := "reeve/reevelaw01.NumAdds", spec := "numAdds", unfollowed := true, recurses := true, apart := false, narrowed := true }
def NumAddsUptoSaid : Prop := numAddsUptoRow.holds Try.pinned (OpenSpec.upto numAddsSpec)

/-- 'reevelaw01.NumSums', WHERE WHAT IT READS IS OF BULK AT MOST 1048576: true; the input reads as it did. -/
def numSumsUptoRow : OpenClaim := { program := "ytpicmpfcmgocmaa", sum := "83dde826e0a356aba3fea0fd7d889c27e3150fbbf4e4259514fc1508b1c006be", func := "reeve/reevelaw01.NumSums", spec := "numSums", unfollowed := true, recurses := true, apart := false, narrowed := true }
def NumSumsUptoSaid : Prop := numSumsUptoRow.holds Try.pinned (OpenSpec.upto numSumsSpec)

/-- 'reevelaw01.NumBack', WHERE WHAT IT READS IS OF BULK AT MOST 1048576: true; the input reads as it did. -/
def numBackUptoRow : OpenClaim := { program := "ytpicmpfcmgocmaa", sum := "83dde826e0a356aba3fea0fd7d889c27e3150fbbf4e4259514fc1508b1c006be", func := "reeve/reevelaw01.NumBack", spec := "numBack", unfollowed := true, recurses := true, apart := false, narrowed := true }
def NumBackUptoSaid : Prop := numBackUptoRow.holds Try.pinned (OpenSpec.upto numBackSpec)

/-- 'reevelaw01.NumSpans', WHERE WHAT IT READS IS OF BULK AT MOST 1048576: true; the input reads as it did. -/
def numSpansUptoRow : OpenClaim := { program := "ytpicmpfcmgocmaa", sum := "83dde826e0a356aba3fea0fd7d889c27e3150fbbf4e4259514fc1508b1c006be", func := "reeve/reevelaw01.NumSpans", spec := "numSpans", unfollowed := true, recurses := true, apart := false, narrowed := true }
def NumSpansUptoSaid : Prop := numSpansUptoRow.holds Try.pinned (OpenSpec.upto numSpansSpec)

/-- 'reevelaw15.LeasePlays', WHERE WHAT IT READS IS OF BULK AT MOST 1048576: true; the input reads as it did. -/
def leasePlaysUptoRow : OpenClaim := { program := "ytpicmpfcmgocmaa", sum := "83dde826e0a356aba3fea0fd7d889c27e3150fbbf4e4259514fc1508b1c006be", func := "reeve/reevelaw15.LeasePlays", spec := "leasePlays", inPlace := ["sync/atomic.StorePointer", "sync/atomic.LoadPointer", "sync/atomic.CompareAndSwapPointer"], unfollowed := true, recurses := true, apart := false, narrowed := true }
def LeasePlaysUptoSaid : Prop := leasePlaysUptoRow.holds Try.pinned (OpenSpec.upto leasePlaysSpec)

/-- 'reevelaw15.LeaseOnce', WHERE WHAT IT READS IS OF BULK AT MOST 1048576: true; the input reads as it did. -/
def leaseOnceUptoRow : OpenClaim := { program := "ytpicmpfcmgocmaa", sum := "83dde826e0a356aba3fea0fd7d889c27e3150fbbf4e4259514fc1508b1c006be", func := "reeve/reevelaw15.LeaseOnce", spec := "leaseOnce", inPlace := ["sync/atomic.StorePointer", "sync/atomic.LoadPointer", "sync/atomic.CompareAndSwapPointer"], unfollowed := true, recurses := true, apart := false, narrowed := true }
def LeaseOnceUptoSaid : Prop := leaseOnceUptoRow.holds Try.pinned (OpenSpec.upto leaseOnceSpec)

/-- 'reevelaw15.LeaseNobody', WHERE WHAT IT READS IS OF BULK AT MOST 1048576: true; the input reads as it did. -/
def leaseNobodyUptoRow : OpenClaim := { program := "ytpicmpfcmgocmaa", sum := "83dde826e0a356aba3fea0fd7d889c27e3150fbbf4e4259514fc1508b1c006be", func := "reeve/reevelaw15.LeaseNobody", spec := "leaseNobody", inPlace := ["sync/atomic.LoadPointer", "sync/atomic.CompareAndSwapPointer", "sync/atomic.StorePointer"], unfollowed := true, recurses := true, apart := false, narrowed := true }
def LeaseNobodyUptoSaid : Prop := leaseNobodyUptoRow.holds Try.pinned (OpenSpec.upto leaseNobodySpec)

/-- 'reevelaw15.LeaseKeeps', WHERE WHAT IT READS IS OF BULK AT MOST 1048576: true; the input reads as it did. -/
def leaseKeepsUptoRow : OpenClaim := { program := "ytpicmpfcmgocmaa", sum := "83dde826e0a356aba3fea0fd7d889c27e3150fbbf4e4259514fc1508b1c006be", func := "reeve/reevelaw15.LeaseKeeps", spec := "leaseKeeps", inPlace := ["sync/atomic.StorePointer", "sync/atomic.LoadPointer", "sync/atomic.CompareAndSwapPointer"], unfollowed := true, recurses := true, apart := false, narrowed := true }
def LeaseKeepsUptoSaid : Prop := leaseKeepsUptoRow.holds Try.pinned (OpenSpec.upto leaseKeepsSpec)

/-- 'reevelaw23.NodeSteps', WHERE WHAT IT READS IS OF BULK AT MOST 1048576: true; the input reads as it did. -/
def nodeStepsUptoRow : OpenClaim := { program := "ytpicmpfcmgocmaa", sum := "83dde826e0a356aba3fea0fd7d889c27e3150fbbf4e4259514fc1508b1c006be", func := "reeve/reevelaw23.NodeSteps", spec := "nodeSteps", unfollowed := true, recurses := true, apart := false, narrowed := true }
def NodeStepsUptoSaid : Prop := nodeStepsUptoRow.holds Try.pinned (OpenSpec.upto nodeStepsSpec)

/-- 'reevelaw23.NodeHolds', WHERE WHAT IT READS IS OF BULK AT MOST 1048576: true; the input reads as it did. -/
def nodeHoldsUptoRow : OpenClaim := { program := "ytpicmpfcmgocmaa", sum := "83dde826e0a356aba3fea0fd7d889c27e3150fbbf4e4259514fc1508b1c006be", func := "reeve/reevelaw23.NodeHolds", spec := "nodeHolds", unfollowed := true, recurses := true, apart := false, narrowed := true }
def NodeHoldsUptoSaid : Prop := nodeHoldsUptoRow.holds Try.pinned (OpenSpec.upto nodeHoldsSpec)

end Rows
end Go.Proofs.Ytpicmpfcmgocmaa

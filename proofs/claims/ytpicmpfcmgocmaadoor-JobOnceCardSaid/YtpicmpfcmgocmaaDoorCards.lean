/-
  DERIVED. GIVEN WITH THE SEED: THE CARDS: each row of YtpicmpfcmgocmaaDoorRows.lean that lists a variable, with what it lists TIED to the program's text (the seventh form; the later family's looks); each row that meets fmt, with fmt's text TOLD by the authors' own Lean function (tested against real Go, not proved from fmt's source: count such statements apart). THE CARD IS WHAT COUNTS. Prove the row's statement (the work); the ties are given (YtpicmpfcmgocmaaDoorTie.lean); close each card by the builder's one call (the guide's Derived/Test/ToyasCard.lean, 'card_holds'). Laid BY PROGRAM, IN A SANDBOX (cutbox-door.mjs). By AI agents, Wed Nov 11 2026. No macro, syntax, notation, axiom, sorry.
-/
import Derived.Test.YtpicmpfcmgocmaaDoorRows
import GoSem.ClaimSeven
namespace Go.Proofs.YtpicmpfcmgocmaaDoor
namespace Rows

/-- THE TIED CARD OF 'reevelaw22.JobSteps'. -/
def jobStepsCard : Claim7 := { stood := { row := jobStepsRow, standIns := [], harness := (true, "4f9a78ea5083c25aecfab25996135ca35f8337d496042c4b8b24815826cb8e10"), looks := false }, kinds := [], alts := [], laidByText := true, laidKinds := [.data], laidTests := true, laidLooks := .later }
def JobStepsCardSaid : Prop := Claim7.holds Tryd.pinned (.plain (OpenSpec.ofChange jobStepsSpec)) jobStepsCard

/-- THE TIED CARD OF 'reevelaw22.JobOnce'. -/
def jobOnceCard : Claim7 := { stood := { row := jobOnceRow, standIns := [], harness := (true, "4f9a78ea5083c25aecfab25996135ca35f8337d496042c4b8b24815826cb8e10"), looks := false }, kinds := [], alts := [], laidByText := true, laidKinds := [.data], laidTests := true, laidLooks := .later }
def JobOnceCardSaid : Prop := Claim7.holds Tryd.pinned (.plain (OpenSpec.ofChange jobOnceSpec)) jobOnceCard

/-- THE SECOND FORM's CARD OF 'reevelaw22.JobSteps'. -/
def jobStepsUptoCard : Claim7 := { stood := { row := jobStepsUptoRow, standIns := [], harness := (true, "4f9a78ea5083c25aecfab25996135ca35f8337d496042c4b8b24815826cb8e10"), looks := false }, kinds := [], alts := [], laidByText := true, laidKinds := [.data], laidTests := true, laidLooks := .later }
def JobStepsUptoCardSaid : Prop := Claim7.holds Tryd.pinned (.plain (OpenSpec.upto jobStepsSpec)) jobStepsUptoCard

/-- THE SECOND FORM's CARD OF 'reevelaw22.JobOnce'. -/
def jobOnceUptoCard : Claim7 := { stood := { row := jobOnceUptoRow, standIns := [], harness := (true, "4f9a78ea5083c25aecfab25996135ca35f8337d496042c4b8b24815826cb8e10"), looks := false }, kinds := [], alts := [], laidByText := true, laidKinds := [.data], laidTests := true, laidLooks := .later }
def JobOnceUptoCardSaid : Prop := Claim7.holds Tryd.pinned (.plain (OpenSpec.upto jobOnceSpec)) jobOnceUptoCard
end Rows
end Go.Proofs.YtpicmpfcmgocmaaDoor

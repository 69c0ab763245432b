/-
  DERIVED. GIVEN WITH THE SEED: THE CARDS: each row of YtkcmhcgmiflgbaaDoorRows.lean that lists a variable, with what it lists TIED to the program's text (the seventh form; the later family's looks); each row that meets fmt, with fmt's text TOLD by the authors' own Lean function (tested against real Go, not proved from fmt's source: count such statements apart). THE CARD IS WHAT COUNTS. Prove the row's statement (the work); the ties are given (YtkcmhcgmiflgbaaDoorTie.lean); close each card by the builder's one call (the guide's Derived/Test/ToyasCard.lean, 'card_holds'). Laid BY PROGRAM, IN A SANDBOX (cutbox-door.mjs). By AI agents, Wed Nov 11 2026. No macro, syntax, notation, axiom, sorry.
-/
import Derived.Test.YtkcmhcgmiflgbaaDoorRows
import GoSem.ClaimSeven
namespace Go.Proofs.YtkcmhcgmiflgbaaDoor
namespace Rows

/-- THE TIED CARD OF 'reevelaw37.NetPlays'. -/
def netPlaysCard : Claim7 := { stood := { row := netPlaysRow, standIns := [], harness := (true, "2ff432e22059cfa650f4fd185f4caeec490e6251e3b68797e57f3a38446e8cca"), looks := false }, kinds := [], alts := [], laidByText := true, laidKinds := [.data], laidTests := true, laidLooks := .later }
def NetPlaysCardSaid : Prop := Claim7.holds Tryd.pinned (.plain (OpenSpec.ofChange netPlaysSpec)) netPlaysCard

/-- THE TIED CARD OF 'reevelaw37.NetKeeps'. -/
def netKeepsCard : Claim7 := { stood := { row := netKeepsRow, standIns := [], harness := (true, "2ff432e22059cfa650f4fd185f4caeec490e6251e3b68797e57f3a38446e8cca"), looks := false }, kinds := [], alts := [], laidByText := true, laidKinds := [.data], laidTests := true, laidLooks := .later }
def NetKeepsCardSaid : Prop := Claim7.holds Tryd.pinned (.plain (OpenSpec.ofChange netKeepsSpec)) netKeepsCard

/-- THE TIED CARD OF 'reevelaw37.NetApart'. -/
def netApartCard : Claim7 := { stood := { row := netApartRow, standIns := [], harness := (true, "2ff432e22059cfa650f4fd185f4caeec490e6251e3b68797e57f3a38446e8cca"), looks := false }, kinds := [], alts := [], laidByText := true, laidKinds := [.data], laidTests := true, laidLooks := .later }
def NetApartCardSaid : Prop := Claim7.holds Tryd.pinned (.plain (OpenSpec.ofChange netApartSpec)) netApartCard

/-- THE SECOND FORM's CARD OF 'reevelaw37.NetPlays'. -/
def netPlaysUptoCard : Claim7 := { stood := { row := netPlaysUptoRow, standIns := [], harness := (true, "2ff432e22059cfa650f4fd185f4caeec490e6251e3b68797e57f3a38446e8cca"), looks := false }, kinds := [], alts := [], laidByText := true, laidKinds := [.data], laidTests := true, laidLooks := .later }
def NetPlaysUptoCardSaid : Prop := Claim7.holds Tryd.pinned (.plain (OpenSpec.upto netPlaysSpec)) netPlaysUptoCard

/-- THE SECOND FORM's CARD OF 'reevelaw37.NetKeeps'. -/
def netKeepsUptoCard : Claim7 := { stood := { row := netKeepsUptoRow, standIns := [], harness := (true, "2ff432e22059cfa650f4fd185f4caeec490e6251e3b68797e57f3a38446e8cca"), looks := false }, kinds := [], alts := [], laidByText := true, laidKinds := [.data], laidTests := true, laidLooks := .later }
def NetKeepsUptoCardSaid : Prop := Claim7.holds Tryd.pinned (.plain (OpenSpec.upto netKeepsSpec)) netKeepsUptoCard

/-- THE SECOND FORM's CARD OF 'reevelaw37.NetApart'. -/
def netApartUptoCard : Claim7 := { stood := { row := netApartUptoRow, standIns := [], harness := (true, "2ff432e22059cfa650f4fd185f4caeec490e6251e3b68797e57f3a38446e8cca"), looks := false }, kinds := [], alts := [], laidByText := true, laidKinds := [.data], laidTests := true, laidLooks := .later }
def NetApartUptoCardSaid : Prop := Claim7.holds Tryd.pinned (.plain (OpenSpec.upto netApartSpec)) netApartUptoCard
end Rows
end Go.Proofs.YtkcmhcgmiflgbaaDoor

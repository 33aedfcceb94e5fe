/-
  DERIVED. GIVEN WITH THE SEED: THE CARDS: each row of YtjghgafeoimgiaaDoorRows.lean that lists a variable, with what it lists TIED to the program's text (the seventh form; the later family's looks); each row that meets fmt, with fmt's text TOLD by the authors' own Lean function (tested against real Go, not proved from fmt's source: count such statements apart). THE CARD IS WHAT COUNTS. Prove the row's statement (the work); the ties are given (YtjghgafeoimgiaaDoorTie.lean); close each card by the builder's one call (the guide's Derived/Test/ToyasCard.lean, 'card_holds'). Laid BY PROGRAM, IN A SANDBOX (cutbox-door.mjs). By AI agents, Wed Nov 11 2026. No macro, syntax, notation, axiom, sorry.
-/
import Derived.Test.YtjghgafeoimgiaaDoorRows
import GoSem.ClaimSeven
namespace Go.Proofs.YtjghgafeoimgiaaDoor
namespace Rows

/-- THE TIED CARD OF 'millracelaw.ActionDoes'. -/
def actionDoesCard : Claim7 := { stood := { row := actionDoesRow, standIns := [], harness := (true, "43fc2e2572b842ffecf11ec761907a43fb080eb625ca1e17ab418c5a8a715bc2"), looks := true }, kinds := [], alts := [], laidByText := true, laidKinds := [.handle, .data], laidTests := true, laidLooks := .later }
def ActionDoesCardSaid : Prop := Claim7.holds Tryd.pinned (.plain (OpenSpec.ofChange actionDoesSpec)) actionDoesCard

/-- THE SECOND FORM's CARD OF 'millracelaw.ActionDoes'. -/
def actionDoesUptoCard : Claim7 := { stood := { row := actionDoesUptoRow, standIns := [], harness := (true, "43fc2e2572b842ffecf11ec761907a43fb080eb625ca1e17ab418c5a8a715bc2"), looks := true }, kinds := [], alts := [], laidByText := true, laidKinds := [.handle, .data], laidTests := true, laidLooks := .later }
def ActionDoesUptoCardSaid : Prop := Claim7.holds Tryd.pinned (.plain (OpenSpec.upto actionDoesSpec)) actionDoesUptoCard
end Rows
end Go.Proofs.YtjghgafeoimgiaaDoor

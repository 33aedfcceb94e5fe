/-
  DERIVED. GIVEN WITH THE SEED: THE CARDS: each row of YthkccohigoejgaaGreatDoorRows.lean that lists a variable, with what it lists TIED to the program's text (the seventh form; the later family's looks); each row that meets fmt, with fmt's text TOLD by the authors' own Lean function (tested against real Go, not proved from fmt's source: count such statements apart). THE CARD IS WHAT COUNTS. Prove the row's statement (the work); the ties are given (YthkccohigoejgaaGreatDoorTie.lean); close each card by the builder's one call (the guide's Derived/Test/ToyasCard.lean, 'card_holds'). Laid BY PROGRAM, IN A SANDBOX (cutbox-door.mjs). By AI agents, Wed Nov 11 2026. No macro, syntax, notation, axiom, sorry.
-/
import Derived.Test.YthkccohigoejgaaGreatDoorRows
import GoSem.ClaimSeven
namespace Go.Proofs.YthkccohigoejgaaGreatDoor
namespace Rows

/-- THE TIED CARD OF 'millracelaw.FilterParses'. -/
def filterParsesCard : Claim7 := { stood := { row := filterParsesRow, standIns := [], harness := (true, "7e39498fac659907d1d58a1350384b4ffc23b21efc041cd4d49cc947915db249"), looks := true }, kinds := [], alts := [], laidByText := true, laidKinds := [.data, .data, .data, .handle, .sentinel, .sentinel, .data, .data, .data], laidTests := true, laidLooks := .later }
def FilterParsesCardSaid : Prop := Claim7.holds Tryz.pinned (.plain (OpenSpec.ofChange filterParsesSpec)) filterParsesCard

/-- THE SECOND FORM's CARD OF 'millracelaw.FilterParses'. -/
def filterParsesUptoCard : Claim7 := { stood := { row := filterParsesUptoRow, standIns := [], harness := (true, "7e39498fac659907d1d58a1350384b4ffc23b21efc041cd4d49cc947915db249"), looks := true }, kinds := [], alts := [], laidByText := true, laidKinds := [.data, .data, .data, .handle, .sentinel, .sentinel, .data, .data, .data], laidTests := true, laidLooks := .later }
def FilterParsesUptoCardSaid : Prop := Claim7.holds Tryz.pinned (.plain (OpenSpec.upto filterParsesSpec)) filterParsesUptoCard
end Rows
end Go.Proofs.YthkccohigoejgaaGreatDoor

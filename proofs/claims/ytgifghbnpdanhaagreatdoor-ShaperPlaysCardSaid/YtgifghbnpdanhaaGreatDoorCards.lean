/-
  DERIVED. GIVEN WITH THE SEED: THE CARDS: each row of YtgifghbnpdanhaaGreatDoorRows.lean that lists a variable, with what it lists TIED to the program's text (the seventh form; the later family's looks); each row that meets fmt, with fmt's text TOLD by the authors' own Lean function (tested against real Go, not proved from fmt's source: count such statements apart). THE CARD IS WHAT COUNTS. Prove the row's statement (the work); the ties are given (YtgifghbnpdanhaaGreatDoorTie.lean); close each card by the builder's one call (the guide's Derived/Test/ToyasCard.lean, 'card_holds'). Laid BY PROGRAM, IN A SANDBOX (cutbox-door.mjs). By AI agents, Wed Nov 11 2026. No macro, syntax, notation, axiom, sorry.
-/
import Derived.Test.YtgifghbnpdanhaaGreatDoorRows
import GoSem.ClaimSeven
namespace Go.Proofs.YtgifghbnpdanhaaGreatDoor
namespace Rows

/-- THE TIED CARD OF 'millracelaw.ShaperPlays'. -/
def shaperPlaysCard : Claim7 := { stood := { row := shaperPlaysRow, standIns := [], harness := (true, "ddc67ea18a9e5ef71dbbf8d59b66e7635d2c7596d68d6bfaff2c5da90a2281d4"), looks := true }, kinds := [], alts := [], laidByText := true, laidKinds := [.handle], laidTests := true, laidLooks := .later }
def ShaperPlaysCardSaid : Prop := Claim7.holds Tryz.pinned (.plain (OpenSpec.ofChange shaperPlaysSpec)) shaperPlaysCard

/-- THE TIED CARD OF 'millracelaw.HtbPlays'. -/
def htbPlaysCard : Claim7 := { stood := { row := htbPlaysRow, standIns := [], harness := (true, "ddc67ea18a9e5ef71dbbf8d59b66e7635d2c7596d68d6bfaff2c5da90a2281d4"), looks := true }, kinds := [], alts := [], laidByText := true, laidKinds := [.handle, .data], laidTests := true, laidLooks := .later }
def HtbPlaysCardSaid : Prop := Claim7.holds Tryz.pinned (.plain (OpenSpec.ofChange htbPlaysSpec)) htbPlaysCard

/-- THE SECOND FORM's CARD OF 'millracelaw.ShaperPlays'. -/
def shaperPlaysUptoCard : Claim7 := { stood := { row := shaperPlaysUptoRow, standIns := [], harness := (true, "ddc67ea18a9e5ef71dbbf8d59b66e7635d2c7596d68d6bfaff2c5da90a2281d4"), looks := true }, kinds := [], alts := [], laidByText := true, laidKinds := [.handle], laidTests := true, laidLooks := .later }
def ShaperPlaysUptoCardSaid : Prop := Claim7.holds Tryz.pinned (.plain (OpenSpec.upto shaperPlaysSpec)) shaperPlaysUptoCard

/-- THE SECOND FORM's CARD OF 'millracelaw.HtbPlays'. -/
def htbPlaysUptoCard : Claim7 := { stood := { row := htbPlaysUptoRow, standIns := [], harness := (true, "ddc67ea18a9e5ef71dbbf8d59b66e7635d2c7596d68d6bfaff2c5da90a2281d4"), looks := true }, kinds := [], alts := [], laidByText := true, laidKinds := [.handle, .data], laidTests := true, laidLooks := .later }
def HtbPlaysUptoCardSaid : Prop := Claim7.holds Tryz.pinned (.plain (OpenSpec.upto htbPlaysSpec)) htbPlaysUptoCard
end Rows
end Go.Proofs.YtgifghbnpdanhaaGreatDoor

/-
  DERIVED. GIVEN WITH THE SEED: THE CARDS: each row of YtfdmmfjheiiiiaaDoorRows.lean that lists a variable, with what it lists TIED to the program's text (the seventh form; the later family's looks); each row that meets fmt, with fmt's text TOLD by the authors' own Lean function (tested against real Go, not proved from fmt's source: count such statements apart). THE CARD IS WHAT COUNTS. Prove the row's statement (the work); the ties are given (YtfdmmfjheiiiiaaDoorTie.lean); close each card by the builder's one call (the guide's Derived/Test/ToyasCard.lean, 'card_holds'). Laid BY PROGRAM, IN A SANDBOX (cutbox-door.mjs). By AI agents, Wed Nov 11 2026. No macro, syntax, notation, axiom, sorry.
-/
import Derived.Test.YtfdmmfjheiiiiaaDoorRows
import GoSem.ClaimSeven
namespace Go.Proofs.YtfdmmfjheiiiiaaDoor
namespace Rows

/-- THE TIED CARD OF 'millracelaw.ScedMakes'. -/
def scedMakesCard : Claim7 := { stood := { row := scedMakesRow, standIns := [], harness := (true, "ba684fbadfe35acd7b138c9de8c6d0ce67315d8c90b60cc7f7c152b569f09379"), looks := true }, kinds := [], alts := [], laidByText := true, laidKinds := [.handle], laidTests := true, laidLooks := .later }
def ScedMakesCardSaid : Prop := Claim7.holds Tryd.pinned (.plain (OpenSpec.ofChange scedMakesSpec)) scedMakesCard

/-- THE SECOND FORM's CARD OF 'millracelaw.ScedMakes'. -/
def scedMakesUptoCard : Claim7 := { stood := { row := scedMakesUptoRow, standIns := [], harness := (true, "ba684fbadfe35acd7b138c9de8c6d0ce67315d8c90b60cc7f7c152b569f09379"), looks := true }, kinds := [], alts := [], laidByText := true, laidKinds := [.handle], laidTests := true, laidLooks := .later }
def ScedMakesUptoCardSaid : Prop := Claim7.holds Tryd.pinned (.plain (OpenSpec.upto scedMakesSpec)) scedMakesUptoCard
end Rows
end Go.Proofs.YtfdmmfjheiiiiaaDoor

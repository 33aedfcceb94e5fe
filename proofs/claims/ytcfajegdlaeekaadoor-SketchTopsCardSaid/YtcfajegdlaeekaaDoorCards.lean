/-
  DERIVED. GIVEN WITH THE SEED: THE CARDS: each row of YtcfajegdlaeekaaDoorRows.lean that lists a variable, with what it lists TIED to the program's text (the seventh form; the later family's looks); each row that meets fmt, with fmt's text TOLD by the authors' own Lean function (tested against real Go, not proved from fmt's source: count such statements apart). THE CARD IS WHAT COUNTS. Prove the row's statement (the work); the ties are given (YtcfajegdlaeekaaDoorTie.lean); close each card by the builder's one call (the guide's Derived/Test/ToyasCard.lean, 'card_holds'). Laid BY PROGRAM, IN A SANDBOX (cutbox-door.mjs). By AI agents, Wed Nov 11 2026. No macro, syntax, notation, axiom, sorry.
-/
import Derived.Test.YtcfajegdlaeekaaDoorRows
import GoSem.ClaimSeven
namespace Go.Proofs.YtcfajegdlaeekaaDoor
namespace Rows

/-- THE TIED CARD OF 'millracelaw.SketchTops'. -/
def sketchTopsCard : Claim7 := { stood := { row := sketchTopsRow, standIns := [], harness := (true, "afe38195730da621d5a3951f00e99bab095dec5537e19460202dc5820126fb75"), looks := true }, kinds := [], alts := [], laidByText := true, laidKinds := [.handle], laidTests := true, laidLooks := .later }
def SketchTopsCardSaid : Prop := Claim7.holds Tryd.pinned (.plain (OpenSpec.ofChange sketchTopsSpec)) sketchTopsCard

/-- THE SECOND FORM's CARD OF 'millracelaw.SketchTops'. -/
def sketchTopsUptoCard : Claim7 := { stood := { row := sketchTopsUptoRow, standIns := [], harness := (true, "afe38195730da621d5a3951f00e99bab095dec5537e19460202dc5820126fb75"), looks := true }, kinds := [], alts := [], laidByText := true, laidKinds := [.handle], laidTests := true, laidLooks := .later }
def SketchTopsUptoCardSaid : Prop := Claim7.holds Tryd.pinned (.plain (OpenSpec.upto sketchTopsSpec)) sketchTopsUptoCard
end Rows
end Go.Proofs.YtcfajegdlaeekaaDoor

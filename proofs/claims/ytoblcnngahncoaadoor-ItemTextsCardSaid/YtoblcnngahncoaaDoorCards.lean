/-
  DERIVED. GIVEN WITH THE SEED: THE CARDS: each row of YtoblcnngahncoaaDoorRows.lean that lists a variable, with what it lists TIED to the program's text (the seventh form; the later family's looks); each row that meets fmt, with fmt's text TOLD by the authors' own Lean function (tested against real Go, not proved from fmt's source: count such statements apart). THE CARD IS WHAT COUNTS. Prove the row's statement (the work); the ties are given (YtoblcnngahncoaaDoorTie.lean); close each card by the builder's one call (the guide's Derived/Test/ToyasCard.lean, 'card_holds'). Laid BY PROGRAM, IN A SANDBOX (cutbox-door.mjs). By AI agents, Wed Nov 11 2026. No macro, syntax, notation, axiom, sorry.
-/
import Derived.Test.YtoblcnngahncoaaDoorRows
import GoSem.ClaimSeven
namespace Go.Proofs.YtoblcnngahncoaaDoor
namespace Rows

/-- THE TIED CARD OF 'millracelaw.ItemTexts'. -/
def itemTextsCard : Claim7 := { stood := { row := itemTextsRow, standIns := [], harness := (true, "0450be8ebf4fa979104c3ada80345e7da00f0abda3d6d4d6be79f4f210ecc4b3"), looks := false }, kinds := [], alts := [], laidByText := true, laidKinds := [.data, .data, .data], laidTests := true, laidLooks := .later }
def ItemTextsCardSaid : Prop := Claim7.holds Tryd.pinned (.plain (OpenSpec.ofChange itemTextsSpec)) itemTextsCard

/-- THE SECOND FORM's CARD OF 'millracelaw.ItemTexts'. -/
def itemTextsUptoCard : Claim7 := { stood := { row := itemTextsUptoRow, standIns := [], harness := (true, "0450be8ebf4fa979104c3ada80345e7da00f0abda3d6d4d6be79f4f210ecc4b3"), looks := false }, kinds := [], alts := [], laidByText := true, laidKinds := [.data, .data, .data], laidTests := true, laidLooks := .later }
def ItemTextsUptoCardSaid : Prop := Claim7.holds Tryd.pinned (.plain (OpenSpec.upto itemTextsSpec)) itemTextsUptoCard
end Rows
end Go.Proofs.YtoblcnngahncoaaDoor

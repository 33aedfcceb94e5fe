/-
  DERIVED. GIVEN WITH THE SEED: THE CARDS: each row of YtlaoapdgkkgmhaaDoorRows.lean that lists a variable, with what it lists TIED to the program's text (the seventh form; the later family's looks); each row that meets fmt, with fmt's text TOLD by the authors' own Lean function (tested against real Go, not proved from fmt's source: count such statements apart). THE CARD IS WHAT COUNTS. Prove the row's statement (the work); the ties are given (YtlaoapdgkkgmhaaDoorTie.lean); close each card by the builder's one call (the guide's Derived/Test/ToyasCard.lean, 'card_holds'). Laid BY PROGRAM, IN A SANDBOX (cutbox-door.mjs). By AI agents, Wed Nov 11 2026. No macro, syntax, notation, axiom, sorry.
-/
import Derived.Test.YtlaoapdgkkgmhaaDoorRows
import GoSem.ClaimSeven
namespace Go.Proofs.YtlaoapdgkkgmhaaDoor
namespace Rows

/-- THE TIED CARD OF 'millracelaw.ItemTakes'. -/
def itemTakesCard : Claim7 := { stood := { row := itemTakesRow, standIns := [], harness := (true, "3bc55dd60d6e6a61e7884e6474bdd4ec1e630e10d3b4d0d932fd26e2e2730862"), looks := true }, kinds := [], alts := [], laidByText := true, laidKinds := [.handle], laidTests := true, laidLooks := .later }
def ItemTakesCardSaid : Prop := Claim7.holds Tryd.pinned (.plain (OpenSpec.ofChange itemTakesSpec)) itemTakesCard

/-- THE TIED CARD OF 'millracelaw.CurveMakes'. -/
def curveMakesCard : Claim7 := { stood := { row := curveMakesRow, standIns := [], harness := (true, "3bc55dd60d6e6a61e7884e6474bdd4ec1e630e10d3b4d0d932fd26e2e2730862"), looks := true }, kinds := [], alts := [], laidByText := true, laidKinds := [.handle], laidTests := true, laidLooks := .later }
def CurveMakesCardSaid : Prop := Claim7.holds Tryd.pinned (.plain (OpenSpec.ofChange curveMakesSpec)) curveMakesCard

/-- THE SECOND FORM's CARD OF 'millracelaw.ItemTakes'. -/
def itemTakesUptoCard : Claim7 := { stood := { row := itemTakesUptoRow, standIns := [], harness := (true, "3bc55dd60d6e6a61e7884e6474bdd4ec1e630e10d3b4d0d932fd26e2e2730862"), looks := true }, kinds := [], alts := [], laidByText := true, laidKinds := [.handle], laidTests := true, laidLooks := .later }
def ItemTakesUptoCardSaid : Prop := Claim7.holds Tryd.pinned (.plain (OpenSpec.upto itemTakesSpec)) itemTakesUptoCard

/-- THE SECOND FORM's CARD OF 'millracelaw.CurveMakes'. -/
def curveMakesUptoCard : Claim7 := { stood := { row := curveMakesUptoRow, standIns := [], harness := (true, "3bc55dd60d6e6a61e7884e6474bdd4ec1e630e10d3b4d0d932fd26e2e2730862"), looks := true }, kinds := [], alts := [], laidByText := true, laidKinds := [.handle], laidTests := true, laidLooks := .later }
def CurveMakesUptoCardSaid : Prop := Claim7.holds Tryd.pinned (.plain (OpenSpec.upto curveMakesSpec)) curveMakesUptoCard
end Rows
end Go.Proofs.YtlaoapdgkkgmhaaDoor

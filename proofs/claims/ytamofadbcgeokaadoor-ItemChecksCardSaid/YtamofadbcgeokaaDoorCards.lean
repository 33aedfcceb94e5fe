/-
  DERIVED. GIVEN WITH THE SEED: THE CARDS: each row of YtamofadbcgeokaaDoorRows.lean that lists a variable, with what it lists TIED to the program's text (the seventh form; the later family's looks); each row that meets fmt, with fmt's text TOLD by the authors' own Lean function (tested against real Go, not proved from fmt's source: count such statements apart). THE CARD IS WHAT COUNTS. Prove the row's statement (the work); the ties are given (YtamofadbcgeokaaDoorTie.lean); close each card by the builder's one call (the guide's Derived/Test/ToyasCard.lean, 'card_holds'). Laid BY PROGRAM, IN A SANDBOX (cutbox-door.mjs). By AI agents, Wed Nov 11 2026. No macro, syntax, notation, axiom, sorry.
-/
import Derived.Test.YtamofadbcgeokaaDoorRows
import GoSem.ClaimSeven
namespace Go.Proofs.YtamofadbcgeokaaDoor
namespace Rows

/-- THE TIED CARD OF 'millracelaw.ItemTakes'. -/
def itemTakesCard : Claim7 := { stood := { row := itemTakesRow, standIns := [], harness := (true, "4aabaf184237972757b978102bf2d3c45450d15a215b99d6e4f2176eaeb5662d"), looks := true }, kinds := [], alts := [], laidByText := true, laidKinds := [.handle], laidTests := true, laidLooks := .later }
def ItemTakesCardSaid : Prop := Claim7.holds Tryd.pinned (.plain (OpenSpec.ofChange itemTakesSpec)) itemTakesCard

/-- THE TIED CARD OF 'millracelaw.CurveChecks'. -/
def curveChecksCard : Claim7 := { stood := { row := curveChecksRow, standIns := [], harness := (true, "4aabaf184237972757b978102bf2d3c45450d15a215b99d6e4f2176eaeb5662d"), looks := true }, kinds := [], alts := [], laidByText := true, laidKinds := [.handle], laidTests := true, laidLooks := .later }
def CurveChecksCardSaid : Prop := Claim7.holds Tryd.pinned (.plain (OpenSpec.ofChange curveChecksSpec)) curveChecksCard

/-- THE TIED CARD OF 'millracelaw.ItemChecks'. -/
def itemChecksCard : Claim7 := { stood := { row := itemChecksRow, standIns := [], harness := (true, "4aabaf184237972757b978102bf2d3c45450d15a215b99d6e4f2176eaeb5662d"), looks := true }, kinds := [], alts := [], laidByText := true, laidKinds := [.handle, .data], laidTests := true, laidLooks := .later }
def ItemChecksCardSaid : Prop := Claim7.holds Tryd.pinned (.plain (OpenSpec.ofChange itemChecksSpec)) itemChecksCard

/-- THE TIED CARD OF 'millracelaw.CurveMakes'. -/
def curveMakesCard : Claim7 := { stood := { row := curveMakesRow, standIns := [], harness := (true, "4aabaf184237972757b978102bf2d3c45450d15a215b99d6e4f2176eaeb5662d"), looks := true }, kinds := [], alts := [], laidByText := true, laidKinds := [.handle], laidTests := true, laidLooks := .later }
def CurveMakesCardSaid : Prop := Claim7.holds Tryd.pinned (.plain (OpenSpec.ofChange curveMakesSpec)) curveMakesCard

/-- THE TIED CARD OF 'millracelaw.CurveLeast'. -/
def curveLeastCard : Claim7 := { stood := { row := curveLeastRow, standIns := [], harness := (true, "4aabaf184237972757b978102bf2d3c45450d15a215b99d6e4f2176eaeb5662d"), looks := true }, kinds := [], alts := [], laidByText := true, laidKinds := [.handle], laidTests := true, laidLooks := .later }
def CurveLeastCardSaid : Prop := Claim7.holds Tryd.pinned (.plain (OpenSpec.ofChange curveLeastSpec)) curveLeastCard

/-- THE TIED CARD OF 'millracelaw.CurveThen'. -/
def curveThenCard : Claim7 := { stood := { row := curveThenRow, standIns := [], harness := (true, "4aabaf184237972757b978102bf2d3c45450d15a215b99d6e4f2176eaeb5662d"), looks := true }, kinds := [], alts := [], laidByText := true, laidKinds := [.handle], laidTests := true, laidLooks := .later }
def CurveThenCardSaid : Prop := Claim7.holds Tryd.pinned (.plain (OpenSpec.ofChange curveThenSpec)) curveThenCard

/-- THE TIED CARD OF 'millracelaw.CurveFits'. -/
def curveFitsCard : Claim7 := { stood := { row := curveFitsRow, standIns := [], harness := (true, "4aabaf184237972757b978102bf2d3c45450d15a215b99d6e4f2176eaeb5662d"), looks := true }, kinds := [], alts := [], laidByText := true, laidKinds := [.handle], laidTests := true, laidLooks := .later }
def CurveFitsCardSaid : Prop := Claim7.holds Tryd.pinned (.plain (OpenSpec.ofChange curveFitsSpec)) curveFitsCard

/-- THE TIED CARD OF 'millracelaw.CurveBehind'. -/
def curveBehindCard : Claim7 := { stood := { row := curveBehindRow, standIns := [], harness := (true, "4aabaf184237972757b978102bf2d3c45450d15a215b99d6e4f2176eaeb5662d"), looks := true }, kinds := [], alts := [], laidByText := true, laidKinds := [.handle], laidTests := true, laidLooks := .later }
def CurveBehindCardSaid : Prop := Claim7.holds Tryd.pinned (.plain (OpenSpec.ofChange curveBehindSpec)) curveBehindCard

/-- THE TIED CARD OF 'millracelaw.CurveServes'. -/
def curveServesCard : Claim7 := { stood := { row := curveServesRow, standIns := [], harness := (true, "4aabaf184237972757b978102bf2d3c45450d15a215b99d6e4f2176eaeb5662d"), looks := true }, kinds := [], alts := [], laidByText := true, laidKinds := [.handle], laidTests := true, laidLooks := .later }
def CurveServesCardSaid : Prop := Claim7.holds Tryd.pinned (.plain (OpenSpec.ofChange curveServesSpec)) curveServesCard

/-- THE TIED CARD OF 'millracelaw.CurveBounds'. -/
def curveBoundsCard : Claim7 := { stood := { row := curveBoundsRow, standIns := [], harness := (true, "4aabaf184237972757b978102bf2d3c45450d15a215b99d6e4f2176eaeb5662d"), looks := true }, kinds := [], alts := [], laidByText := true, laidKinds := [.handle], laidTests := true, laidLooks := .later }
def CurveBoundsCardSaid : Prop := Claim7.holds Tryd.pinned (.plain (OpenSpec.ofChange curveBoundsSpec)) curveBoundsCard

/-- THE SECOND FORM's CARD OF 'millracelaw.ItemTakes'. -/
def itemTakesUptoCard : Claim7 := { stood := { row := itemTakesUptoRow, standIns := [], harness := (true, "4aabaf184237972757b978102bf2d3c45450d15a215b99d6e4f2176eaeb5662d"), looks := true }, kinds := [], alts := [], laidByText := true, laidKinds := [.handle], laidTests := true, laidLooks := .later }
def ItemTakesUptoCardSaid : Prop := Claim7.holds Tryd.pinned (.plain (OpenSpec.upto itemTakesSpec)) itemTakesUptoCard

/-- THE SECOND FORM's CARD OF 'millracelaw.CurveChecks'. -/
def curveChecksUptoCard : Claim7 := { stood := { row := curveChecksUptoRow, standIns := [], harness := (true, "4aabaf184237972757b978102bf2d3c45450d15a215b99d6e4f2176eaeb5662d"), looks := true }, kinds := [], alts := [], laidByText := true, laidKinds := [.handle], laidTests := true, laidLooks := .later }
def CurveChecksUptoCardSaid : Prop := Claim7.holds Tryd.pinned (.plain (OpenSpec.upto curveChecksSpec)) curveChecksUptoCard

/-- THE SECOND FORM's CARD OF 'millracelaw.ItemChecks'. -/
def itemChecksUptoCard : Claim7 := { stood := { row := itemChecksUptoRow, standIns := [], harness := (true, "4aabaf184237972757b978102bf2d3c45450d15a215b99d6e4f2176eaeb5662d"), looks := true }, kinds := [], alts := [], laidByText := true, laidKinds := [.handle, .data], laidTests := true, laidLooks := .later }
def ItemChecksUptoCardSaid : Prop := Claim7.holds Tryd.pinned (.plain (OpenSpec.upto itemChecksSpec)) itemChecksUptoCard

/-- THE SECOND FORM's CARD OF 'millracelaw.CurveMakes'. -/
def curveMakesUptoCard : Claim7 := { stood := { row := curveMakesUptoRow, standIns := [], harness := (true, "4aabaf184237972757b978102bf2d3c45450d15a215b99d6e4f2176eaeb5662d"), looks := true }, kinds := [], alts := [], laidByText := true, laidKinds := [.handle], laidTests := true, laidLooks := .later }
def CurveMakesUptoCardSaid : Prop := Claim7.holds Tryd.pinned (.plain (OpenSpec.upto curveMakesSpec)) curveMakesUptoCard

/-- THE SECOND FORM's CARD OF 'millracelaw.CurveLeast'. -/
def curveLeastUptoCard : Claim7 := { stood := { row := curveLeastUptoRow, standIns := [], harness := (true, "4aabaf184237972757b978102bf2d3c45450d15a215b99d6e4f2176eaeb5662d"), looks := true }, kinds := [], alts := [], laidByText := true, laidKinds := [.handle], laidTests := true, laidLooks := .later }
def CurveLeastUptoCardSaid : Prop := Claim7.holds Tryd.pinned (.plain (OpenSpec.upto curveLeastSpec)) curveLeastUptoCard

/-- THE SECOND FORM's CARD OF 'millracelaw.CurveThen'. -/
def curveThenUptoCard : Claim7 := { stood := { row := curveThenUptoRow, standIns := [], harness := (true, "4aabaf184237972757b978102bf2d3c45450d15a215b99d6e4f2176eaeb5662d"), looks := true }, kinds := [], alts := [], laidByText := true, laidKinds := [.handle], laidTests := true, laidLooks := .later }
def CurveThenUptoCardSaid : Prop := Claim7.holds Tryd.pinned (.plain (OpenSpec.upto curveThenSpec)) curveThenUptoCard

/-- THE SECOND FORM's CARD OF 'millracelaw.CurveFits'. -/
def curveFitsUptoCard : Claim7 := { stood := { row := curveFitsUptoRow, standIns := [], harness := (true, "4aabaf184237972757b978102bf2d3c45450d15a215b99d6e4f2176eaeb5662d"), looks := true }, kinds := [], alts := [], laidByText := true, laidKinds := [.handle], laidTests := true, laidLooks := .later }
def CurveFitsUptoCardSaid : Prop := Claim7.holds Tryd.pinned (.plain (OpenSpec.upto curveFitsSpec)) curveFitsUptoCard

/-- THE SECOND FORM's CARD OF 'millracelaw.CurveBehind'. -/
def curveBehindUptoCard : Claim7 := { stood := { row := curveBehindUptoRow, standIns := [], harness := (true, "4aabaf184237972757b978102bf2d3c45450d15a215b99d6e4f2176eaeb5662d"), looks := true }, kinds := [], alts := [], laidByText := true, laidKinds := [.handle], laidTests := true, laidLooks := .later }
def CurveBehindUptoCardSaid : Prop := Claim7.holds Tryd.pinned (.plain (OpenSpec.upto curveBehindSpec)) curveBehindUptoCard

/-- THE SECOND FORM's CARD OF 'millracelaw.CurveServes'. -/
def curveServesUptoCard : Claim7 := { stood := { row := curveServesUptoRow, standIns := [], harness := (true, "4aabaf184237972757b978102bf2d3c45450d15a215b99d6e4f2176eaeb5662d"), looks := true }, kinds := [], alts := [], laidByText := true, laidKinds := [.handle], laidTests := true, laidLooks := .later }
def CurveServesUptoCardSaid : Prop := Claim7.holds Tryd.pinned (.plain (OpenSpec.upto curveServesSpec)) curveServesUptoCard

/-- THE SECOND FORM's CARD OF 'millracelaw.CurveBounds'. -/
def curveBoundsUptoCard : Claim7 := { stood := { row := curveBoundsUptoRow, standIns := [], harness := (true, "4aabaf184237972757b978102bf2d3c45450d15a215b99d6e4f2176eaeb5662d"), looks := true }, kinds := [], alts := [], laidByText := true, laidKinds := [.handle], laidTests := true, laidLooks := .later }
def CurveBoundsUptoCardSaid : Prop := Claim7.holds Tryd.pinned (.plain (OpenSpec.upto curveBoundsSpec)) curveBoundsUptoCard
end Rows
end Go.Proofs.YtamofadbcgeokaaDoor

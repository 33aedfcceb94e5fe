/-
  DERIVED. GIVEN WITH THE SEED: THE CARDS: each row of YthkccohigoejgaaDoorRows.lean that lists a variable, with what it lists TIED to the program's text (the seventh form; the later family's looks); each row that meets fmt, with fmt's text TOLD by the authors' own Lean function (tested against real Go, not proved from fmt's source: count such statements apart). THE CARD IS WHAT COUNTS. Prove the row's statement (the work); the ties are given (YthkccohigoejgaaDoorTie.lean); close each card by the builder's one call (the guide's Derived/Test/ToyasCard.lean, 'card_holds'). Laid BY PROGRAM, IN A SANDBOX (cutbox-door.mjs). By AI agents, Wed Nov 11 2026. No macro, syntax, notation, axiom, sorry.
-/
import Derived.Test.YthkccohigoejgaaDoorRows
import GoSem.ClaimSeven
namespace Go.Proofs.YthkccohigoejgaaDoor
namespace Rows

/-- THE TIED CARD OF 'millracelaw.FilterMeans'. -/
def filterMeansCard : Claim7 := { stood := { row := filterMeansRow, standIns := [], harness := (true, "14bb64997f225d3f683bb81099bb3ec947c35a4be2b83f533ffbb6ff48603440"), looks := true }, kinds := [], alts := [], laidByText := true, laidKinds := [.data, .data, .data, .sentinel, .sentinel, .data, .data, .data], laidTests := true, laidLooks := .later }
def FilterMeansCardSaid : Prop := Claim7.holds Tryd.pinned (.plain (OpenSpec.ofChange filterMeansSpec)) filterMeansCard

/-- THE TIED CARD OF 'millracelaw.FilterFirst'. -/
def filterFirstCard : Claim7 := { stood := { row := filterFirstRow, standIns := [], harness := (true, "14bb64997f225d3f683bb81099bb3ec947c35a4be2b83f533ffbb6ff48603440"), looks := true }, kinds := [], alts := [], laidByText := true, laidKinds := [.data, .data, .data, .sentinel, .sentinel, .data, .data, .data], laidTests := true, laidLooks := .later }
def FilterFirstCardSaid : Prop := Claim7.holds Tryd.pinned (.plain (OpenSpec.ofChange filterFirstSpec)) filterFirstCard

/-- THE TIED CARD OF 'millracelaw.FilterInside'. -/
def filterInsideCard : Claim7 := { stood := { row := filterInsideRow, standIns := [], harness := (true, "14bb64997f225d3f683bb81099bb3ec947c35a4be2b83f533ffbb6ff48603440"), looks := true }, kinds := [], alts := [], laidByText := true, laidKinds := [.data, .data, .data, .sentinel, .sentinel, .data, .data, .data], laidTests := true, laidLooks := .later }
def FilterInsideCardSaid : Prop := Claim7.holds Tryd.pinned (.plain (OpenSpec.ofChange filterInsideSpec)) filterInsideCard

/-- THE SECOND FORM's CARD OF 'millracelaw.FilterMeans'. -/
def filterMeansUptoCard : Claim7 := { stood := { row := filterMeansUptoRow, standIns := [], harness := (true, "14bb64997f225d3f683bb81099bb3ec947c35a4be2b83f533ffbb6ff48603440"), looks := true }, kinds := [], alts := [], laidByText := true, laidKinds := [.data, .data, .data, .sentinel, .sentinel, .data, .data, .data], laidTests := true, laidLooks := .later }
def FilterMeansUptoCardSaid : Prop := Claim7.holds Tryd.pinned (.plain (OpenSpec.upto filterMeansSpec)) filterMeansUptoCard

/-- THE SECOND FORM's CARD OF 'millracelaw.FilterFirst'. -/
def filterFirstUptoCard : Claim7 := { stood := { row := filterFirstUptoRow, standIns := [], harness := (true, "14bb64997f225d3f683bb81099bb3ec947c35a4be2b83f533ffbb6ff48603440"), looks := true }, kinds := [], alts := [], laidByText := true, laidKinds := [.data, .data, .data, .sentinel, .sentinel, .data, .data, .data], laidTests := true, laidLooks := .later }
def FilterFirstUptoCardSaid : Prop := Claim7.holds Tryd.pinned (.plain (OpenSpec.upto filterFirstSpec)) filterFirstUptoCard

/-- THE SECOND FORM's CARD OF 'millracelaw.FilterInside'. -/
def filterInsideUptoCard : Claim7 := { stood := { row := filterInsideUptoRow, standIns := [], harness := (true, "14bb64997f225d3f683bb81099bb3ec947c35a4be2b83f533ffbb6ff48603440"), looks := true }, kinds := [], alts := [], laidByText := true, laidKinds := [.data, .data, .data, .sentinel, .sentinel, .data, .data, .data], laidTests := true, laidLooks := .later }
def FilterInsideUptoCardSaid : Prop := Claim7.holds Tryd.pinned (.plain (OpenSpec.upto filterInsideSpec)) filterInsideUptoCard
end Rows
end Go.Proofs.YthkccohigoejgaaDoor

/-
  DERIVED. GIVEN WITH THE SEED: THE CARDS: each row of YtmangbbcnkbfkaaDoorRows.lean that lists a variable, with what it lists TIED to the program's text (the seventh form; the later family's looks); each row that meets fmt, with fmt's text TOLD by the authors' own Lean function (tested against real Go, not proved from fmt's source: count such statements apart). THE CARD IS WHAT COUNTS. Prove the row's statement (the work); the ties are given (YtmangbbcnkbfkaaDoorTie.lean); close each card by the builder's one call (the guide's Derived/Test/ToyasCard.lean, 'card_holds'). Laid BY PROGRAM, IN A SANDBOX (cutbox-door.mjs). By AI agents, Wed Nov 11 2026. No macro, syntax, notation, axiom, sorry.
-/
import Derived.Test.YtmangbbcnkbfkaaDoorRows
import GoSem.ClaimSeven
namespace Go.Proofs.YtmangbbcnkbfkaaDoor
namespace Rows

/-- THE TIED CARD OF 'millracelaw.SketchRates'. -/
def sketchRatesCard : Claim7 := { stood := { row := sketchRatesRow, standIns := [], harness := (true, "f599d688dcc2911a3051f300c018182ca6a7adf167270094bcb2724eb27f002b"), looks := true }, kinds := [], alts := [], laidByText := true, laidKinds := [.handle], laidTests := true, laidLooks := .later }
def SketchRatesCardSaid : Prop := Claim7.holds Tryd.pinned (.plain (OpenSpec.ofChange sketchRatesSpec)) sketchRatesCard

/-- THE TIED CARD OF 'millracelaw.SketchGrids'. -/
def sketchGridsCard : Claim7 := { stood := { row := sketchGridsRow, standIns := [], harness := (true, "f599d688dcc2911a3051f300c018182ca6a7adf167270094bcb2724eb27f002b"), looks := true }, kinds := [], alts := [], laidByText := true, laidKinds := [.handle], laidTests := true, laidLooks := .later }
def SketchGridsCardSaid : Prop := Claim7.holds Tryd.pinned (.plain (OpenSpec.ofChange sketchGridsSpec)) sketchGridsCard

/-- THE TIED CARD OF 'millracelaw.ScedFits'. -/
def scedFitsCard : Claim7 := { stood := { row := scedFitsRow, standIns := [], harness := (true, "f599d688dcc2911a3051f300c018182ca6a7adf167270094bcb2724eb27f002b"), looks := true }, kinds := [], alts := [], laidByText := true, laidKinds := [.handle], laidTests := true, laidLooks := .later }
def ScedFitsCardSaid : Prop := Claim7.holds Tryd.pinned (.plain (OpenSpec.ofChange scedFitsSpec)) scedFitsCard

/-- THE TIED CARD OF 'millracelaw.ScedMakes'. -/
def scedMakesCard : Claim7 := { stood := { row := scedMakesRow, standIns := [], harness := (true, "f599d688dcc2911a3051f300c018182ca6a7adf167270094bcb2724eb27f002b"), looks := true }, kinds := [], alts := [], laidByText := true, laidKinds := [.handle], laidTests := true, laidLooks := .later }
def ScedMakesCardSaid : Prop := Claim7.holds Tryd.pinned (.plain (OpenSpec.ofChange scedMakesSpec)) scedMakesCard

/-- THE SECOND FORM's CARD OF 'millracelaw.SketchRates'. -/
def sketchRatesUptoCard : Claim7 := { stood := { row := sketchRatesUptoRow, standIns := [], harness := (true, "f599d688dcc2911a3051f300c018182ca6a7adf167270094bcb2724eb27f002b"), looks := true }, kinds := [], alts := [], laidByText := true, laidKinds := [.handle], laidTests := true, laidLooks := .later }
def SketchRatesUptoCardSaid : Prop := Claim7.holds Tryd.pinned (.plain (OpenSpec.upto sketchRatesSpec)) sketchRatesUptoCard

/-- THE SECOND FORM's CARD OF 'millracelaw.SketchGrids'. -/
def sketchGridsUptoCard : Claim7 := { stood := { row := sketchGridsUptoRow, standIns := [], harness := (true, "f599d688dcc2911a3051f300c018182ca6a7adf167270094bcb2724eb27f002b"), looks := true }, kinds := [], alts := [], laidByText := true, laidKinds := [.handle], laidTests := true, laidLooks := .later }
def SketchGridsUptoCardSaid : Prop := Claim7.holds Tryd.pinned (.plain (OpenSpec.upto sketchGridsSpec)) sketchGridsUptoCard

/-- THE SECOND FORM's CARD OF 'millracelaw.ScedFits'. -/
def scedFitsUptoCard : Claim7 := { stood := { row := scedFitsUptoRow, standIns := [], harness := (true, "f599d688dcc2911a3051f300c018182ca6a7adf167270094bcb2724eb27f002b"), looks := true }, kinds := [], alts := [], laidByText := true, laidKinds := [.handle], laidTests := true, laidLooks := .later }
def ScedFitsUptoCardSaid : Prop := Claim7.holds Tryd.pinned (.plain (OpenSpec.upto scedFitsSpec)) scedFitsUptoCard

/-- THE SECOND FORM's CARD OF 'millracelaw.ScedMakes'. -/
def scedMakesUptoCard : Claim7 := { stood := { row := scedMakesUptoRow, standIns := [], harness := (true, "f599d688dcc2911a3051f300c018182ca6a7adf167270094bcb2724eb27f002b"), looks := true }, kinds := [], alts := [], laidByText := true, laidKinds := [.handle], laidTests := true, laidLooks := .later }
def ScedMakesUptoCardSaid : Prop := Claim7.holds Tryd.pinned (.plain (OpenSpec.upto scedMakesSpec)) scedMakesUptoCard
end Rows
end Go.Proofs.YtmangbbcnkbfkaaDoor

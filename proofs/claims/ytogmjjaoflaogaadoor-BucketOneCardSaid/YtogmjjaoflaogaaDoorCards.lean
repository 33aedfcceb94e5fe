/-
  DERIVED. GIVEN WITH THE SEED: THE CARDS: each row of YtogmjjaoflaogaaDoorRows.lean that lists a variable, with what it lists TIED to the program's text (the seventh form; the later family's looks); each row that meets fmt, with fmt's text TOLD by the authors' own Lean function (tested against real Go, not proved from fmt's source: count such statements apart). THE CARD IS WHAT COUNTS. Prove the row's statement (the work); the ties are given (YtogmjjaoflaogaaDoorTie.lean); close each card by the builder's one call (the guide's Derived/Test/ToyasCard.lean, 'card_holds'). Laid BY PROGRAM, IN A SANDBOX (cutbox-door.mjs). By AI agents, Wed Nov 11 2026. No macro, syntax, notation, axiom, sorry.
-/
import Derived.Test.YtogmjjaoflaogaaDoorRows
import GoSem.ClaimSeven
namespace Go.Proofs.YtogmjjaoflaogaaDoor
namespace Rows

/-- THE TIED CARD OF 'millracelaw.BucketCells'. -/
def bucketCellsCard : Claim7 := { stood := { row := bucketCellsRow, standIns := [], harness := (true, "cd1225d21bba68b002a7d778989da668f4d87ded190bd74c64d4a733e541a720"), looks := true }, kinds := [], alts := [], laidByText := true, laidKinds := [.handle, .data], laidTests := true, laidLooks := .later }
def BucketCellsCardSaid : Prop := Claim7.holds Tryd.pinned (.plain (OpenSpec.ofChange bucketCellsSpec)) bucketCellsCard

/-- THE TIED CARD OF 'millracelaw.BucketOne'. -/
def bucketOneCard : Claim7 := { stood := { row := bucketOneRow, standIns := [], harness := (true, "cd1225d21bba68b002a7d778989da668f4d87ded190bd74c64d4a733e541a720"), looks := true }, kinds := [], alts := [], laidByText := true, laidKinds := [.handle, .data], laidTests := true, laidLooks := .later }
def BucketOneCardSaid : Prop := Claim7.holds Tryd.pinned (.plain (OpenSpec.ofChange bucketOneSpec)) bucketOneCard

/-- THE TIED CARD OF 'millracelaw.BucketConforms'. -/
def bucketConformsCard : Claim7 := { stood := { row := bucketConformsRow, standIns := [], harness := (true, "cd1225d21bba68b002a7d778989da668f4d87ded190bd74c64d4a733e541a720"), looks := true }, kinds := [], alts := [], laidByText := true, laidKinds := [.handle, .data], laidTests := true, laidLooks := .later }
def BucketConformsCardSaid : Prop := Claim7.holds Tryd.pinned (.plain (OpenSpec.ofChange bucketConformsSpec)) bucketConformsCard

/-- THE TIED CARD OF 'millracelaw.BucketTwo'. -/
def bucketTwoCard : Claim7 := { stood := { row := bucketTwoRow, standIns := [], harness := (true, "cd1225d21bba68b002a7d778989da668f4d87ded190bd74c64d4a733e541a720"), looks := true }, kinds := [], alts := [], laidByText := true, laidKinds := [.handle, .data], laidTests := true, laidLooks := .later }
def BucketTwoCardSaid : Prop := Claim7.holds Tryd.pinned (.plain (OpenSpec.ofChange bucketTwoSpec)) bucketTwoCard

/-- THE TIED CARD OF 'millracelaw.ActionDoes'. -/
def actionDoesCard : Claim7 := { stood := { row := actionDoesRow, standIns := [], harness := (true, "cd1225d21bba68b002a7d778989da668f4d87ded190bd74c64d4a733e541a720"), looks := true }, kinds := [], alts := [], laidByText := true, laidKinds := [.handle, .data], laidTests := true, laidLooks := .later }
def ActionDoesCardSaid : Prop := Claim7.holds Tryd.pinned (.plain (OpenSpec.ofChange actionDoesSpec)) actionDoesCard

/-- THE SECOND FORM's CARD OF 'millracelaw.BucketCells'. -/
def bucketCellsUptoCard : Claim7 := { stood := { row := bucketCellsUptoRow, standIns := [], harness := (true, "cd1225d21bba68b002a7d778989da668f4d87ded190bd74c64d4a733e541a720"), looks := true }, kinds := [], alts := [], laidByText := true, laidKinds := [.handle, .data], laidTests := true, laidLooks := .later }
def BucketCellsUptoCardSaid : Prop := Claim7.holds Tryd.pinned (.plain (OpenSpec.upto bucketCellsSpec)) bucketCellsUptoCard

/-- THE SECOND FORM's CARD OF 'millracelaw.BucketOne'. -/
def bucketOneUptoCard : Claim7 := { stood := { row := bucketOneUptoRow, standIns := [], harness := (true, "cd1225d21bba68b002a7d778989da668f4d87ded190bd74c64d4a733e541a720"), looks := true }, kinds := [], alts := [], laidByText := true, laidKinds := [.handle, .data], laidTests := true, laidLooks := .later }
def BucketOneUptoCardSaid : Prop := Claim7.holds Tryd.pinned (.plain (OpenSpec.upto bucketOneSpec)) bucketOneUptoCard

/-- THE SECOND FORM's CARD OF 'millracelaw.BucketConforms'. -/
def bucketConformsUptoCard : Claim7 := { stood := { row := bucketConformsUptoRow, standIns := [], harness := (true, "cd1225d21bba68b002a7d778989da668f4d87ded190bd74c64d4a733e541a720"), looks := true }, kinds := [], alts := [], laidByText := true, laidKinds := [.handle, .data], laidTests := true, laidLooks := .later }
def BucketConformsUptoCardSaid : Prop := Claim7.holds Tryd.pinned (.plain (OpenSpec.upto bucketConformsSpec)) bucketConformsUptoCard

/-- THE SECOND FORM's CARD OF 'millracelaw.BucketTwo'. -/
def bucketTwoUptoCard : Claim7 := { stood := { row := bucketTwoUptoRow, standIns := [], harness := (true, "cd1225d21bba68b002a7d778989da668f4d87ded190bd74c64d4a733e541a720"), looks := true }, kinds := [], alts := [], laidByText := true, laidKinds := [.handle, .data], laidTests := true, laidLooks := .later }
def BucketTwoUptoCardSaid : Prop := Claim7.holds Tryd.pinned (.plain (OpenSpec.upto bucketTwoSpec)) bucketTwoUptoCard

/-- THE SECOND FORM's CARD OF 'millracelaw.ActionDoes'. -/
def actionDoesUptoCard : Claim7 := { stood := { row := actionDoesUptoRow, standIns := [], harness := (true, "cd1225d21bba68b002a7d778989da668f4d87ded190bd74c64d4a733e541a720"), looks := true }, kinds := [], alts := [], laidByText := true, laidKinds := [.handle, .data], laidTests := true, laidLooks := .later }
def ActionDoesUptoCardSaid : Prop := Claim7.holds Tryd.pinned (.plain (OpenSpec.upto actionDoesSpec)) actionDoesUptoCard
end Rows
end Go.Proofs.YtogmjjaoflaogaaDoor

/-
  DERIVED. GIVEN WITH THE SEED: THE CARDS: each row of YtogmjjaoflaogaaGreatDoorRows.lean that lists a variable, with what it lists TIED to the program's text (the seventh form; the later family's looks); each row that meets fmt, with fmt's text TOLD by the authors' own Lean function (tested against real Go, not proved from fmt's source: count such statements apart). THE CARD IS WHAT COUNTS. Prove the row's statement (the work); the ties are given (YtogmjjaoflaogaaGreatDoorTie.lean); close each card by the builder's one call (the guide's Derived/Test/ToyasCard.lean, 'card_holds'). Laid BY PROGRAM, IN A SANDBOX (cutbox-door.mjs). By AI agents, Wed Nov 11 2026. No macro, syntax, notation, axiom, sorry.
-/
import Derived.Test.YtogmjjaoflaogaaGreatDoorRows
import GoSem.ClaimSeven
namespace Go.Proofs.YtogmjjaoflaogaaGreatDoor
namespace Rows

/-- THE TIED CARD OF 'millracelaw.BucketPlays'. -/
def bucketPlaysCard : Claim7 := { stood := { row := bucketPlaysRow, standIns := [], harness := (true, "79cb759ec66005540b6cc75abb67660c4baa2a1a0a949de6b18763cd282c038d"), looks := true }, kinds := [], alts := [], laidByText := true, laidKinds := [.handle], laidTests := true, laidLooks := .later }
def BucketPlaysCardSaid : Prop := Claim7.holds Tryz.pinned (.plain (OpenSpec.ofChange bucketPlaysSpec)) bucketPlaysCard

/-- THE TIED CARD OF 'millracelaw.BucketShapes'. -/
def bucketShapesCard : Claim7 := { stood := { row := bucketShapesRow, standIns := [], harness := (true, "79cb759ec66005540b6cc75abb67660c4baa2a1a0a949de6b18763cd282c038d"), looks := true }, kinds := [], alts := [], laidByText := true, laidKinds := [.handle, .data], laidTests := true, laidLooks := .later }
def BucketShapesCardSaid : Prop := Claim7.holds Tryz.pinned (.plain (OpenSpec.ofChange bucketShapesSpec)) bucketShapesCard

/-- THE SECOND FORM's CARD OF 'millracelaw.BucketPlays'. -/
def bucketPlaysUptoCard : Claim7 := { stood := { row := bucketPlaysUptoRow, standIns := [], harness := (true, "79cb759ec66005540b6cc75abb67660c4baa2a1a0a949de6b18763cd282c038d"), looks := true }, kinds := [], alts := [], laidByText := true, laidKinds := [.handle], laidTests := true, laidLooks := .later }
def BucketPlaysUptoCardSaid : Prop := Claim7.holds Tryz.pinned (.plain (OpenSpec.upto bucketPlaysSpec)) bucketPlaysUptoCard

/-- THE SECOND FORM's CARD OF 'millracelaw.BucketShapes'. -/
def bucketShapesUptoCard : Claim7 := { stood := { row := bucketShapesUptoRow, standIns := [], harness := (true, "79cb759ec66005540b6cc75abb67660c4baa2a1a0a949de6b18763cd282c038d"), looks := true }, kinds := [], alts := [], laidByText := true, laidKinds := [.handle, .data], laidTests := true, laidLooks := .later }
def BucketShapesUptoCardSaid : Prop := Claim7.holds Tryz.pinned (.plain (OpenSpec.upto bucketShapesSpec)) bucketShapesUptoCard
end Rows
end Go.Proofs.YtogmjjaoflaogaaGreatDoor

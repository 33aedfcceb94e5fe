/-
  DERIVED. GIVEN WITH THE SEED: THE CARDS: each row of YtofhmbbodoedjaaDoorRows.lean that lists a variable, with what it lists TIED to the program's text (the seventh form; the later family's looks); each row that meets fmt, with fmt's text TOLD by the authors' own Lean function (tested against real Go, not proved from fmt's source: count such statements apart). THE CARD IS WHAT COUNTS. Prove the row's statement (the work); the ties are given (YtofhmbbodoedjaaDoorTie.lean); close each card by the builder's one call (the guide's Derived/Test/ToyasCard.lean, 'card_holds'). Laid BY PROGRAM, IN A SANDBOX (cutbox-door.mjs). By AI agents, Wed Nov 11 2026. No macro, syntax, notation, axiom, sorry.
-/
import Derived.Test.YtofhmbbodoedjaaDoorRows
import GoSem.ClaimSeven
namespace Go.Proofs.YtofhmbbodoedjaaDoor
namespace Rows

/-- THE TIED CARD OF 'millracelaw.ItemParses'. -/
def itemParsesCard : Claim7 := { stood := { row := itemParsesRow, standIns := [], harness := (true, "81c2bf2be8162891112e9a7c09fc85775150c9a3cf208ecf0db3de98cf1a05dc"), looks := true }, kinds := [], alts := [], laidByText := true, laidKinds := [.data, .data, .data, .data, .handle, .sentinel, .sentinel, .data, .pinned], laidTests := true, laidLooks := .later }
def ItemParsesCardSaid : Prop := Claim7.holds Tryd.pinned (.plain (OpenSpec.ofChange itemParsesSpec)) itemParsesCard

/-- THE SECOND FORM's CARD OF 'millracelaw.ItemParses'. -/
def itemParsesUptoCard : Claim7 := { stood := { row := itemParsesUptoRow, standIns := [], harness := (true, "81c2bf2be8162891112e9a7c09fc85775150c9a3cf208ecf0db3de98cf1a05dc"), looks := true }, kinds := [], alts := [], laidByText := true, laidKinds := [.data, .data, .data, .data, .handle, .sentinel, .sentinel, .data, .pinned], laidTests := true, laidLooks := .later }
def ItemParsesUptoCardSaid : Prop := Claim7.holds Tryd.pinned (.plain (OpenSpec.upto itemParsesSpec)) itemParsesUptoCard
end Rows
end Go.Proofs.YtofhmbbodoedjaaDoor

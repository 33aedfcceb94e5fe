/-
  DERIVED. GIVEN WITH THE SEED: THE CARDS: each row of YtbpofdfehcbppaaDoorRows.lean that lists a variable, with what it lists TIED to the program's text (the seventh form; the later family's looks); each row that meets fmt, with fmt's text TOLD by the authors' own Lean function (tested against real Go, not proved from fmt's source: count such statements apart). THE CARD IS WHAT COUNTS. Prove the row's statement (the work); the ties are given (YtbpofdfehcbppaaDoorTie.lean); close each card by the builder's one call (the guide's Derived/Test/ToyasCard.lean, 'card_holds'). Laid BY PROGRAM, IN A SANDBOX (cutbox-door.mjs). By AI agents, Wed Nov 11 2026. No macro, syntax, notation, axiom, sorry.
-/
import Derived.Test.YtbpofdfehcbppaaDoorRows
import GoSem.ClaimSeven
namespace Go.Proofs.YtbpofdfehcbppaaDoor
namespace Rows

/-- THE TIED CARD OF 'millracelaw.QueueFifo'. -/
def queueFifoCard : Claim7 := { stood := { row := queueFifoRow, standIns := [], harness := (true, "19291365539f0af81bfb62653ff28a0df94fe35d38d23dfb675ca79c5b9b5892"), looks := true }, kinds := [], alts := [], laidByText := true, laidKinds := [.handle], laidTests := true, laidLooks := .later }
def QueueFifoCardSaid : Prop := Claim7.holds Tryd.pinned (.plain (OpenSpec.ofChange queueFifoSpec)) queueFifoCard

/-- THE TIED CARD OF 'millracelaw.QueueBands'. -/
def queueBandsCard : Claim7 := { stood := { row := queueBandsRow, standIns := [], harness := (true, "19291365539f0af81bfb62653ff28a0df94fe35d38d23dfb675ca79c5b9b5892"), looks := true }, kinds := [], alts := [], laidByText := true, laidKinds := [.handle], laidTests := true, laidLooks := .later }
def QueueBandsCardSaid : Prop := Claim7.holds Tryd.pinned (.plain (OpenSpec.ofChange queueBandsSpec)) queueBandsCard

/-- THE TIED CARD OF 'millracelaw.EarlyRed'. -/
def earlyRedCard : Claim7 := { stood := { row := earlyRedRow, standIns := [], harness := (true, "19291365539f0af81bfb62653ff28a0df94fe35d38d23dfb675ca79c5b9b5892"), looks := true }, kinds := [], alts := [], laidByText := true, laidKinds := [.handle], laidTests := true, laidLooks := .later }
def EarlyRedCardSaid : Prop := Claim7.holds Tryd.pinned (.plain (OpenSpec.ofChange earlyRedSpec)) earlyRedCard

/-- THE TIED CARD OF 'millracelaw.EarlyDelay'. -/
def earlyDelayCard : Claim7 := { stood := { row := earlyDelayRow, standIns := [], harness := (true, "19291365539f0af81bfb62653ff28a0df94fe35d38d23dfb675ca79c5b9b5892"), looks := true }, kinds := [], alts := [], laidByText := true, laidKinds := [.handle], laidTests := true, laidLooks := .later }
def EarlyDelayCardSaid : Prop := Claim7.holds Tryd.pinned (.plain (OpenSpec.ofChange earlyDelaySpec)) earlyDelayCard

/-- THE TIED CARD OF 'millracelaw.FairRounds'. -/
def fairRoundsCard : Claim7 := { stood := { row := fairRoundsRow, standIns := [], harness := (true, "19291365539f0af81bfb62653ff28a0df94fe35d38d23dfb675ca79c5b9b5892"), looks := true }, kinds := [], alts := [], laidByText := true, laidKinds := [.handle], laidTests := true, laidLooks := .later }
def FairRoundsCardSaid : Prop := Claim7.holds Tryd.pinned (.plain (OpenSpec.ofChange fairRoundsSpec)) fairRoundsCard

/-- THE TIED CARD OF 'millracelaw.FairHashed'. -/
def fairHashedCard : Claim7 := { stood := { row := fairHashedRow, standIns := [], harness := (true, "19291365539f0af81bfb62653ff28a0df94fe35d38d23dfb675ca79c5b9b5892"), looks := true }, kinds := [], alts := [], laidByText := true, laidKinds := [.handle], laidTests := true, laidLooks := .later }
def FairHashedCardSaid : Prop := Claim7.holds Tryd.pinned (.plain (OpenSpec.ofChange fairHashedSpec)) fairHashedCard

/-- THE SECOND FORM's CARD OF 'millracelaw.QueueFifo'. -/
def queueFifoUptoCard : Claim7 := { stood := { row := queueFifoUptoRow, standIns := [], harness := (true, "19291365539f0af81bfb62653ff28a0df94fe35d38d23dfb675ca79c5b9b5892"), looks := true }, kinds := [], alts := [], laidByText := true, laidKinds := [.handle], laidTests := true, laidLooks := .later }
def QueueFifoUptoCardSaid : Prop := Claim7.holds Tryd.pinned (.plain (OpenSpec.upto queueFifoSpec)) queueFifoUptoCard

/-- THE SECOND FORM's CARD OF 'millracelaw.QueueBands'. -/
def queueBandsUptoCard : Claim7 := { stood := { row := queueBandsUptoRow, standIns := [], harness := (true, "19291365539f0af81bfb62653ff28a0df94fe35d38d23dfb675ca79c5b9b5892"), looks := true }, kinds := [], alts := [], laidByText := true, laidKinds := [.handle], laidTests := true, laidLooks := .later }
def QueueBandsUptoCardSaid : Prop := Claim7.holds Tryd.pinned (.plain (OpenSpec.upto queueBandsSpec)) queueBandsUptoCard

/-- THE SECOND FORM's CARD OF 'millracelaw.EarlyRed'. -/
def earlyRedUptoCard : Claim7 := { stood := { row := earlyRedUptoRow, standIns := [], harness := (true, "19291365539f0af81bfb62653ff28a0df94fe35d38d23dfb675ca79c5b9b5892"), looks := true }, kinds := [], alts := [], laidByText := true, laidKinds := [.handle], laidTests := true, laidLooks := .later }
def EarlyRedUptoCardSaid : Prop := Claim7.holds Tryd.pinned (.plain (OpenSpec.upto earlyRedSpec)) earlyRedUptoCard

/-- THE SECOND FORM's CARD OF 'millracelaw.EarlyDelay'. -/
def earlyDelayUptoCard : Claim7 := { stood := { row := earlyDelayUptoRow, standIns := [], harness := (true, "19291365539f0af81bfb62653ff28a0df94fe35d38d23dfb675ca79c5b9b5892"), looks := true }, kinds := [], alts := [], laidByText := true, laidKinds := [.handle], laidTests := true, laidLooks := .later }
def EarlyDelayUptoCardSaid : Prop := Claim7.holds Tryd.pinned (.plain (OpenSpec.upto earlyDelaySpec)) earlyDelayUptoCard

/-- THE SECOND FORM's CARD OF 'millracelaw.FairRounds'. -/
def fairRoundsUptoCard : Claim7 := { stood := { row := fairRoundsUptoRow, standIns := [], harness := (true, "19291365539f0af81bfb62653ff28a0df94fe35d38d23dfb675ca79c5b9b5892"), looks := true }, kinds := [], alts := [], laidByText := true, laidKinds := [.handle], laidTests := true, laidLooks := .later }
def FairRoundsUptoCardSaid : Prop := Claim7.holds Tryd.pinned (.plain (OpenSpec.upto fairRoundsSpec)) fairRoundsUptoCard

/-- THE SECOND FORM's CARD OF 'millracelaw.FairHashed'. -/
def fairHashedUptoCard : Claim7 := { stood := { row := fairHashedUptoRow, standIns := [], harness := (true, "19291365539f0af81bfb62653ff28a0df94fe35d38d23dfb675ca79c5b9b5892"), looks := true }, kinds := [], alts := [], laidByText := true, laidKinds := [.handle], laidTests := true, laidLooks := .later }
def FairHashedUptoCardSaid : Prop := Claim7.holds Tryd.pinned (.plain (OpenSpec.upto fairHashedSpec)) fairHashedUptoCard
end Rows
end Go.Proofs.YtbpofdfehcbppaaDoor

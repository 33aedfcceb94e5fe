/-
  NARROWER THAN 'FOR EVERY INPUT', by the rows' own cells (each row's printed sentence says how): QueueFifo: laid · QueueBands: laid · EarlyRed: laid · EarlyDelay: laid · FairRounds: laid · FairHashed: laid.
  DERIVED. THE GIVEN ROWS OF THIS SEAT. 6 by the template 'for every input the law returns true; each argument reads behind the call as it read before'; 0 by the template 'total and deterministic' (their statements: YtbpofdfehcbppaaDoorTotals.lean).
  GIVEN WITH THE SEED: the statements are not yours to turn. If you find one false, say at which input.
  Laid BY PROGRAM, IN A SANDBOX (cutbox-rows.mjs): the forced cells as the released guide's own fill.sh prints them over the translation 267f21547454e668… (all of the seat's roots in one cut). By AI agents, Wed Nov 11 2026. No macro, syntax, notation, axiom, sorry.
-/
import Derived.Test.YtbpofdfehcbppaaDoorChecked
import GoSem.Claim
import GoSem.ClaimJoined
import GoSem.ClaimMapViews
import Derived.JoinedTies
import Derived.KernelRfl
namespace Go.Proofs.YtbpofdfehcbppaaDoor
/- THE CELL 'sum', in the pinned program and in every row, IS THE sha256 OF THE DUMP (.gsa) THAT YtbpofdfehcbppaaDoorProg.lean LOADS. Nothing in Lean hashes anything: it is a label: what it is worth is what the hold of that sum in a sandbox is worth. -/
noncomputable def Tryd.pinned : Pinned := { name := "ytbpofdfehcbppaadoor", sum := "267f21547454e6681c79f17cb8e1ba00b3e4b556c67c6f3cbf1873fea37f5a51", checked := Tryd.checked }
namespace Rows
def none {H : Type} : Left H := { results := [], args := [] }

/- WHAT THE LISTED PACKAGE-LEVEL VARIABLES READ AS WHEN THE CALL BEGINS. Each datum BY PROGRAM (the guide's laid-datum.mjs) off the statement by which the dump's own 'gosem.cut.vars' lays the variable. In a bare row this is a premise. The card (YtbpofdfehcbppaaDoorCards.lean) ties it to the program's text. -/
def laid_errors_errorType {H : Type} : DataW H := .iface "internal/reflectlite.rtype" (.agg [.ptr (.lit (.string [101, 114, 114, 111, 114]))])

/-- 'millracelaw.QueueFifo': WHATEVER THE INPUT: true; the input reads as it did. -/
def queueFifoSpec : ChangeSpec := { name := "queueFifo", fn := fun _ => fun
  | [d1, d2, d3, d4] => { results := [.lit (.bool true)], args := [d1, d2, d3, d4] }
  | _ => none }
def queueFifoRow : OpenClaim := { program := "ytbpofdfehcbppaadoor", sum := "267f21547454e6681c79f17cb8e1ba00b3e4b556c67c6f3cbf1873fea37f5a51", func := "millrace/millracelaw.QueueFifo", spec := "queueFifo", inPlace := ["internal/reflectlite.ValueOf", "(internal/reflectlite.Value).Type", "(internal/reflectlite.Value).IsNil", "internal/reflectlite.TypeOf", "(internal/reflectlite.Value).Elem", "(internal/reflectlite.Value).Set"], unfollowed := true, recurses := true, named := ["errors.errorType"], apart := false, laid := [("errors.errorType", laid_errors_errorType)] }
def QueueFifoSaid : Prop := queueFifoRow.holds Tryd.pinned (OpenSpec.ofChange queueFifoSpec)

/-- ITS FALSE NEIGHBOUR: 'it returns false'. Refute it at one input. -/
def queueFifoWrong : ChangeSpec := { name := "queueFifo", fn := fun _ => fun
  | [d1, d2, d3, d4] => { results := [.lit (.bool false)], args := [d1, d2, d3, d4] }
  | _ => none }
def QueueFifoWrongFalsely : Prop := queueFifoRow.holds Tryd.pinned (OpenSpec.ofChange queueFifoWrong)

/-- 'millracelaw.QueueBands': WHATEVER THE INPUT: true; the input reads as it did. -/
def queueBandsSpec : ChangeSpec := { name := "queueBands", fn := fun _ => fun
  | [d1, d2] => { results := [.lit (.bool true)], args := [d1, d2] }
  | _ => none }
def queueBandsRow : OpenClaim := { program := "ytbpofdfehcbppaadoor", sum := "267f21547454e6681c79f17cb8e1ba00b3e4b556c67c6f3cbf1873fea37f5a51", func := "millrace/millracelaw.QueueBands", spec := "queueBands", inPlace := ["internal/reflectlite.ValueOf", "(internal/reflectlite.Value).Type", "(internal/reflectlite.Value).IsNil", "internal/reflectlite.TypeOf", "(internal/reflectlite.Value).Elem", "(internal/reflectlite.Value).Set"], unfollowed := true, recurses := true, named := ["errors.errorType"], apart := false, laid := [("errors.errorType", laid_errors_errorType)] }
def QueueBandsSaid : Prop := queueBandsRow.holds Tryd.pinned (OpenSpec.ofChange queueBandsSpec)

/-- ITS FALSE NEIGHBOUR: 'it returns false'. Refute it at one input. -/
def queueBandsWrong : ChangeSpec := { name := "queueBands", fn := fun _ => fun
  | [d1, d2] => { results := [.lit (.bool false)], args := [d1, d2] }
  | _ => none }
def QueueBandsWrongFalsely : Prop := queueBandsRow.holds Tryd.pinned (OpenSpec.ofChange queueBandsWrong)

/-- 'millracelaw.EarlyRed': WHATEVER THE INPUT: true; the input reads as it did. -/
def earlyRedSpec : ChangeSpec := { name := "earlyRed", fn := fun _ => fun
  | [d1, d2, d3, d4, d5] => { results := [.lit (.bool true)], args := [d1, d2, d3, d4, d5] }
  | _ => none }
def earlyRedRow : OpenClaim := { program := "ytbpofdfehcbppaadoor", sum := "267f21547454e6681c79f17cb8e1ba00b3e4b556c67c6f3cbf1873fea37f5a51", func := "millrace/millracelaw.EarlyRed", spec := "earlyRed", inPlace := ["internal/reflectlite.ValueOf", "(internal/reflectlite.Value).Type", "(internal/reflectlite.Value).IsNil", "internal/reflectlite.TypeOf", "(internal/reflectlite.Value).Elem", "(internal/reflectlite.Value).Set"], unfollowed := true, recurses := true, named := ["errors.errorType"], apart := false, laid := [("errors.errorType", laid_errors_errorType)] }
def EarlyRedSaid : Prop := earlyRedRow.holds Tryd.pinned (OpenSpec.ofChange earlyRedSpec)

/-- ITS FALSE NEIGHBOUR: 'it returns false'. Refute it at one input. -/
def earlyRedWrong : ChangeSpec := { name := "earlyRed", fn := fun _ => fun
  | [d1, d2, d3, d4, d5] => { results := [.lit (.bool false)], args := [d1, d2, d3, d4, d5] }
  | _ => none }
def EarlyRedWrongFalsely : Prop := earlyRedRow.holds Tryd.pinned (OpenSpec.ofChange earlyRedWrong)

/-- 'millracelaw.EarlyDelay': WHATEVER THE INPUT: true; the input reads as it did. -/
def earlyDelaySpec : ChangeSpec := { name := "earlyDelay", fn := fun _ => fun
  | [d1, d2, d3, d4] => { results := [.lit (.bool true)], args := [d1, d2, d3, d4] }
  | _ => none }
def earlyDelayRow : OpenClaim := { program := "ytbpofdfehcbppaadoor", sum := "267f21547454e6681c79f17cb8e1ba00b3e4b556c67c6f3cbf1873fea37f5a51", func := "millrace/millracelaw.EarlyDelay", spec := "earlyDelay", inPlace := ["internal/reflectlite.ValueOf", "(internal/reflectlite.Value).Type", "(internal/reflectlite.Value).IsNil", "internal/reflectlite.TypeOf", "(internal/reflectlite.Value).Elem", "(internal/reflectlite.Value).Set"], unfollowed := true, recurses := true, named := ["errors.errorType"], apart := false, laid := [("errors.errorType", laid_errors_errorType)] }
def EarlyDelaySaid : Prop := earlyDelayRow.holds Tryd.pinned (OpenSpec.ofChange earlyDelaySpec)

/-- ITS FALSE NEIGHBOUR: 'it returns false'. Refute it at one input. -/
def earlyDelayWrong : ChangeSpec := { name := "earlyDelay", fn := fun _ => fun
  | [d1, d2, d3, d4] => { results := [.lit (.bool false)], args := [d1, d2, d3, d4] }
  | _ => none }
def EarlyDelayWrongFalsely : Prop := earlyDelayRow.holds Tryd.pinned (OpenSpec.ofChange earlyDelayWrong)

/-- 'millracelaw.FairRounds': WHATEVER THE INPUT: true; the input reads as it did. -/
def fairRoundsSpec : ChangeSpec := { name := "fairRounds", fn := fun _ => fun
  | [d1, d2, d3] => { results := [.lit (.bool true)], args := [d1, d2, d3] }
  | _ => none }
def fairRoundsRow : OpenClaim := { program := "ytbpofdfehcbppaadoor", sum := "267f21547454e6681c79f17cb8e1ba00b3e4b556c67c6f3cbf1873fea37f5a51", func := "millrace/millracelaw.FairRounds", spec := "fairRounds", inPlace := ["internal/reflectlite.ValueOf", "(internal/reflectlite.Value).Type", "(internal/reflectlite.Value).IsNil", "internal/reflectlite.TypeOf", "(internal/reflectlite.Value).Elem", "(internal/reflectlite.Value).Set"], unfollowed := true, recurses := true, named := ["errors.errorType"], apart := false, laid := [("errors.errorType", laid_errors_errorType)] }
def FairRoundsSaid : Prop := fairRoundsRow.holds Tryd.pinned (OpenSpec.ofChange fairRoundsSpec)

/-- ITS FALSE NEIGHBOUR: 'it returns false'. Refute it at one input. -/
def fairRoundsWrong : ChangeSpec := { name := "fairRounds", fn := fun _ => fun
  | [d1, d2, d3] => { results := [.lit (.bool false)], args := [d1, d2, d3] }
  | _ => none }
def FairRoundsWrongFalsely : Prop := fairRoundsRow.holds Tryd.pinned (OpenSpec.ofChange fairRoundsWrong)

/-- 'millracelaw.FairHashed': WHATEVER THE INPUT: true; the input reads as it did. -/
def fairHashedSpec : ChangeSpec := { name := "fairHashed", fn := fun _ => fun
  | [d1, d2, d3, d4] => { results := [.lit (.bool true)], args := [d1, d2, d3, d4] }
  | _ => none }
def fairHashedRow : OpenClaim := { program := "ytbpofdfehcbppaadoor", sum := "267f21547454e6681c79f17cb8e1ba00b3e4b556c67c6f3cbf1873fea37f5a51", func := "millrace/millracelaw.FairHashed", spec := "fairHashed", inPlace := ["internal/reflectlite.ValueOf", "(internal/reflectlite.Value).Type", "(internal/reflectlite.Value).IsNil", "internal/reflectlite.TypeOf", "(internal/reflectlite.Value).Elem", "(internal/reflectlite.Value).Set"], unfollowed := true, recurses := true, named := ["errors.errorType"], apart := false, laid := [("errors.errorType", laid_errors_errorType)] }
def FairHashedSaid : Prop := fairHashedRow.holds Tryd.pinned (OpenSpec.ofChange fairHashedSpec)

/-- ITS FALSE NEIGHBOUR: 'it returns false'. Refute it at one input. -/
def fairHashedWrong : ChangeSpec := { name := "fairHashed", fn := fun _ => fun
  | [d1, d2, d3, d4] => { results := [.lit (.bool false)], args := [d1, d2, d3, d4] }
  | _ => none }
def FairHashedWrongFalsely : Prop := fairHashedRow.holds Tryd.pinned (OpenSpec.ofChange fairHashedWrong)

/- THE SECOND FORM. 'bulk': how many values and letters a reading holds, each counted each time it is reached (what is shared counts as often as it is met; a slice's spare places count too). A statement '..UptoSaid' is the law's where the arguments, and the package variables that the reading takes, are together of bulk at most 1048576: NARROWER than '..Said'. Prove '..Said' where nothing that the law and all that it calls make is longer than what came in: it says more and counts as full. Else prove '..UptoSaid'. A law counts once. -/
mutual
def uptoBulk {H : Type} : DataW H → Nat
  | .lit (.string bytes) => bytes.length + 1
  | .lit _ => 1
  | .nil => 1
  | .ptr d => uptoBulk d + 1
  | .slice elems spare => uptoBulkAll elems + uptoBulkAll spare + 1
  | .agg parts => uptoBulkAll parts + 1
  | .iface _ d => uptoBulk d + 1
  | .map entries => uptoBulkEntries entries + 1
  | .held _ => 1
def uptoBulkAll {H : Type} : List (DataW H) → Nat
  | [] => 0
  | d :: r => uptoBulk d + uptoBulkAll r
def uptoBulkEntries {H : Type} : List (Lit × DataW H) → Nat
  | [] => 0
  | x :: r => uptoBulkEntry x + uptoBulkEntries r
def uptoBulkEntry {H : Type} : Lit × DataW H → Nat
  | (.string bytes, d) => bytes.length + uptoBulk d + 1
  | (_, d) => uptoBulk d + 1
 end
def uptoSmall : (H : Type) → List (DataW H) → Bool := fun _ ds => decide (uptoBulkAll ds ≤ 1048576)
def OpenSpec.upto (s : _root_.Go.ChangeSpec) : _root_.Go.OpenSpec := { _root_.Go.OpenSpec.ofChange s with cond := some uptoSmall }

/-- 'millracelaw.QueueFifo', WHERE WHAT IT READS IS OF BULK AT MOST 1048576: true; the input reads as it did. -/
def queueFifoUptoRow : OpenClaim := { program := "ytbpofdfehcbppaadoor", sum := "267f21547454e6681c79f17cb8e1ba00b3e4b556c67c6f3cbf1873fea37f5a51", func := "millrace/millracelaw.QueueFifo", spec := "queueFifo", inPlace := ["internal/reflectlite.ValueOf", "(internal/reflectlite.Value).Type", "(internal/reflectlite.Value).IsNil", "internal/reflectlite.TypeOf", "(internal/reflectlite.Value).Elem", "(internal/reflectlite.Value).Set"], unfollowed := true, recurses := true, named := ["errors.errorType"], apart := false, laid := [("errors.errorType", laid_errors_errorType)], narrowed := true }
def QueueFifoUptoSaid : Prop := queueFifoUptoRow.holds Tryd.pinned (OpenSpec.upto queueFifoSpec)

/-- 'millracelaw.QueueBands', WHERE WHAT IT READS IS OF BULK AT MOST 1048576: true; the input reads as it did. -/
def queueBandsUptoRow : OpenClaim := { program := "ytbpofdfehcbppaadoor", sum := "267f21547454e6681c79f17cb8e1ba00b3e4b556c67c6f3cbf1873fea37f5a51", func := "millrace/millracelaw.QueueBands", spec := "queueBands", inPlace := ["internal/reflectlite.ValueOf", "(internal/reflectlite.Value).Type", "(internal/reflectlite.Value).IsNil", "internal/reflectlite.TypeOf", "(internal/reflectlite.Value).Elem", "(internal/reflectlite.Value).Set"], unfollowed := true, recurses := true, named := ["errors.errorType"], apart := false, laid := [("errors.errorType", laid_errors_errorType)], narrowed := true }
def QueueBandsUptoSaid : Prop := queueBandsUptoRow.holds Tryd.pinned (OpenSpec.upto queueBandsSpec)

/-- 'millracelaw.EarlyRed', WHERE WHAT IT READS IS OF BULK AT MOST 1048576: true; the input reads as it did. -/
def earlyRedUptoRow : OpenClaim := { program := "ytbpofdfehcbppaadoor", sum := "267f21547454e6681c79f17cb8e1ba00b3e4b556c67c6f3cbf1873fea37f5a51", func := "millrace/millracelaw.EarlyRed", spec := "earlyRed", inPlace := ["internal/reflectlite.ValueOf", "(internal/reflectlite.Value).Type", "(internal/reflectlite.Value).IsNil", "internal/reflectlite.TypeOf", "(internal/reflectlite.Value).Elem", "(internal/reflectlite.Value).Set"], unfollowed := true, recurses := true, named := ["errors.errorType"], apart := false, laid := [("errors.errorType", laid_errors_errorType)], narrowed := true }
def EarlyRedUptoSaid : Prop := earlyRedUptoRow.holds Tryd.pinned (OpenSpec.upto earlyRedSpec)

/-- 'millracelaw.EarlyDelay', WHERE WHAT IT READS IS OF BULK AT MOST 1048576: true; the input reads as it did. -/
def earlyDelayUptoRow : OpenClaim := { program := "ytbpofdfehcbppaadoor", sum := "267f21547454e6681c79f17cb8e1ba00b3e4b556c67c6f3cbf1873fea37f5a51", func := "millrace/millracelaw.EarlyDelay", spec := "earlyDelay", inPlace := ["internal/reflectlite.ValueOf", "(internal/reflectlite.Value).Type", "(internal/reflectlite.Value).IsNil", "internal/reflectlite.TypeOf", "(internal/reflectlite.Value).Elem", "(internal/reflectlite.Value).Set"], unfollowed := true, recurses := true, named := ["errors.errorType"], apart := false, laid := [("errors.errorType", laid_errors_errorType)], narrowed := true }
def EarlyDelayUptoSaid : Prop := earlyDelayUptoRow.holds Tryd.pinned (OpenSpec.upto earlyDelaySpec)

/-- 'millracelaw.FairRounds', WHERE WHAT IT READS IS OF BULK AT MOST 1048576: true; the input reads as it did. -/
def fairRoundsUptoRow : OpenClaim := { program := "ytbpofdfehcbppaadoor", sum := "267f21547454e6681c79f17cb8e1ba00b3e4b556c67c6f3cbf1873fea37f5a51", func := "millrace/millracelaw.FairRounds", spec := "fairRounds", inPlace := ["internal/reflectlite.ValueOf", "(internal/reflectlite.Value).Type", "(internal/reflectlite.Value).IsNil", "internal/reflectlite.TypeOf", "(internal/reflectlite.Value).Elem", "(internal/reflectlite.Value).Set"], unfollowed := true, recurses := true, named := ["errors.errorType"], apart := false, laid := [("errors.errorType", laid_errors_errorType)], narrowed := true }
def FairRoundsUptoSaid : Prop := fairRoundsUptoRow.holds Tryd.pinned (OpenSpec.upto fairRoundsSpec)

/-- 'millracelaw.FairHashed', WHERE WHAT IT READS IS OF BULK AT MOST 1048576: true; the input reads as it did. -/
def fairHashedUptoRow : OpenClaim := { program := "ytbpofdfehcbppaadoor", sum := "267f21547454e6681c79f17cb8e1ba00b3e4b556c67c6f3cbf1873fea37f5a51", func := "millrace/millracelaw.FairHashed", spec := "fairHashed", inPlace := ["internal/reflectlite.ValueOf", "(internal/reflectlite.Value).Type", "(internal/reflectlite.Value).IsNil", "internal/reflectlite.TypeOf", "(internal/reflectlite.Value).Elem", "(internal/reflectlite.Value).Set"], unfollowed := true, recurses := true, named := ["errors.errorType"], apart := false, laid := [("errors.errorType", laid_errors_errorType)], narrowed := true }
def FairHashedUptoSaid : Prop := fairHashedUptoRow.holds Tryd.pinned (OpenSpec.upto fairHashedSpec)

end Rows
end Go.Proofs.YtbpofdfehcbppaaDoor

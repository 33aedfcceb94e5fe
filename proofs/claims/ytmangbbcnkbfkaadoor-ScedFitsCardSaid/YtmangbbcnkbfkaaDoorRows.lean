/-
  NARROWER THAN 'FOR EVERY INPUT', by the rows' own cells (each row's printed sentence says how): SketchRates: laid · SketchGrids: laid · ScedFits: laid · ScedMakes: laid.
  DERIVED. THE GIVEN ROWS OF THIS SEAT. 4 by the template 'for every input the law returns true; each argument reads behind the call as it read before'; 0 by the template 'total and deterministic' (their statements: YtmangbbcnkbfkaaDoorTotals.lean).
  GIVEN WITH THE SEED: the statements are not yours to turn. If you find one false, say at which input.
  Laid BY PROGRAM, IN A SANDBOX (cutbox-rows.mjs): the forced cells as the released guide's own fill.sh prints them over the translation 77a4a9a263c61e51… (all of the seat's roots in one cut). By AI agents, Wed Nov 11 2026. No macro, syntax, notation, axiom, sorry.
-/
import Derived.Test.YtmangbbcnkbfkaaDoorChecked
import GoSem.Claim
import GoSem.ClaimJoined
import GoSem.ClaimMapViews
import Derived.JoinedTies
import Derived.KernelRfl
namespace Go.Proofs.YtmangbbcnkbfkaaDoor
/- THE CELL 'sum', in the pinned program and in every row, IS THE sha256 OF THE DUMP (.gsa) THAT YtmangbbcnkbfkaaDoorProg.lean LOADS. Nothing in Lean hashes anything: it is a label: what it is worth is what the hold of that sum in a sandbox is worth. -/
noncomputable def Tryd.pinned : Pinned := { name := "ytmangbbcnkbfkaadoor", sum := "77a4a9a263c61e51fe3c2caae1e7ed3704bb093ee5df3ebaac0506551dbc1f97", checked := Tryd.checked }
namespace Rows
def none {H : Type} : Left H := { results := [], args := [] }

/- WHAT THE LISTED PACKAGE-LEVEL VARIABLES READ AS WHEN THE CALL BEGINS. Each datum BY PROGRAM (the guide's laid-datum.mjs) off the statement by which the dump's own 'gosem.cut.vars' lays the variable. In a bare row this is a premise. The card (YtmangbbcnkbfkaaDoorCards.lean) ties it to the program's text. -/
def laid_errors_errorType {H : Type} : DataW H := .iface "internal/reflectlite.rtype" (.agg [.ptr (.lit (.string [101, 114, 114, 111, 114]))])

/-- 'millracelaw.SketchRates': WHATEVER THE INPUT: true; the input reads as it did. -/
def sketchRatesSpec : ChangeSpec := { name := "sketchRates", fn := fun _ => fun
  | [d1, d2] => { results := [.lit (.bool true)], args := [d1, d2] }
  | _ => none }
def sketchRatesRow : OpenClaim := { program := "ytmangbbcnkbfkaadoor", sum := "77a4a9a263c61e51fe3c2caae1e7ed3704bb093ee5df3ebaac0506551dbc1f97", func := "millrace/millracelaw.SketchRates", spec := "sketchRates", inPlace := ["internal/reflectlite.ValueOf", "(internal/reflectlite.Value).Type", "(internal/reflectlite.Value).IsNil", "internal/reflectlite.TypeOf", "(internal/reflectlite.Value).Elem", "(internal/reflectlite.Value).Set"], unfollowed := true, recurses := true, named := ["errors.errorType"], apart := false, laid := [("errors.errorType", laid_errors_errorType)] }
def SketchRatesSaid : Prop := sketchRatesRow.holds Tryd.pinned (OpenSpec.ofChange sketchRatesSpec)

/-- ITS FALSE NEIGHBOUR: 'it returns false'. Refute it at one input. -/
def sketchRatesWrong : ChangeSpec := { name := "sketchRates", fn := fun _ => fun
  | [d1, d2] => { results := [.lit (.bool false)], args := [d1, d2] }
  | _ => none }
def SketchRatesWrongFalsely : Prop := sketchRatesRow.holds Tryd.pinned (OpenSpec.ofChange sketchRatesWrong)

/-- 'millracelaw.SketchGrids': WHATEVER THE INPUT: true; the input reads as it did. -/
def sketchGridsSpec : ChangeSpec := { name := "sketchGrids", fn := fun _ => fun
  | [d1, d2, d3, d4] => { results := [.lit (.bool true)], args := [d1, d2, d3, d4] }
  | _ => none }
def sketchGridsRow : OpenClaim := { program := "ytmangbbcnkbfkaadoor", sum := "77a4a9a263c61e51fe3c2caae1e7ed3704bb093ee5df3ebaac0506551dbc1f97", func := "millrace/millracelaw.SketchGrids", spec := "sketchGrids", inPlace := ["internal/reflectlite.ValueOf", "(internal/reflectlite.Value).Type", "(internal/reflectlite.Value).IsNil", "internal/reflectlite.TypeOf", "(internal/reflectlite.Value).Elem", "(internal/reflectlite.Value).Set"], unfollowed := true, recurses := true, named := ["errors.errorType"], apart := false, laid := [("errors.errorType", laid_errors_errorType)] }
def SketchGridsSaid : Prop := sketchGridsRow.holds Tryd.pinned (OpenSpec.ofChange sketchGridsSpec)

/-- ITS FALSE NEIGHBOUR: 'it returns false'. Refute it at one input. -/
def sketchGridsWrong : ChangeSpec := { name := "sketchGrids", fn := fun _ => fun
  | [d1, d2, d3, d4] => { results := [.lit (.bool false)], args := [d1, d2, d3, d4] }
  | _ => none }
def SketchGridsWrongFalsely : Prop := sketchGridsRow.holds Tryd.pinned (OpenSpec.ofChange sketchGridsWrong)

/-- 'millracelaw.ScedFits': WHATEVER THE INPUT: true; the input reads as it did. -/
def scedFitsSpec : ChangeSpec := { name := "scedFits", fn := fun _ => fun
  | [d] => { results := [.lit (.bool true)], args := [d] }
  | _ => none }
def scedFitsRow : OpenClaim := { program := "ytmangbbcnkbfkaadoor", sum := "77a4a9a263c61e51fe3c2caae1e7ed3704bb093ee5df3ebaac0506551dbc1f97", func := "millrace/millracelaw.ScedFits", spec := "scedFits", inPlace := ["internal/reflectlite.ValueOf", "(internal/reflectlite.Value).Type", "(internal/reflectlite.Value).IsNil", "internal/reflectlite.TypeOf", "(internal/reflectlite.Value).Elem", "(internal/reflectlite.Value).Set"], unfollowed := true, recurses := true, named := ["errors.errorType"], apart := false, laid := [("errors.errorType", laid_errors_errorType)] }
def ScedFitsSaid : Prop := scedFitsRow.holds Tryd.pinned (OpenSpec.ofChange scedFitsSpec)

/-- ITS FALSE NEIGHBOUR: 'it returns false'. Refute it at one input. -/
def scedFitsWrong : ChangeSpec := { name := "scedFits", fn := fun _ => fun
  | [d] => { results := [.lit (.bool false)], args := [d] }
  | _ => none }
def ScedFitsWrongFalsely : Prop := scedFitsRow.holds Tryd.pinned (OpenSpec.ofChange scedFitsWrong)

/-- 'millracelaw.ScedMakes': WHATEVER THE INPUT: true; the input reads as it did. -/
def scedMakesSpec : ChangeSpec := { name := "scedMakes", fn := fun _ => fun
  | [d1, d2] => { results := [.lit (.bool true)], args := [d1, d2] }
  | _ => none }
def scedMakesRow : OpenClaim := { program := "ytmangbbcnkbfkaadoor", sum := "77a4a9a263c61e51fe3c2caae1e7ed3704bb093ee5df3ebaac0506551dbc1f97", func := "millrace/millracelaw.ScedMakes", spec := "scedMakes", inPlace := ["internal/reflectlite.ValueOf", "(internal/reflectlite.Value).Type", "(internal/reflectlite.Value).IsNil", "internal/reflectlite.TypeOf", "(internal/reflectlite.Value).Elem", "(internal/reflectlite.Value).Set"], unfollowed := true, recurses := true, named := ["errors.errorType"], apart := false, laid := [("errors.errorType", laid_errors_errorType)] }
def ScedMakesSaid : Prop := scedMakesRow.holds Tryd.pinned (OpenSpec.ofChange scedMakesSpec)

/-- ITS FALSE NEIGHBOUR: 'it returns false'. Refute it at one input. -/
def scedMakesWrong : ChangeSpec := { name := "scedMakes", fn := fun _ => fun
  | [d1, d2] => { results := [.lit (.bool false)], args := [d1, d2] }
  | _ => none }
def ScedMakesWrongFalsely : Prop := scedMakesRow.holds Tryd.pinned (OpenSpec.ofChange scedMakesWrong)

/- THE SECOND FORM. 'bulk': how many values and letters a reading holds, each counted each time it is reached (what is shared counts as often as it is met; a slice's spare places count too). A statement '..UptoSaid' is the law's where the arguments, and the package variables that the reading takes, are together of bulk at most 1048576: NARROWER than '..Said'. Prove '..Said' where nothing that the law and all that it calls make is longer than what came in: it says more and counts as full. Else prove '..UptoSaid'. A law counts once. -/
mutual
def uptoBulk {H : Type} : DataW H → Nat
  | .lit (.string bytes) => bytes.length + 1
  | .lit _ => 1
  | .nil => 1
  | .ptr d => uptoBulk d + 1
  | .slice elems spare => uptoBulkAll elems + uptoBulkAll spare + 1
  | .agg parts => uptoBulkAll parts + 1
  | .iface _ d => uptoBulk d + 1
  | .map entries => uptoBulkEntries entries + 1
  | .held _ => 1
def uptoBulkAll {H : Type} : List (DataW H) → Nat
  | [] => 0
  | d :: r => uptoBulk d + uptoBulkAll r
def uptoBulkEntries {H : Type} : List (Lit × DataW H) → Nat
  | [] => 0
  | x :: r => uptoBulkEntry x + uptoBulkEntries r
def uptoBulkEntry {H : Type} : Lit × DataW H → Nat
  | (.string bytes, d) => bytes.length + uptoBulk d + 1
  | (_, d) => uptoBulk d + 1
 end
def uptoSmall : (H : Type) → List (DataW H) → Bool := fun _ ds => decide (uptoBulkAll ds ≤ 1048576)
def OpenSpec.upto (s : _root_.Go.ChangeSpec) : _root_.Go.OpenSpec := { _root_.Go.OpenSpec.ofChange s with cond := some uptoSmall }

/-- 'millracelaw.SketchRates', WHERE WHAT IT READS IS OF BULK AT MOST 1048576: true; the input reads as it did. -/
def sketchRatesUptoRow : OpenClaim := { program := "ytmangbbcnkbfkaadoor", sum := "77a4a9a263c61e51fe3c2caae1e7ed3704bb093ee5df3ebaac0506551dbc1f97", func := "millrace/millracelaw.SketchRates", spec := "sketchRates", inPlace := ["internal/reflectlite.ValueOf", "(internal/reflectlite.Value).Type", "(internal/reflectlite.Value).IsNil", "internal/reflectlite.TypeOf", "(internal/reflectlite.Value).Elem", "(internal/reflectlite.Value).Set"], unfollowed := true, recurses := true, named := ["errors.errorType"], apart := false, laid := [("errors.errorType", laid_errors_errorType)], narrowed := true }
def SketchRatesUptoSaid : Prop := sketchRatesUptoRow.holds Tryd.pinned (OpenSpec.upto sketchRatesSpec)

/-- 'millracelaw.SketchGrids', WHERE WHAT IT READS IS OF BULK AT MOST 1048576: true; the input reads as it did. -/
def sketchGridsUptoRow : OpenClaim := { program := "ytmangbbcnkbfkaadoor", sum := "77a4a9a263c61e51fe3c2caae1e7ed3704bb093ee5df3ebaac0506551dbc1f97", func := "millrace/millracelaw.SketchGrids", spec := "sketchGrids", inPlace := ["internal/reflectlite.ValueOf", "(internal/reflectlite.Value).Type", "(internal/reflectlite.Value).IsNil", "internal/reflectlite.TypeOf", "(internal/reflectlite.Value).Elem", "(internal/reflectlite.Value).Set"], unfollowed := true, recurses := true, named := ["errors.errorType"], apart := false, laid := [("errors.errorType", laid_errors_errorType)], narrowed := true }
def SketchGridsUptoSaid : Prop := sketchGridsUptoRow.holds Tryd.pinned (OpenSpec.upto sketchGridsSpec)

/-- 'millracelaw.ScedFits', WHERE WHAT IT READS IS OF BULK AT MOST 1048576: true; the input reads as it did. -/
def scedFitsUptoRow : OpenClaim := { program := "ytmangbbcnkbfkaadoor", sum := "77a4a9a263c61e51fe3c2caae1e7ed3704bb093ee5df3ebaac0506551dbc1f97", func := "millrace/millracelaw.ScedFits", spec := "scedFits", inPlace := ["internal/reflectlite.ValueOf", "(internal/reflectlite.Value).Type", "(internal/reflectlite.Value).IsNil", "internal/reflectlite.TypeOf", "(internal/reflectlite.Value).Elem", "(internal/reflectlite.Value).Set"], unfollowed := true, recurses := true, named := ["errors.errorType"], apart := false, laid := [("errors.errorType", laid_errors_errorType)], narrowed := true }
def ScedFitsUptoSaid : Prop := scedFitsUptoRow.holds Tryd.pinned (OpenSpec.upto scedFitsSpec)

/-- 'millracelaw.ScedMakes', WHERE WHAT IT READS IS OF BULK AT MOST 1048576: true; the input reads as it did. -/
def scedMakesUptoRow : OpenClaim := { program := "ytmangbbcnkbfkaadoor", sum := "77a4a9a263c61e51fe3c2caae1e7ed3704bb093ee5df3ebaac0506551dbc1f97", func := "millrace/millracelaw.ScedMakes", spec := "scedMakes", inPlace := ["internal/reflectlite.ValueOf", "(internal/reflectlite.Value).Type", "(internal/reflectlite.Value).IsNil", "internal/reflectlite.TypeOf", "(internal/reflectlite.Value).Elem", "(internal/reflectlite.Value).Set"], unfollowed := true, recurses := true, named := ["errors.errorType"], apart := false, laid := [("errors.errorType", laid_errors_errorType)], narrowed := true }
def ScedMakesUptoSaid : Prop := scedMakesUptoRow.holds Tryd.pinned (OpenSpec.upto scedMakesSpec)

end Rows
end Go.Proofs.YtmangbbcnkbfkaaDoor

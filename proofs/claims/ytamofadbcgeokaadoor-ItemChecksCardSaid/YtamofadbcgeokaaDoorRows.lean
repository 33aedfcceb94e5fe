/-
  NARROWER THAN 'FOR EVERY INPUT', by the rows' own cells (each row's printed sentence says how): ItemTakes: laid · CurveChecks: laid · ItemChecks: laid · CurveMakes: laid · CurveLeast: laid · CurveThen: laid · CurveFits: laid · CurveBehind: laid · CurveServes: laid · CurveBounds: laid.
  DERIVED. THE GIVEN ROWS OF THIS SEAT. 10 by the template 'for every input the law returns true; each argument reads behind the call as it read before'; 0 by the template 'total and deterministic' (their statements: YtamofadbcgeokaaDoorTotals.lean).
  GIVEN WITH THE SEED: the statements are not yours to turn. If you find one false, say at which input.
  Laid BY PROGRAM, IN A SANDBOX (cutbox-rows.mjs): the forced cells as the released guide's own fill.sh prints them over the translation 49852de9f012dbb5… (all of the seat's roots in one cut). By AI agents, Wed Nov 11 2026. No macro, syntax, notation, axiom, sorry.
-/
import Derived.Test.YtamofadbcgeokaaDoorChecked
import GoSem.Claim
import GoSem.ClaimJoined
import GoSem.ClaimMapViews
import Derived.JoinedTies
import Derived.KernelRfl
namespace Go.Proofs.YtamofadbcgeokaaDoor
/- THE CELL 'sum', in the pinned program and in every row, IS THE sha256 OF THE DUMP (.gsa) THAT YtamofadbcgeokaaDoorProg.lean LOADS. Nothing in Lean hashes anything: it is a label: what it is worth is what the hold of that sum in a sandbox is worth. -/
noncomputable def Tryd.pinned : Pinned := { name := "ytamofadbcgeokaadoor", sum := "49852de9f012dbb5ff3f38f1b1b3f373fd84b95b1f35697b41e529d0c6f82679", checked := Tryd.checked }
namespace Rows
def none {H : Type} : Left H := { results := [], args := [] }

/- WHAT THE LISTED PACKAGE-LEVEL VARIABLES READ AS WHEN THE CALL BEGINS. Each datum BY PROGRAM (the guide's laid-datum.mjs) off the statement by which the dump's own 'gosem.cut.vars' lays the variable. In a bare row this is a premise. The card (YtamofadbcgeokaaDoorCards.lean) ties it to the program's text. -/
def laid_errors_errorType {H : Type} : DataW H := .iface "internal/reflectlite.rtype" (.agg [.ptr (.lit (.string [101, 114, 114, 111, 114]))])
def laid_millrace_millraceref_Fine {H : Type} : DataW H := .agg [.lit (.int .i64 0), .lit (.int .i64 (-1))]

/-- 'millracelaw.ItemTakes': WHATEVER THE INPUT: true; the input reads as it did. -/
def itemTakesSpec : ChangeSpec := { name := "itemTakes", fn := fun _ => fun
  | [d1, d2] => { results := [.lit (.bool true)], args := [d1, d2] }
  | _ => none }
def itemTakesRow : OpenClaim := { program := "ytamofadbcgeokaadoor", sum := "49852de9f012dbb5ff3f38f1b1b3f373fd84b95b1f35697b41e529d0c6f82679", func := "millrace/millracelaw.ItemTakes", spec := "itemTakes", inPlace := ["internal/reflectlite.ValueOf", "(internal/reflectlite.Value).Type", "(internal/reflectlite.Value).IsNil", "internal/reflectlite.TypeOf", "(internal/reflectlite.Value).Elem", "(internal/reflectlite.Value).Set"], unfollowed := true, recurses := true, named := ["errors.errorType"], apart := false, laid := [("errors.errorType", laid_errors_errorType)] }
def ItemTakesSaid : Prop := itemTakesRow.holds Tryd.pinned (OpenSpec.ofChange itemTakesSpec)

/-- ITS FALSE NEIGHBOUR: 'it returns false'. Refute it at one input. -/
def itemTakesWrong : ChangeSpec := { name := "itemTakes", fn := fun _ => fun
  | [d1, d2] => { results := [.lit (.bool false)], args := [d1, d2] }
  | _ => none }
def ItemTakesWrongFalsely : Prop := itemTakesRow.holds Tryd.pinned (OpenSpec.ofChange itemTakesWrong)

/-- 'millracelaw.CurveChecks': WHATEVER THE INPUT: true; the input reads as it did. -/
def curveChecksSpec : ChangeSpec := { name := "curveChecks", fn := fun _ => fun
  | [d] => { results := [.lit (.bool true)], args := [d] }
  | _ => none }
def curveChecksRow : OpenClaim := { program := "ytamofadbcgeokaadoor", sum := "49852de9f012dbb5ff3f38f1b1b3f373fd84b95b1f35697b41e529d0c6f82679", func := "millrace/millracelaw.CurveChecks", spec := "curveChecks", inPlace := ["internal/reflectlite.ValueOf", "(internal/reflectlite.Value).Type", "(internal/reflectlite.Value).IsNil", "internal/reflectlite.TypeOf", "(internal/reflectlite.Value).Elem", "(internal/reflectlite.Value).Set"], unfollowed := true, recurses := true, named := ["errors.errorType"], apart := false, laid := [("errors.errorType", laid_errors_errorType)] }
def CurveChecksSaid : Prop := curveChecksRow.holds Tryd.pinned (OpenSpec.ofChange curveChecksSpec)

/-- ITS FALSE NEIGHBOUR: 'it returns false'. Refute it at one input. -/
def curveChecksWrong : ChangeSpec := { name := "curveChecks", fn := fun _ => fun
  | [d] => { results := [.lit (.bool false)], args := [d] }
  | _ => none }
def CurveChecksWrongFalsely : Prop := curveChecksRow.holds Tryd.pinned (OpenSpec.ofChange curveChecksWrong)

/-- 'millracelaw.ItemChecks': WHATEVER THE INPUT: true; the input reads as it did. -/
def itemChecksSpec : ChangeSpec := { name := "itemChecks", fn := fun _ => fun
  | [d] => { results := [.lit (.bool true)], args := [d] }
  | _ => none }
def itemChecksRow : OpenClaim := { program := "ytamofadbcgeokaadoor", sum := "49852de9f012dbb5ff3f38f1b1b3f373fd84b95b1f35697b41e529d0c6f82679", func := "millrace/millracelaw.ItemChecks", spec := "itemChecks", inPlace := ["internal/reflectlite.ValueOf", "(internal/reflectlite.Value).Type", "(internal/reflectlite.Value).IsNil", "internal/reflectlite.TypeOf", "(internal/reflectlite.Value).Elem", "(internal/reflectlite.Value).Set"], unfollowed := true, recurses := true, named := ["errors.errorType", "millrace/millraceref.Fine"], apart := false, laid := [("errors.errorType", laid_errors_errorType), ("millrace/millraceref.Fine", laid_millrace_millraceref_Fine)] }
def ItemChecksSaid : Prop := itemChecksRow.holds Tryd.pinned (OpenSpec.ofChange itemChecksSpec)

/-- ITS FALSE NEIGHBOUR: 'it returns false'. Refute it at one input. -/
def itemChecksWrong : ChangeSpec := { name := "itemChecks", fn := fun _ => fun
  | [d] => { results := [.lit (.bool false)], args := [d] }
  | _ => none }
def ItemChecksWrongFalsely : Prop := itemChecksRow.holds Tryd.pinned (OpenSpec.ofChange itemChecksWrong)

/-- 'millracelaw.CurveMakes': WHATEVER THE INPUT: true; the input reads as it did. -/
def curveMakesSpec : ChangeSpec := { name := "curveMakes", fn := fun _ => fun
  | [d1, d2, d3] => { results := [.lit (.bool true)], args := [d1, d2, d3] }
  | _ => none }
def curveMakesRow : OpenClaim := { program := "ytamofadbcgeokaadoor", sum := "49852de9f012dbb5ff3f38f1b1b3f373fd84b95b1f35697b41e529d0c6f82679", func := "millrace/millracelaw.CurveMakes", spec := "curveMakes", inPlace := ["internal/reflectlite.ValueOf", "(internal/reflectlite.Value).Type", "(internal/reflectlite.Value).IsNil", "internal/reflectlite.TypeOf", "(internal/reflectlite.Value).Elem", "(internal/reflectlite.Value).Set"], unfollowed := true, recurses := true, named := ["errors.errorType"], apart := false, laid := [("errors.errorType", laid_errors_errorType)] }
def CurveMakesSaid : Prop := curveMakesRow.holds Tryd.pinned (OpenSpec.ofChange curveMakesSpec)

/-- ITS FALSE NEIGHBOUR: 'it returns false'. Refute it at one input. -/
def curveMakesWrong : ChangeSpec := { name := "curveMakes", fn := fun _ => fun
  | [d1, d2, d3] => { results := [.lit (.bool false)], args := [d1, d2, d3] }
  | _ => none }
def CurveMakesWrongFalsely : Prop := curveMakesRow.holds Tryd.pinned (OpenSpec.ofChange curveMakesWrong)

/-- 'millracelaw.CurveLeast': WHATEVER THE INPUT: true; the input reads as it did. -/
def curveLeastSpec : ChangeSpec := { name := "curveLeast", fn := fun _ => fun
  | [d1, d2] => { results := [.lit (.bool true)], args := [d1, d2] }
  | _ => none }
def curveLeastRow : OpenClaim := { program := "ytamofadbcgeokaadoor", sum := "49852de9f012dbb5ff3f38f1b1b3f373fd84b95b1f35697b41e529d0c6f82679", func := "millrace/millracelaw.CurveLeast", spec := "curveLeast", inPlace := ["internal/reflectlite.ValueOf", "(internal/reflectlite.Value).Type", "(internal/reflectlite.Value).IsNil", "internal/reflectlite.TypeOf", "(internal/reflectlite.Value).Elem", "(internal/reflectlite.Value).Set"], unfollowed := true, recurses := true, named := ["errors.errorType"], apart := false, laid := [("errors.errorType", laid_errors_errorType)] }
def CurveLeastSaid : Prop := curveLeastRow.holds Tryd.pinned (OpenSpec.ofChange curveLeastSpec)

/-- ITS FALSE NEIGHBOUR: 'it returns false'. Refute it at one input. -/
def curveLeastWrong : ChangeSpec := { name := "curveLeast", fn := fun _ => fun
  | [d1, d2] => { results := [.lit (.bool false)], args := [d1, d2] }
  | _ => none }
def CurveLeastWrongFalsely : Prop := curveLeastRow.holds Tryd.pinned (OpenSpec.ofChange curveLeastWrong)

/-- 'millracelaw.CurveThen': WHATEVER THE INPUT: true; the input reads as it did. -/
def curveThenSpec : ChangeSpec := { name := "curveThen", fn := fun _ => fun
  | [d1, d2] => { results := [.lit (.bool true)], args := [d1, d2] }
  | _ => none }
def curveThenRow : OpenClaim := { program := "ytamofadbcgeokaadoor", sum := "49852de9f012dbb5ff3f38f1b1b3f373fd84b95b1f35697b41e529d0c6f82679", func := "millrace/millracelaw.CurveThen", spec := "curveThen", inPlace := ["internal/reflectlite.ValueOf", "(internal/reflectlite.Value).Type", "(internal/reflectlite.Value).IsNil", "internal/reflectlite.TypeOf", "(internal/reflectlite.Value).Elem", "(internal/reflectlite.Value).Set"], unfollowed := true, recurses := true, named := ["errors.errorType"], apart := false, laid := [("errors.errorType", laid_errors_errorType)] }
def CurveThenSaid : Prop := curveThenRow.holds Tryd.pinned (OpenSpec.ofChange curveThenSpec)

/-- ITS FALSE NEIGHBOUR: 'it returns false'. Refute it at one input. -/
def curveThenWrong : ChangeSpec := { name := "curveThen", fn := fun _ => fun
  | [d1, d2] => { results := [.lit (.bool false)], args := [d1, d2] }
  | _ => none }
def CurveThenWrongFalsely : Prop := curveThenRow.holds Tryd.pinned (OpenSpec.ofChange curveThenWrong)

/-- 'millracelaw.CurveFits': WHATEVER THE INPUT: true; the input reads as it did. -/
def curveFitsSpec : ChangeSpec := { name := "curveFits", fn := fun _ => fun
  | [d1, d2] => { results := [.lit (.bool true)], args := [d1, d2] }
  | _ => none }
def curveFitsRow : OpenClaim := { program := "ytamofadbcgeokaadoor", sum := "49852de9f012dbb5ff3f38f1b1b3f373fd84b95b1f35697b41e529d0c6f82679", func := "millrace/millracelaw.CurveFits", spec := "curveFits", inPlace := ["internal/reflectlite.ValueOf", "(internal/reflectlite.Value).Type", "(internal/reflectlite.Value).IsNil", "internal/reflectlite.TypeOf", "(internal/reflectlite.Value).Elem", "(internal/reflectlite.Value).Set"], unfollowed := true, recurses := true, named := ["errors.errorType"], apart := false, laid := [("errors.errorType", laid_errors_errorType)] }
def CurveFitsSaid : Prop := curveFitsRow.holds Tryd.pinned (OpenSpec.ofChange curveFitsSpec)

/-- ITS FALSE NEIGHBOUR: 'it returns false'. Refute it at one input. -/
def curveFitsWrong : ChangeSpec := { name := "curveFits", fn := fun _ => fun
  | [d1, d2] => { results := [.lit (.bool false)], args := [d1, d2] }
  | _ => none }
def CurveFitsWrongFalsely : Prop := curveFitsRow.holds Tryd.pinned (OpenSpec.ofChange curveFitsWrong)

/-- 'millracelaw.CurveBehind': WHATEVER THE INPUT: true; the input reads as it did. -/
def curveBehindSpec : ChangeSpec := { name := "curveBehind", fn := fun _ => fun
  | [d1, d2] => { results := [.lit (.bool true)], args := [d1, d2] }
  | _ => none }
def curveBehindRow : OpenClaim := { program := "ytamofadbcgeokaadoor", sum := "49852de9f012dbb5ff3f38f1b1b3f373fd84b95b1f35697b41e529d0c6f82679", func := "millrace/millracelaw.CurveBehind", spec := "curveBehind", inPlace := ["internal/reflectlite.ValueOf", "(internal/reflectlite.Value).Type", "(internal/reflectlite.Value).IsNil", "internal/reflectlite.TypeOf", "(internal/reflectlite.Value).Elem", "(internal/reflectlite.Value).Set"], unfollowed := true, recurses := true, named := ["errors.errorType"], apart := false, laid := [("errors.errorType", laid_errors_errorType)] }
def CurveBehindSaid : Prop := curveBehindRow.holds Tryd.pinned (OpenSpec.ofChange curveBehindSpec)

/-- ITS FALSE NEIGHBOUR: 'it returns false'. Refute it at one input. -/
def curveBehindWrong : ChangeSpec := { name := "curveBehind", fn := fun _ => fun
  | [d1, d2] => { results := [.lit (.bool false)], args := [d1, d2] }
  | _ => none }
def CurveBehindWrongFalsely : Prop := curveBehindRow.holds Tryd.pinned (OpenSpec.ofChange curveBehindWrong)

/-- 'millracelaw.CurveServes': WHATEVER THE INPUT: true; the input reads as it did. -/
def curveServesSpec : ChangeSpec := { name := "curveServes", fn := fun _ => fun
  | [d1, d2] => { results := [.lit (.bool true)], args := [d1, d2] }
  | _ => none }
def curveServesRow : OpenClaim := { program := "ytamofadbcgeokaadoor", sum := "49852de9f012dbb5ff3f38f1b1b3f373fd84b95b1f35697b41e529d0c6f82679", func := "millrace/millracelaw.CurveServes", spec := "curveServes", inPlace := ["internal/reflectlite.ValueOf", "(internal/reflectlite.Value).Type", "(internal/reflectlite.Value).IsNil", "internal/reflectlite.TypeOf", "(internal/reflectlite.Value).Elem", "(internal/reflectlite.Value).Set"], unfollowed := true, recurses := true, named := ["errors.errorType"], apart := false, laid := [("errors.errorType", laid_errors_errorType)] }
def CurveServesSaid : Prop := curveServesRow.holds Tryd.pinned (OpenSpec.ofChange curveServesSpec)

/-- ITS FALSE NEIGHBOUR: 'it returns false'. Refute it at one input. -/
def curveServesWrong : ChangeSpec := { name := "curveServes", fn := fun _ => fun
  | [d1, d2] => { results := [.lit (.bool false)], args := [d1, d2] }
  | _ => none }
def CurveServesWrongFalsely : Prop := curveServesRow.holds Tryd.pinned (OpenSpec.ofChange curveServesWrong)

/-- 'millracelaw.CurveBounds': WHATEVER THE INPUT: true; the input reads as it did. -/
def curveBoundsSpec : ChangeSpec := { name := "curveBounds", fn := fun _ => fun
  | [d1, d2] => { results := [.lit (.bool true)], args := [d1, d2] }
  | _ => none }
def curveBoundsRow : OpenClaim := { program := "ytamofadbcgeokaadoor", sum := "49852de9f012dbb5ff3f38f1b1b3f373fd84b95b1f35697b41e529d0c6f82679", func := "millrace/millracelaw.CurveBounds", spec := "curveBounds", inPlace := ["internal/reflectlite.ValueOf", "(internal/reflectlite.Value).Type", "(internal/reflectlite.Value).IsNil", "internal/reflectlite.TypeOf", "(internal/reflectlite.Value).Elem", "(internal/reflectlite.Value).Set"], unfollowed := true, recurses := true, named := ["errors.errorType"], apart := false, laid := [("errors.errorType", laid_errors_errorType)] }
def CurveBoundsSaid : Prop := curveBoundsRow.holds Tryd.pinned (OpenSpec.ofChange curveBoundsSpec)

/-- ITS FALSE NEIGHBOUR: 'it returns false'. Refute it at one input. -/
def curveBoundsWrong : ChangeSpec := { name := "curveBounds", fn := fun _ => fun
  | [d1, d2] => { results := [.lit (.bool false)], args := [d1, d2] }
  | _ => none }
def CurveBoundsWrongFalsely : Prop := curveBoundsRow.holds Tryd.pinned (OpenSpec.ofChange curveBoundsWrong)

/- THE SECOND FORM. 'bulk': how many values and letters a reading holds, each counted each time it is reached (what is shared counts as often as it is met; a slice's spare places count too). A statement '..UptoSaid' is the law's where the arguments, and the package variables that the reading takes, are together of bulk at most 1048576: NARROWER than '..Said'. Prove '..Said' where nothing that the law and all that it calls make is longer than what came in: it says more and counts as full. Else prove '..UptoSaid'. A law counts once. -/
mutual
def uptoBulk {H : Type} : DataW H → Nat
  | .lit (.string bytes) => bytes.length + 1
  | .lit _ => 1
  | .nil => 1
  | .ptr d => uptoBulk d + 1
  | .slice elems spare => uptoBulkAll elems + uptoBulkAll spare + 1
  | .agg parts => uptoBulkAll parts + 1
  | .iface _ d => uptoBulk d + 1
  | .map entries => uptoBulkEntries entries + 1
  | .held _ => 1
def uptoBulkAll {H : Type} : List (DataW H) → Nat
  | [] => 0
  | d :: r => uptoBulk d + uptoBulkAll r
def uptoBulkEntries {H : Type} : List (Lit × DataW H) → Nat
  | [] => 0
  | x :: r => uptoBulkEntry x + uptoBulkEntries r
def uptoBulkEntry {H : Type} : Lit × DataW H → Nat
  | (.string bytes, d) => bytes.length + uptoBulk d + 1
  | (_, d) => uptoBulk d + 1
 end
def uptoSmall : (H : Type) → List (DataW H) → Bool := fun _ ds => decide (uptoBulkAll ds ≤ 1048576)
def OpenSpec.upto (s : _root_.Go.ChangeSpec) : _root_.Go.OpenSpec := { _root_.Go.OpenSpec.ofChange s with cond := some uptoSmall }

/-- 'millracelaw.ItemTakes', WHERE WHAT IT READS IS OF BULK AT MOST 1048576: true; the input reads as it did. -/
def itemTakesUptoRow : OpenClaim := { program := "ytamofadbcgeokaadoor", sum := "49852de9f012dbb5ff3f38f1b1b3f373fd84b95b1f35697b41e529d0c6f82679", func := "millrace/millracelaw.ItemTakes", spec := "itemTakes", inPlace := ["internal/reflectlite.ValueOf", "(internal/reflectlite.Value).Type", "(internal/reflectlite.Value).IsNil", "internal/reflectlite.TypeOf", "(internal/reflectlite.Value).Elem", "(internal/reflectlite.Value).Set"], unfollowed := true, recurses := true, named := ["errors.errorType"], apart := false, laid := [("errors.errorType", laid_errors_errorType)], narrowed := true }
def ItemTakesUptoSaid : Prop := itemTakesUptoRow.holds Tryd.pinned (OpenSpec.upto itemTakesSpec)

/-- 'millracelaw.CurveChecks', WHERE WHAT IT READS IS OF BULK AT MOST 1048576: true; the input reads as it did. -/
def curveChecksUptoRow : OpenClaim := { program := "ytamofadbcgeokaadoor", sum := "49852de9f012dbb5ff3f38f1b1b3f373fd84b95b1f35697b41e529d0c6f82679", func := "millrace/millracelaw.CurveChecks", spec := "curveChecks", inPlace := ["internal/reflectlite.ValueOf", "(internal/reflectlite.Value).Type", "(internal/reflectlite.Value).IsNil", "internal/reflectlite.TypeOf", "(internal/reflectlite.Value).Elem", "(internal/reflectlite.Value).Set"], unfollowed := true, recurses := true, named := ["errors.errorType"], apart := false, laid := [("errors.errorType", laid_errors_errorType)], narrowed := true }
def CurveChecksUptoSaid : Prop := curveChecksUptoRow.holds Tryd.pinned (OpenSpec.upto curveChecksSpec)

/-- 'millracelaw.ItemChecks', WHERE WHAT IT READS IS OF BULK AT MOST 1048576: true; the input reads as it did. -/
def itemChecksUptoRow : OpenClaim := { program := "ytamofadbcgeokaadoor", sum := "49852de9f012dbb5ff3f38f1b1b3f373fd84b95b1f35697b41e529d0c6f82679", func := "millrace/millracelaw.ItemChecks", spec := "itemChecks", inPlace := ["internal/reflectlite.ValueOf", "(internal/reflectlite.Value).Type", "(internal/reflectlite.Value).IsNil", "internal/reflectlite.TypeOf", "(internal/reflectlite.Value).Elem", "(internal/reflectlite.Value).Set"], unfollowed := true, recurses := true, named := ["errors.errorType", "millrace/millraceref.Fine"], apart := false, laid := [("errors.errorType", laid_errors_errorType), ("millrace/millraceref.Fine", laid_millrace_millraceref_Fine)], narrowed := true }
def ItemChecksUptoSaid : Prop := itemChecksUptoRow.holds Tryd.pinned (OpenSpec.upto itemChecksSpec)

/-- 'millracelaw.CurveMakes', WHERE WHAT IT READS IS OF BULK AT MOST 1048576: true; the input reads as it did. -/
def curveMakesUptoRow : OpenClaim := { program := "ytamofadbcgeokaadoor", sum := "49852de9f012dbb5ff3f38f1b1b3f373fd84b95b1f35697b41e529d0c6f82679", func := "millrace/millracelaw.CurveMakes", spec := "curveMakes", inPlace := ["internal/reflectlite.ValueOf", "(internal/reflectlite.Value).Type", "(internal/reflectlite.Value).IsNil", "internal/reflectlite.TypeOf", "(internal/reflectlite.Value).Elem", "(internal/reflectlite.Value).Set"], unfollowed := true, recurses := true, named := ["errors.errorType"], apart := false, laid := [("errors.errorType", laid_errors_errorType)], narrowed := true }
def CurveMakesUptoSaid : Prop := curveMakesUptoRow.holds Tryd.pinned (OpenSpec.upto curveMakesSpec)

/-- 'millracelaw.CurveLeast', WHERE WHAT IT READS IS OF BULK AT MOST 1048576: true; the input reads as it did. -/
def curveLeastUptoRow : OpenClaim := { program := "ytamofadbcgeokaadoor", sum := "49852de9f012dbb5ff3f38f1b1b3f373fd84b95b1f35697b41e529d0c6f82679", func := "millrace/millracelaw.CurveLeast", spec := "curveLeast", inPlace := ["internal/reflectlite.ValueOf", "(internal/reflectlite.Value).Type", "(internal/reflectlite.Value).IsNil", "internal/reflectlite.TypeOf", "(internal/reflectlite.Value).Elem", "(internal/reflectlite.Value).Set"], unfollowed := true, recurses := true, named := ["errors.errorType"], apart := false, laid := [("errors.errorType", laid_errors_errorType)], narrowed := true }
def CurveLeastUptoSaid : Prop := curveLeastUptoRow.holds Tryd.pinned (OpenSpec.upto curveLeastSpec)

/-- 'millracelaw.CurveThen', WHERE WHAT IT READS IS OF BULK AT MOST 1048576: true; the input reads as it did. -/
def curveThenUptoRow : OpenClaim := { program := "ytamofadbcgeokaadoor", sum := "49852de9f012dbb5ff3f38f1b1b3f373fd84b95b1f35697b41e529d0c6f82679", func := "millrace/millracelaw.CurveThen", spec := "curveThen", inPlace := ["internal/reflectlite.ValueOf", "(internal/reflectlite.Value).Type", "(internal/reflectlite.Value).IsNil", "internal/reflectlite.TypeOf", "(internal/reflectlite.Value).Elem", "(internal/reflectlite.Value).Set"], unfollowed := true, recurses := true, named := ["errors.errorType"], apart := false, laid := [("errors.errorType", laid_errors_errorType)], narrowed := true }
def CurveThenUptoSaid : Prop := curveThenUptoRow.holds Tryd.pinned (OpenSpec.upto curveThenSpec)

/-- 'millracelaw.CurveFits', WHERE WHAT IT READS IS OF BULK AT MOST 1048576: true; the input reads as it did. -/
def curveFitsUptoRow : OpenClaim := { program := "ytamofadbcgeokaadoor", sum := "49852de9f012dbb5ff3f38f1b1b3f373fd84b95b1f35697b41e529d0c6f82679", func := "millrace/millracelaw.CurveFits", spec := "curveFits", inPlace := ["internal/reflectlite.ValueOf", "(internal/reflectlite.Value).Type", "(internal/reflectlite.Value).IsNil", "internal/reflectlite.TypeOf", "(internal/reflectlite.Value).Elem", "(internal/reflectlite.Value).Set"], unfollowed := true, recurses := true, named := ["errors.errorType"], apart := false, laid := [("errors.errorType", laid_errors_errorType)], narrowed := true }
def CurveFitsUptoSaid : Prop := curveFitsUptoRow.holds Tryd.pinned (OpenSpec.upto curveFitsSpec)

/-- 'millracelaw.CurveBehind', WHERE WHAT IT READS IS OF BULK AT MOST 1048576: true; the input reads as it did. -/
def curveBehindUptoRow : OpenClaim := { program := "ytamofadbcgeokaadoor", sum := "49852de9f012dbb5ff3f38f1b1b3f373fd84b95b1f35697b41e529d0c6f82679", func := "millrace/millracelaw.CurveBehind", spec := "curveBehind", inPlace := ["internal/reflectlite.ValueOf", "(internal/reflectlite.Value).Type", "(internal/reflectlite.Value).IsNil", "internal/reflectlite.TypeOf", "(internal/reflectlite.Value).Elem", "(internal/reflectlite.Value).Set"], unfollowed := true, recurses := true, named := ["errors.errorType"], apart := false, laid := [("errors.errorType", laid_errors_errorType)], narrowed := true }
def CurveBehindUptoSaid : Prop := curveBehindUptoRow.holds Tryd.pinned (OpenSpec.upto curveBehindSpec)

/-- 'millracelaw.CurveServes', WHERE WHAT IT READS IS OF BULK AT MOST 1048576: true; the input reads as it did. -/
def curveServesUptoRow : OpenClaim := { program := "ytamofadbcgeokaadoor", sum := "49852de9f012dbb5ff3f38f1b1b3f373fd84b95b1f35697b41e529d0c6f82679", func := "millrace/millracelaw.CurveServes", spec := "curveServes", inPlace := ["internal/reflectlite.ValueOf", "(internal/reflectlite.Value).Type", "(internal/reflectlite.Value).IsNil", "internal/reflectlite.TypeOf", "(internal/reflectlite.Value).Elem", "(internal/reflectlite.Value).Set"], unfollowed := true, recurses := true, named := ["errors.errorType"], apart := false, laid := [("errors.errorType", laid_errors_errorType)], narrowed := true }
def CurveServesUptoSaid : Prop := curveServesUptoRow.holds Tryd.pinned (OpenSpec.upto curveServesSpec)

/-- 'millracelaw.CurveBounds', WHERE WHAT IT READS IS OF BULK AT MOST 1048576: true; the input reads as it did. -/
def curveBoundsUptoRow : OpenClaim := { program := "ytamofadbcgeokaadoor", sum := "49852de9f012dbb5ff3f38f1b1b3f373fd84b95b1f35697b41e529d0c6f82679", func := "millrace/millracelaw.CurveBounds", spec := "curveBounds", inPlace := ["internal/reflectlite.ValueOf", "(internal/reflectlite.Value).Type", "(internal/reflectlite.Value).IsNil", "internal/reflectlite.TypeOf", "(internal/reflectlite.Value).Elem", "(internal/reflectlite.Value).Set"], unfollowed := true, recurses := true, named := ["errors.errorType"], apart := false, laid := [("errors.errorType", laid_errors_errorType)], narrowed := true }
def CurveBoundsUptoSaid : Prop := curveBoundsUptoRow.holds Tryd.pinned (OpenSpec.upto curveBoundsSpec)

end Rows
end Go.Proofs.YtamofadbcgeokaaDoor

/-
  NARROWER THAN 'FOR EVERY INPUT', by the rows' own cells (each row's printed sentence says how): BucketCells: laid · BucketOne: laid · BucketConforms: laid · BucketTwo: laid · ActionDoes: laid.
  DERIVED. THE GIVEN ROWS OF THIS SEAT. 5 by the template 'for every input the law returns true; each argument reads behind the call as it read before'; 0 by the template 'total and deterministic' (their statements: YtogmjjaoflaogaaDoorTotals.lean).
  GIVEN WITH THE SEED: the statements are not yours to turn. If you find one false, say at which input.
  Laid BY PROGRAM, IN A SANDBOX (cutbox-rows.mjs): the forced cells as the released guide's own fill.sh prints them over the translation 6e24649f022a5499… (all of the seat's roots in one cut). By AI agents, Wed Nov 11 2026. No macro, syntax, notation, axiom, sorry.
-/
import Derived.Test.YtogmjjaoflaogaaDoorChecked
import GoSem.Claim
import GoSem.ClaimJoined
import GoSem.ClaimMapViews
import Derived.JoinedTies
import Derived.KernelRfl
namespace Go.Proofs.YtogmjjaoflaogaaDoor
/- THE CELL 'sum', in the pinned program and in every row, IS THE sha256 OF THE DUMP (.gsa) THAT YtogmjjaoflaogaaDoorProg.lean LOADS. Nothing in Lean hashes anything: it is a label: what it is worth is what the hold of that sum in a sandbox is worth. -/
noncomputable def Tryd.pinned : Pinned := { name := "ytogmjjaoflaogaadoor", sum := "6e24649f022a5499c8e82e68fb99a4ad34c28cabb4ad4d1ca2b46a095d259f1b", checked := Tryd.checked }
namespace Rows
def none {H : Type} : Left H := { results := [], args := [] }

/- WHAT THE LISTED PACKAGE-LEVEL VARIABLES READ AS WHEN THE CALL BEGINS. Each datum BY PROGRAM (the guide's laid-datum.mjs) off the statement by which the dump's own 'gosem.cut.vars' lays the variable. In a bare row this is a premise. The card (YtogmjjaoflaogaaDoorCards.lean) ties it to the program's text. -/
def laid_errors_errorType {H : Type} : DataW H := .iface "internal/reflectlite.rtype" (.agg [.ptr (.lit (.string [101, 114, 114, 111, 114]))])
def laid_millrace_millraceref_Fine {H : Type} : DataW H := .agg [.lit (.int .i64 0), .lit (.int .i64 (-1))]

/-- 'millracelaw.BucketCells': WHATEVER THE INPUT: true; the input reads as it did. -/
def bucketCellsSpec : ChangeSpec := { name := "bucketCells", fn := fun _ => fun
  | [d1, d2] => { results := [.lit (.bool true)], args := [d1, d2] }
  | _ => none }
def bucketCellsRow : OpenClaim := { program := "ytogmjjaoflaogaadoor", sum := "6e24649f022a5499c8e82e68fb99a4ad34c28cabb4ad4d1ca2b46a095d259f1b", func := "millrace/millracelaw.BucketCells", spec := "bucketCells", inPlace := ["internal/reflectlite.ValueOf", "(internal/reflectlite.Value).Type", "(internal/reflectlite.Value).IsNil", "internal/reflectlite.TypeOf", "(internal/reflectlite.Value).Elem", "(internal/reflectlite.Value).Set"], unfollowed := true, recurses := true, named := ["millrace/millraceref.Fine", "errors.errorType"], apart := false, laid := [("errors.errorType", laid_errors_errorType), ("millrace/millraceref.Fine", laid_millrace_millraceref_Fine)] }
def BucketCellsSaid : Prop := bucketCellsRow.holds Tryd.pinned (OpenSpec.ofChange bucketCellsSpec)

/-- ITS FALSE NEIGHBOUR: 'it returns false'. Refute it at one input. -/
def bucketCellsWrong : ChangeSpec := { name := "bucketCells", fn := fun _ => fun
  | [d1, d2] => { results := [.lit (.bool false)], args := [d1, d2] }
  | _ => none }
def BucketCellsWrongFalsely : Prop := bucketCellsRow.holds Tryd.pinned (OpenSpec.ofChange bucketCellsWrong)

/-- 'millracelaw.BucketOne': WHATEVER THE INPUT: true; the input reads as it did. -/
def bucketOneSpec : ChangeSpec := { name := "bucketOne", fn := fun _ => fun
  | [d1, d2, d3] => { results := [.lit (.bool true)], args := [d1, d2, d3] }
  | _ => none }
def bucketOneRow : OpenClaim := { program := "ytogmjjaoflaogaadoor", sum := "6e24649f022a5499c8e82e68fb99a4ad34c28cabb4ad4d1ca2b46a095d259f1b", func := "millrace/millracelaw.BucketOne", spec := "bucketOne", inPlace := ["internal/reflectlite.ValueOf", "(internal/reflectlite.Value).Type", "(internal/reflectlite.Value).IsNil", "internal/reflectlite.TypeOf", "(internal/reflectlite.Value).Elem", "(internal/reflectlite.Value).Set"], unfollowed := true, recurses := true, named := ["millrace/millraceref.Fine", "errors.errorType"], apart := false, laid := [("errors.errorType", laid_errors_errorType), ("millrace/millraceref.Fine", laid_millrace_millraceref_Fine)] }
def BucketOneSaid : Prop := bucketOneRow.holds Tryd.pinned (OpenSpec.ofChange bucketOneSpec)

/-- ITS FALSE NEIGHBOUR: 'it returns false'. Refute it at one input. -/
def bucketOneWrong : ChangeSpec := { name := "bucketOne", fn := fun _ => fun
  | [d1, d2, d3] => { results := [.lit (.bool false)], args := [d1, d2, d3] }
  | _ => none }
def BucketOneWrongFalsely : Prop := bucketOneRow.holds Tryd.pinned (OpenSpec.ofChange bucketOneWrong)

/-- 'millracelaw.BucketConforms': WHATEVER THE INPUT: true; the input reads as it did. -/
def bucketConformsSpec : ChangeSpec := { name := "bucketConforms", fn := fun _ => fun
  | [d1, d2] => { results := [.lit (.bool true)], args := [d1, d2] }
  | _ => none }
def bucketConformsRow : OpenClaim := { program := "ytogmjjaoflaogaadoor", sum := "6e24649f022a5499c8e82e68fb99a4ad34c28cabb4ad4d1ca2b46a095d259f1b", func := "millrace/millracelaw.BucketConforms", spec := "bucketConforms", inPlace := ["internal/reflectlite.ValueOf", "(internal/reflectlite.Value).Type", "(internal/reflectlite.Value).IsNil", "internal/reflectlite.TypeOf", "(internal/reflectlite.Value).Elem", "(internal/reflectlite.Value).Set"], unfollowed := true, recurses := true, named := ["millrace/millraceref.Fine", "errors.errorType"], apart := false, laid := [("errors.errorType", laid_errors_errorType), ("millrace/millraceref.Fine", laid_millrace_millraceref_Fine)] }
def BucketConformsSaid : Prop := bucketConformsRow.holds Tryd.pinned (OpenSpec.ofChange bucketConformsSpec)

/-- ITS FALSE NEIGHBOUR: 'it returns false'. Refute it at one input. -/
def bucketConformsWrong : ChangeSpec := { name := "bucketConforms", fn := fun _ => fun
  | [d1, d2] => { results := [.lit (.bool false)], args := [d1, d2] }
  | _ => none }
def BucketConformsWrongFalsely : Prop := bucketConformsRow.holds Tryd.pinned (OpenSpec.ofChange bucketConformsWrong)

/-- 'millracelaw.BucketTwo': WHATEVER THE INPUT: true; the input reads as it did. -/
def bucketTwoSpec : ChangeSpec := { name := "bucketTwo", fn := fun _ => fun
  | [d1, d2, d3] => { results := [.lit (.bool true)], args := [d1, d2, d3] }
  | _ => none }
def bucketTwoRow : OpenClaim := { program := "ytogmjjaoflaogaadoor", sum := "6e24649f022a5499c8e82e68fb99a4ad34c28cabb4ad4d1ca2b46a095d259f1b", func := "millrace/millracelaw.BucketTwo", spec := "bucketTwo", inPlace := ["internal/reflectlite.ValueOf", "(internal/reflectlite.Value).Type", "(internal/reflectlite.Value).IsNil", "internal/reflectlite.TypeOf", "(internal/reflectlite.Value).Elem", "(internal/reflectlite.Value).Set"], unfollowed := true, recurses := true, named := ["millrace/millraceref.Fine", "errors.errorType"], apart := false, laid := [("errors.errorType", laid_errors_errorType), ("millrace/millraceref.Fine", laid_millrace_millraceref_Fine)] }
def BucketTwoSaid : Prop := bucketTwoRow.holds Tryd.pinned (OpenSpec.ofChange bucketTwoSpec)

/-- ITS FALSE NEIGHBOUR: 'it returns false'. Refute it at one input. -/
def bucketTwoWrong : ChangeSpec := { name := "bucketTwo", fn := fun _ => fun
  | [d1, d2, d3] => { results := [.lit (.bool false)], args := [d1, d2, d3] }
  | _ => none }
def BucketTwoWrongFalsely : Prop := bucketTwoRow.holds Tryd.pinned (OpenSpec.ofChange bucketTwoWrong)

/-- 'millracelaw.ActionDoes': WHATEVER THE INPUT: true; the input reads as it did. -/
def actionDoesSpec : ChangeSpec := { name := "actionDoes", fn := fun _ => fun
  | [d1, d2, d3] => { results := [.lit (.bool true)], args := [d1, d2, d3] }
  | _ => none }
def actionDoesRow : OpenClaim := { program := "ytogmjjaoflaogaadoor", sum := "6e24649f022a5499c8e82e68fb99a4ad34c28cabb4ad4d1ca2b46a095d259f1b", func := "millrace/millracelaw.ActionDoes", spec := "actionDoes", inPlace := ["internal/reflectlite.ValueOf", "(internal/reflectlite.Value).Type", "(internal/reflectlite.Value).IsNil", "internal/reflectlite.TypeOf", "(internal/reflectlite.Value).Elem", "(internal/reflectlite.Value).Set"], unfollowed := true, recurses := true, named := ["millrace/millraceref.Fine", "errors.errorType"], apart := false, laid := [("errors.errorType", laid_errors_errorType), ("millrace/millraceref.Fine", laid_millrace_millraceref_Fine)] }
def ActionDoesSaid : Prop := actionDoesRow.holds Tryd.pinned (OpenSpec.ofChange actionDoesSpec)

/-- ITS FALSE NEIGHBOUR: 'it returns false'. Refute it at one input. -/
def actionDoesWrong : ChangeSpec := { name := "actionDoes", fn := fun _ => fun
  | [d1, d2, d3] => { results := [.lit (.bool false)], args := [d1, d2, d3] }
  | _ => none }
def ActionDoesWrongFalsely : Prop := actionDoesRow.holds Tryd.pinned (OpenSpec.ofChange actionDoesWrong)

/- THE SECOND FORM. 'bulk': how many values and letters a reading holds, each counted each time it is reached (what is shared counts as often as it is met; a slice's spare places count too). A statement '..UptoSaid' is the law's where the arguments, and the package variables that the reading takes, are together of bulk at most 1048576: NARROWER than '..Said'. Prove '..Said' where nothing that the law and all that it calls make is longer than what came in: it says more and counts as full. Else prove '..UptoSaid'. A law counts once. -/
mutual
def uptoBulk {H : Type} : DataW H → Nat
  | .lit (.string bytes) => bytes.length + 1
  | .lit _ => 1
  | .nil => 1
  | .ptr d => uptoBulk d + 1
  | .slice elems spare => uptoBulkAll elems + uptoBulkAll spare + 1
  | .agg parts => uptoBulkAll parts + 1
  | .iface _ d => uptoBulk d + 1
  | .map entries => uptoBulkEntries entries + 1
  | .held _ => 1
def uptoBulkAll {H : Type} : List (DataW H) → Nat
  | [] => 0
  | d :: r => uptoBulk d + uptoBulkAll r
def uptoBulkEntries {H : Type} : List (Lit × DataW H) → Nat
  | [] => 0
  | x :: r => uptoBulkEntry x + uptoBulkEntries r
def uptoBulkEntry {H : Type} : Lit × DataW H → Nat
  | (.string bytes, d) => bytes.length + uptoBulk d + 1
  | (_, d) => uptoBulk d + 1
 end
def uptoSmall : (H : Type) → List (DataW H) → Bool := fun _ ds => decide (uptoBulkAll ds ≤ 1048576)
def OpenSpec.upto (s : _root_.Go.ChangeSpec) : _root_.Go.OpenSpec := { _root_.Go.OpenSpec.ofChange s with cond := some uptoSmall }

/-- 'millracelaw.BucketCells', WHERE WHAT IT READS IS OF BULK AT MOST 1048576: true; the input reads as it did. -/
def bucketCellsUptoRow : OpenClaim := { program := "ytogmjjaoflaogaadoor", sum := "6e24649f022a5499c8e82e68fb99a4ad34c28cabb4ad4d1ca2b46a095d259f1b", func := "millrace/millracelaw.BucketCells", spec := "bucketCells", inPlace := ["internal/reflectlite.ValueOf", "(internal/reflectlite.Value).Type", "(internal/reflectlite.Value).IsNil", "internal/reflectlite.TypeOf", "(internal/reflectlite.Value).Elem", "(internal/reflectlite.Value).Set"], unfollowed := true, recurses := true, named := ["millrace/millraceref.Fine", "errors.errorType"], apart := false, laid := [("errors.errorType", laid_errors_errorType), ("millrace/millraceref.Fine", laid_millrace_millraceref_Fine)], narrowed := true }
def BucketCellsUptoSaid : Prop := bucketCellsUptoRow.holds Tryd.pinned (OpenSpec.upto bucketCellsSpec)

/-- 'millracelaw.BucketOne', WHERE WHAT IT READS IS OF BULK AT MOST 1048576: true; the input reads as it did. -/
def bucketOneUptoRow : OpenClaim := { program := "ytogmjjaoflaogaadoor", sum := "6e24649f022a5499c8e82e68fb99a4ad34c28cabb4ad4d1ca2b46a095d259f1b", func := "millrace/millracelaw.BucketOne", spec := "bucketOne", inPlace := ["internal/reflectlite.ValueOf", "(internal/reflectlite.Value).Type", "(internal/reflectlite.Value).IsNil", "internal/reflectlite.TypeOf", "(internal/reflectlite.Value).Elem", "(internal/reflectlite.Value).Set"], unfollowed := true, recurses := true, named := ["millrace/millraceref.Fine", "errors.errorType"], apart := false, laid := [("errors.errorType", laid_errors_errorType), ("millrace/millraceref.Fine", laid_millrace_millraceref_Fine)], narrowed := true }
def BucketOneUptoSaid : Prop := bucketOneUptoRow.holds Tryd.pinned (OpenSpec.upto bucketOneSpec)

/-- 'millracelaw.BucketConforms', WHERE WHAT IT READS IS OF BULK AT MOST 1048576: true; the input reads as it did. -/
def bucketConformsUptoRow : OpenClaim := { program := "ytogmjjaoflaogaadoor", sum := "6e24649f022a5499c8e82e68fb99a4ad34c28cabb4ad4d1ca2b46a095d259f1b", func := "millrace/millracelaw.BucketConforms", spec := "bucketConforms", inPlace := ["internal/reflectlite.ValueOf", "(internal/reflectlite.Value).Type", "(internal/reflectlite.Value).IsNil", "internal/reflectlite.TypeOf", "(internal/reflectlite.Value).Elem", "(internal/reflectlite.Value).Set"], unfollowed := true, recurses := true, named := ["millrace/millraceref.Fine", "errors.errorType"], apart := false, laid := [("errors.errorType", laid_errors_errorType), ("millrace/millraceref.Fine", laid_millrace_millraceref_Fine)], narrowed := true }
def BucketConformsUptoSaid : Prop := bucketConformsUptoRow.holds Tryd.pinned (OpenSpec.upto bucketConformsSpec)

/-- 'millracelaw.BucketTwo', WHERE WHAT IT READS IS OF BULK AT MOST 1048576: true; the input reads as it did. -/
def bucketTwoUptoRow : OpenClaim := { program := "ytogmjjaoflaogaadoor", sum := "6e24649f022a5499c8e82e68fb99a4ad34c28cabb4ad4d1ca2b46a095d259f1b", func := "millrace/millracelaw.BucketTwo", spec := "bucketTwo", inPlace := ["internal/reflectlite.ValueOf", "(internal/reflectlite.Value).Type", "(internal/reflectlite.Value).IsNil", "internal/reflectlite.TypeOf", "(internal/reflectlite.Value).Elem", "(internal/reflectlite.Value).Set"], unfollowed := true, recurses := true, named := ["millrace/millraceref.Fine", "errors.errorType"], apart := false, laid := [("errors.errorType", laid_errors_errorType), ("millrace/millraceref.Fine", laid_millrace_millraceref_Fine)], narrowed := true }
def BucketTwoUptoSaid : Prop := bucketTwoUptoRow.holds Tryd.pinned (OpenSpec.upto bucketTwoSpec)

/-- 'millracelaw.ActionDoes', WHERE WHAT IT READS IS OF BULK AT MOST 1048576: true; the input reads as it did. -/
def actionDoesUptoRow : OpenClaim := { program := "ytogmjjaoflaogaadoor", sum := "6e24649f022a5499c8e82e68fb99a4ad34c28cabb4ad4d1ca2b46a095d259f1b", func := "millrace/millracelaw.ActionDoes", spec := "actionDoes", inPlace := ["internal/reflectlite.ValueOf", "(internal/reflectlite.Value).Type", "(internal/reflectlite.Value).IsNil", "internal/reflectlite.TypeOf", "(internal/reflectlite.Value).Elem", "(internal/reflectlite.Value).Set"], unfollowed := true, recurses := true, named := ["millrace/millraceref.Fine", "errors.errorType"], apart := false, laid := [("errors.errorType", laid_errors_errorType), ("millrace/millraceref.Fine", laid_millrace_millraceref_Fine)], narrowed := true }
def ActionDoesUptoSaid : Prop := actionDoesUptoRow.holds Tryd.pinned (OpenSpec.upto actionDoesSpec)

end Rows
end Go.Proofs.YtogmjjaoflaogaaDoor

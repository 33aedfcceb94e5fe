/-
  NARROWER THAN 'FOR EVERY INPUT', by the rows' own cells (each row's printed sentence says how): ShaperPlays: laid · HtbPlays: laid.
  DERIVED. THE GIVEN ROWS OF THIS SEAT. 2 by the template 'for every input the law returns true; each argument reads behind the call as it read before'; 0 by the template 'total and deterministic' (their statements: YtgifghbnpdanhaaGreatDoorTotals.lean).
  GIVEN WITH THE SEED: the statements are not yours to turn. If you find one false, say at which input.
  Laid BY PROGRAM, IN A SANDBOX (cutbox-rows.mjs): the forced cells as the released guide's own fill.sh prints them over the translation c91e58d9e72fe962… (all of the seat's roots in one cut). By AI agents, Wed Nov 11 2026. No macro, syntax, notation, axiom, sorry.
-/
import Derived.Test.YtgifghbnpdanhaaGreatDoorChecked
import GoSem.Claim
import GoSem.ClaimJoined
import GoSem.ClaimMapViews
import Derived.JoinedTies
import Derived.KernelRfl
namespace Go.Proofs.YtgifghbnpdanhaaGreatDoor
/- THE CELL 'sum', in the pinned program and in every row, IS THE sha256 OF THE DUMP (.gsa) THAT YtgifghbnpdanhaaGreatDoorProg.lean LOADS. Nothing in Lean hashes anything: it is a label: what it is worth is what the hold of that sum in a sandbox is worth. -/
noncomputable def Tryz.pinned : Pinned := { name := "ytgifghbnpdanhaagreatdoor", sum := "c91e58d9e72fe96273ef8b59c3efe18adf067fe4a76d0b33547c36b561ce7cf6", checked := Tryz.checked }
namespace Rows
def none {H : Type} : Left H := { results := [], args := [] }

/- WHAT THE LISTED PACKAGE-LEVEL VARIABLES READ AS WHEN THE CALL BEGINS. Each datum BY PROGRAM (the guide's laid-datum.mjs) off the statement by which the dump's own 'gosem.cut.vars' lays the variable. In a bare row this is a premise. The card (YtgifghbnpdanhaaGreatDoorCards.lean) ties it to the program's text. -/
def laid_errors_errorType {H : Type} : DataW H := .iface "internal/reflectlite.rtype" (.agg [.ptr (.lit (.string [101, 114, 114, 111, 114]))])
def laid_millrace_millraceref_Fine {H : Type} : DataW H := .agg [.lit (.int .i64 0), .lit (.int .i64 (-1))]

/-- 'millracelaw.ShaperPlays': WHATEVER THE INPUT: true; the input reads as it did. -/
def shaperPlaysSpec : ChangeSpec := { name := "shaperPlays", fn := fun _ => fun
  | [d1, d2, d3] => { results := [.lit (.bool true)], args := [d1, d2, d3] }
  | _ => none }
def shaperPlaysRow : OpenClaim := { program := "ytgifghbnpdanhaagreatdoor", sum := "c91e58d9e72fe96273ef8b59c3efe18adf067fe4a76d0b33547c36b561ce7cf6", func := "millrace/millracelaw.ShaperPlays", spec := "shaperPlays", inPlace := ["internal/reflectlite.ValueOf", "(internal/reflectlite.Value).Type", "(internal/reflectlite.Value).IsNil", "internal/reflectlite.TypeOf", "(internal/reflectlite.Value).Elem", "(internal/reflectlite.Value).Set"], unfollowed := true, recurses := true, named := ["errors.errorType"], apart := false, laid := [("errors.errorType", laid_errors_errorType)] }
def ShaperPlaysSaid : Prop := shaperPlaysRow.holds Tryz.pinned (OpenSpec.ofChange shaperPlaysSpec)

/-- ITS FALSE NEIGHBOUR: 'it returns false'. Refute it at one input. -/
def shaperPlaysWrong : ChangeSpec := { name := "shaperPlays", fn := fun _ => fun
  | [d1, d2, d3] => { results := [.lit (.bool false)], args := [d1, d2, d3] }
  | _ => none }
def ShaperPlaysWrongFalsely : Prop := shaperPlaysRow.holds Tryz.pinned (OpenSpec.ofChange shaperPlaysWrong)

/-- 'millracelaw.HtbPlays': WHATEVER THE INPUT: true; the input reads as it did. -/
def htbPlaysSpec : ChangeSpec := { name := "htbPlays", fn := fun _ => fun
  | [d1, d2, d3] => { results := [.lit (.bool true)], args := [d1, d2, d3] }
  | _ => none }
def htbPlaysRow : OpenClaim := { program := "ytgifghbnpdanhaagreatdoor", sum := "c91e58d9e72fe96273ef8b59c3efe18adf067fe4a76d0b33547c36b561ce7cf6", func := "millrace/millracelaw.HtbPlays", spec := "htbPlays", inPlace := ["internal/reflectlite.ValueOf", "(internal/reflectlite.Value).Type", "(internal/reflectlite.Value).IsNil", "internal/reflectlite.TypeOf", "(internal/reflectlite.Value).Elem", "(internal/reflectlite.Value).Set"], unfollowed := true, recurses := true, named := ["millrace/millraceref.Fine", "errors.errorType"], apart := false, laid := [("errors.errorType", laid_errors_errorType), ("millrace/millraceref.Fine", laid_millrace_millraceref_Fine)] }
def HtbPlaysSaid : Prop := htbPlaysRow.holds Tryz.pinned (OpenSpec.ofChange htbPlaysSpec)

/-- ITS FALSE NEIGHBOUR: 'it returns false'. Refute it at one input. -/
def htbPlaysWrong : ChangeSpec := { name := "htbPlays", fn := fun _ => fun
  | [d1, d2, d3] => { results := [.lit (.bool false)], args := [d1, d2, d3] }
  | _ => none }
def HtbPlaysWrongFalsely : Prop := htbPlaysRow.holds Tryz.pinned (OpenSpec.ofChange htbPlaysWrong)

/- THE SECOND FORM. 'bulk': how many values and letters a reading holds, each counted each time it is reached (what is shared counts as often as it is met; a slice's spare places count too). A statement '..UptoSaid' is the law's where the arguments, and the package variables that the reading takes, are together of bulk at most 1048576: NARROWER than '..Said'. Prove '..Said' where nothing that the law and all that it calls make is longer than what came in: it says more and counts as full. Else prove '..UptoSaid'. A law counts once. -/
mutual
def uptoBulk {H : Type} : DataW H → Nat
  | .lit (.string bytes) => bytes.length + 1
  | .lit _ => 1
  | .nil => 1
  | .ptr d => uptoBulk d + 1
  | .slice elems spare => uptoBulkAll elems + uptoBulkAll spare + 1
  | .agg parts => uptoBulkAll parts + 1
  | .iface _ d => uptoBulk d + 1
  | .map entries => uptoBulkEntries entries + 1
  | .held _ => 1
def uptoBulkAll {H : Type} : List (DataW H) → Nat
  | [] => 0
  | d :: r => uptoBulk d + uptoBulkAll r
def uptoBulkEntries {H : Type} : List (Lit × DataW H) → Nat
  | [] => 0
  | x :: r => uptoBulkEntry x + uptoBulkEntries r
def uptoBulkEntry {H : Type} : Lit × DataW H → Nat
  | (.string bytes, d) => bytes.length + uptoBulk d + 1
  | (_, d) => uptoBulk d + 1
 end
def uptoSmall : (H : Type) → List (DataW H) → Bool := fun _ ds => decide (uptoBulkAll ds ≤ 1048576)
def OpenSpec.upto (s : _root_.Go.ChangeSpec) : _root_.Go.OpenSpec := { _root_.Go.OpenSpec.ofChange s with cond := some uptoSmall }

/-- 'millracelaw.ShaperPlays', WHERE WHAT IT READS IS OF BULK AT MOST 1048576: true; the input reads as it did. -/
def shaperPlaysUptoRow : OpenClaim := { program := "ytgifghbnpdanhaagreatdoor", sum := "c91e58d9e72fe96273ef8b59c3efe18adf067fe4a76d0b33547c36b561ce7cf6", func := "millrace/millracelaw.ShaperPlays", spec := "shaperPlays", inPlace := ["internal/reflectlite.ValueOf", "(internal/reflectlite.Value).Type", "(internal/reflectlite.Value).IsNil", "internal/reflectlite.TypeOf", "(internal/reflectlite.Value).Elem", "(internal/reflectlite.Value).Set"], unfollowed := true, recurses := true, named := ["errors.errorType"], apart := false, laid := [("errors.errorType", laid_errors_errorType)], narrowed := true }
def ShaperPlaysUptoSaid : Prop := shaperPlaysUptoRow.holds Tryz.pinned (OpenSpec.upto shaperPlaysSpec)

/-- 'millracelaw.HtbPlays', WHERE WHAT IT READS IS OF BULK AT MOST 1048576: true; the input reads as it did. -/
def htbPlaysUptoRow : OpenClaim := { program := "ytgifghbnpdanhaagreatdoor", sum := "c91e58d9e72fe96273ef8b59c3efe18adf067fe4a76d0b33547c36b561ce7cf6", func := "millrace/millracelaw.HtbPlays", spec := "htbPlays", inPlace := ["internal/reflectlite.ValueOf", "(internal/reflectlite.Value).Type", "(internal/reflectlite.Value).IsNil", "internal/reflectlite.TypeOf", "(internal/reflectlite.Value).Elem", "(internal/reflectlite.Value).Set"], unfollowed := true, recurses := true, named := ["millrace/millraceref.Fine", "errors.errorType"], apart := false, laid := [("errors.errorType", laid_errors_errorType), ("millrace/millraceref.Fine", laid_millrace_millraceref_Fine)], narrowed := true }
def HtbPlaysUptoSaid : Prop := htbPlaysUptoRow.holds Tryz.pinned (OpenSpec.upto htbPlaysSpec)

end Rows
end Go.Proofs.YtgifghbnpdanhaaGreatDoor

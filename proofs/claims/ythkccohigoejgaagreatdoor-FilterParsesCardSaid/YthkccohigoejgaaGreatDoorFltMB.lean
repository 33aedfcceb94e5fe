/-
  The program's Meant, walked.
-/
import Derived.Test.YthkccohigoejgaaGreatDoorFltMA
import Derived.Test.YthkccohigoejgaaGreatDoorFltV
import Derived.Test.YthkccohigoejgaaGreatDoorMeth
import Derived.BigGuardPart
import Derived.BigQuiet
import Derived.Deep.DeepCutAuto
namespace Go.Proofs.YthkccohigoejgaaGreatDoor
open Go Go.RowKit

/-- Block q holds these cells. -/
def HB (w : World) (q : Nat) (cs : Array Value) (ty : TypeId) : Prop := w.heap[q]? = some (.cells cs ty (0, 0))
theorem HB.gr {w w' : World} {q : Nat} {cs : Array Value} {ty : TypeId} (h : HB w q cs ty) (g : Gr w w') : HB w' q cs ty := (g.block (Array.getElem?_eq_some_iff.1 h).1).trans h
theorem HB.c {w : World} {q : Nat} {cs : Array Value} {ty : TypeId} (h : HB w q cs ty) (j : Nat) {v : Value} (hv : cs[j]? = some v) : w.cell? ⟨q, j, none⟩ = some v := by
  have e := (cell_of_row w q j cs ty (0, 0) h)
  rw [e]; exact hv
theorem HB.new (w : World) (cs : Array Value) (ty : TypeId) : HB (w.alloc (.cells cs ty)) w.heap.size cs ty := heap_alloc_new w _
theorem HB.lt {w : World} {q : Nat} {cs : Array Value} {ty : TypeId} (h : HB w q cs ty) : q < w.heap.size := (Array.getElem?_eq_some_iff.1 h).1
end Go.Proofs.YthkccohigoejgaaGreatDoor

/-
  A method behind an interface value.
-/
import Derived.Test.YthkccohigoejgaaGreatDoorFltE
namespace Go.Proofs.YthkccohigoejgaaGreatDoor
open Go Go.RowKit

/-- The method's function and its receiver, behind an interface value. -/
def Meth (q : Value) (name : String) (f : FuncId) (r : Value) : Prop := ∀ (args : Array Value) (w : World), (callMethod q name args).run Tryz.prog w = .ok (.enter f (#[r] ++ args)) w
theorem wpList_here (name : String) {P : Program} {ops : Array Oper} {rest : List Oper} {a : Act} {Q : Exit → Act → World → Prop} {w : World} {d : Option Tmp} {x : Operand} {xs : Array Operand} {ts : Array TypeId} {ty : TypeId} {p : String} {af : Array Edge}
    (h : wpList P ops Q ({ dst := d, op := .call { callee := .invoke x name, args := xs, argTypes := ts }, type := ty, pos := p, after := af, guard := none } :: rest) a w) : wpList P ops Q ({ dst := d, op := .call { callee := .invoke x name, args := xs, argTypes := ts }, type := ty, pos := p, after := af, guard := none } :: rest) a w := h
/-- A call through an interface value, at the walk. -/
theorem wpList_invoke {ops : Array Oper} {rest : List Oper} {o : Oper} {a : Act} {Q : Exit → Act → World → Prop} {w : World} {q r : Value} {name : String} {f : FuncId} {ys : List Value} {R : Ending → World → Prop} (hm : Meth q name f r) (hgd : o.guard = none) (x : Operand) (xs : Array Operand) (ts : Array TypeId)
    (ho : o.op = .call { callee := .invoke x name, args := xs, argTypes := ts }) (hq : a.eval x = q) (hys : xs.toList.map a.eval = ys) (hc : Calls Tryz.prog f (r :: ys).toArray w R)
    (hK : ∀ e w', R e w' → ∃ v, e = .returned v ∧ wpList Tryz.prog ops Q rest (a.put o.dst v) w') : wpList Tryz.prog ops Q (o :: rest) a w := by
  refine wpList_plain hgd fun K hK' => ?_
  have hrun : (execOp a.eval o).run Tryz.prog w = .ok (.enter f (r :: ys).toArray) w := by
    have h := hm (xs.map a.eval) w
    have e0 : #[r] ++ xs.map a.eval = (r :: ys).toArray := by
      apply Array.toList_inj.1
      rw [← hys]
      simp
    rw [e0] at h
    have e1 : (#[q] ++ xs.map a.eval)[0]? = some q := by rw [Array.getElem?_append_left (by simp)]; rfl
    have e2 : (#[q] ++ xs.map a.eval).extract 1 (#[q] ++ xs.map a.eval).size = xs.map a.eval := by simp
    simp only [execOp, ho, resolve, hq]
    show (do
      let some recv := (#[q] ++ xs.map a.eval)[0]? | stuck "call: a method without a receiver"
      callMethod recv name ((#[q] ++ xs.map a.eval).extract 1 (#[q] ++ xs.map a.eval).size)).run Tryz.prog w = _
    rw [e1, e2]
    exact h
  unfold Oper.wp
  rw [hrun]
  show Calls Tryz.prog f (r :: ys).toArray w _
  refine hc.mono ?_
  intro e w' h
  obtain ⟨v, rfl, h2⟩ := hK e w' h
  exact hK' _ _ h2
section
variable {ev : Operand → Value} {o : Oper} {w : World} {x y : Operand}
/-- Such a call with one argument, as an operation. -/
theorem inv1_run {q r u : Value} {name : String} {f : FuncId} {ty : TypeId} (hm : Meth q name f r) (ho : o.op = .call { callee := .invoke x name, args := #[y], argTypes := #[ty] }) (h : ev x = q) (k : ev y = u) : (execOp ev o).run Tryz.prog w = .ok (.enter f #[r, u]) w := by
  have hh := hm #[u] w
  simpa [execOp, ho, h, k, resolve, invoke] using hh
end
end Go.Proofs.YthkccohigoejgaaGreatDoor

/-
  What single operations yield.
-/
import Derived.Test.YtlaoapdgkkgmhaaDoorRegInt
namespace Go.Proofs.YtlaoapdgkkgmhaaDoor
open Go.RowKit

section
variable {ev : Operand → Value} {o : Oper} {w : World} {x : Operand} {u : Value}
theorem r_move (ho : o.op = .move x) (h : ev x = u) : (execOp ev o).run Tryd.prog w = .ok (.value u) w := by
  simp [execOp, ho, h, go_sem]
theorem r_nil {ad : Addr} (ho : o.op = .nilCheck x) (h : ev x = .pointer (some ad)) : (execOp ev o).run Tryd.prog w = .ok (.value (.pointer (some ad))) w := by
  simp [execOp, ho, h, go_sem]
theorem r_rat0 {p : Nat} (ho : o.op = .fieldAddr 57 x 0) (h : ev x = .pointer (some ⟨p, 0, none⟩)) : (execOp ev o).run Tryd.prog w = .ok (.value (.pointer (some ⟨p, 0, none⟩))) w := by
  simp [execOp, ho, h, go_sem]
theorem r_rat1 {p : Nat} (ho : o.op = .fieldAddr 57 x 1) (h : ev x = .pointer (some ⟨p, 0, none⟩)) : (execOp ev o).run Tryd.prog w = .ok (.value (.pointer (some ⟨p, 2, none⟩))) w := by
  simp [execOp, ho, h, go_sem]
theorem r_alloc (ho : o.op = .alloc 55) : (execOp ev o).run Tryd.prog w = .ok (.value (.pointer (some ⟨w.heap.size, 0, none⟩))) (w.alloc (.cells #[.bool false, .slice none 0 0] 55)) := by
  simp [execOp, ho, go_sem]
theorem r_call1 {f : FuncId} {a : TypeId} {y : Operand} {v1 : Value} (ho : o.op = .call { callee := .value (.func f), args := #[y], argTypes := #[a] }) (hf : ev (.func f) = .func (.func f) #[] #[]) (hcf : ∀ args w, (callFunc f args).run Tryd.prog w = .ok (.enter f args) w) (h1 : ev y = v1) : (execOp ev o).run Tryd.prog w = .ok (.enter f #[v1]) w := by
  simp [execOp, ho, h1, hf, hcf, go_sem]
theorem r_call3 {f : FuncId} {t1 t2 t3 : TypeId} {y1 y2 y3 : Operand} {v1 v2 v3 : Value} (ho : o.op = .call { callee := .value (.func f), args := #[y1, y2, y3], argTypes := #[t1, t2, t3] }) (hf : ev (.func f) = .func (.func f) #[] #[]) (hcf : ∀ args w, (callFunc f args).run Tryd.prog w = .ok (.enter f args) w) (h1 : ev y1 = v1) (h2 : ev y2 = v2) (h3 : ev y3 = v3) : (execOp ev o).run Tryd.prog w = .ok (.enter f #[v1, v2, v3]) w := by
  simp [execOp, ho, h1, h2, h3, hf, hcf, go_sem]
end
theorem cf_den (args : Array Value) (w : World) : (callFunc 40 args).run Tryd.prog w = .ok (.enter 40 args) w := by kernel_rfl
theorem cf_mul (args : Array Value) (w : World) : (callFunc 39 args).run Tryd.prog w = .ok (.enter 39 args) w := by kernel_rfl
end Go.Proofs.YtlaoapdgkkgmhaaDoor

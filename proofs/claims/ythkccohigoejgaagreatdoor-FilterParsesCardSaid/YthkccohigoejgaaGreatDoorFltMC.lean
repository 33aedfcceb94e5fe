/-
  The program's several, and Meant of any filter.
-/
import Derived.Test.YthkccohigoejgaaGreatDoorFltMB
import Derived.Test.YthkccohigoejgaaGreatDoorRegL
namespace Go.Proofs.YthkccohigoejgaaGreatDoor
open Go Go.RowKit

section
variable {ev : Operand → Value} {o : Oper} {w : World} {x y : Operand} {u : Value}
theorem m_move (ho : o.op = .move x) (h : ev x = u) : (execOp ev o).run Tryz.prog w = .ok (.value u) w := by simp [execOp, ho, h, go_sem]
theorem m_item {q : Nat} {X : Itm} (ho : o.op = .load 188 x) (h : ev x = .pointer (some ⟨q, 0, none⟩)) (hb : HB w q #[.int .i64 X.t, .int .i64 X.len, .int .i64 X.flow, .int .i64 X.band, .int .i64 X.mark] 188) : (execOp ev o).run Tryz.prog w = .ok (.value (.agg #[.int .i64 X.t, .int .i64 X.len, .int .i64 X.flow, .int .i64 X.band, .int .i64 X.mark])) w := by
  have d0 := hb.c 0 (v := .int .i64 X.t) rfl
  have d1 := hb.c 1 (v := .int .i64 X.len) rfl
  have d2 := hb.c 2 (v := .int .i64 X.flow) rfl
  have d3 := hb.c 3 (v := .int .i64 X.band) rfl
  have d4 := hb.c 4 (v := .int .i64 X.mark) rfl
  simp [execOp, ho, h, d0, d1, d2, d3, d4, go_sem]
theorem m_fa1 {q : Nat} (ho : o.op = .fieldAddr 83 x 1) (h : ev x = .pointer (some ⟨q, 0, none⟩)) : (execOp ev o).run Tryz.prog w = .ok (.value (.pointer (some ⟨q, 1, none⟩))) w := by simp [execOp, ho, h, go_sem]
theorem m_loadB {ad : Addr} {b : Bool} (ho : o.op = .load 4 x) (h : ev x = .pointer (some ad)) (hc : w.cell? ad = some (.bool b)) : (execOp ev o).run Tryz.prog w = .ok (.value (.bool b)) w := by simp [execOp, ho, h, hc, go_sem]
theorem m_eqlB {b c : Bool} (ho : o.op = .binOp .eql 4 x y 4) (h : ev x = .bool b) (k : ev y = .bool c) : (execOp ev o).run Tryz.prog w = .ok (.value (.bool (b == c))) w := by simp [execOp, ho, h, k, go_sem]
theorem m_notB {b : Bool} (ho : o.op = .unOp .not 4 x) (h : ev x = .bool b) : (execOp ev o).run Tryz.prog w = .ok (.value (.bool (!b))) w := by simp [execOp, ho, h, go_sem]
end
end Go.Proofs.YthkccohigoejgaaGreatDoor

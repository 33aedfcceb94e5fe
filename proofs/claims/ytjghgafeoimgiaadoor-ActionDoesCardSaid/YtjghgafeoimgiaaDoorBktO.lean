/-
  Single operations over buckets. (Printed by genbkt.py.)
-/
import Derived.Test.YtjghgafeoimgiaaDoorRegOps
import Derived.Test.YtjghgafeoimgiaaDoorBigV
import Derived.Test.YtjghgafeoimgiaaDoorBktP
namespace Go.Proofs.YtjghgafeoimgiaaDoor
open Go.RowKit

section
variable {ev : Operand → Value} {o : Oper} {w : World} {x y : Operand} {u : Value}
theorem r_fa_millraceref_Filled_0 {p o' : Nat} (ho : o.op = .fieldAddr 82 x 0) (h : ev x = .pointer (some ⟨p, o', none⟩)) : (execOp ev o).run Tryd.prog w = .ok (.value (.pointer (some ⟨p, o', none⟩))) w := by
  simp [execOp, ho, h, go_sem]
theorem r_fa_millraceref_Filled_1 {p o' : Nat} (ho : o.op = .fieldAddr 82 x 1) (h : ev x = .pointer (some ⟨p, o', none⟩)) : (execOp ev o).run Tryd.prog w = .ok (.value (.pointer (some ⟨p, o' + 3, none⟩))) w := by
  simp [execOp, ho, h, go_sem]
theorem r_fa_millraceref_Filled_2 {p o' : Nat} (ho : o.op = .fieldAddr 82 x 2) (h : ev x = .pointer (some ⟨p, o', none⟩)) : (execOp ev o).run Tryd.prog w = .ok (.value (.pointer (some ⟨p, o' + 4, none⟩))) w := by
  simp [execOp, ho, h, go_sem]
theorem r_fa_millraceref_Bucket_0 {p o' : Nat} (ho : o.op = .fieldAddr 33 x 0) (h : ev x = .pointer (some ⟨p, o', none⟩)) : (execOp ev o).run Tryd.prog w = .ok (.value (.pointer (some ⟨p, o', none⟩))) w := by
  simp [execOp, ho, h, go_sem]
theorem r_fa_millraceref_Bucket_1 {p o' : Nat} (ho : o.op = .fieldAddr 33 x 1) (h : ev x = .pointer (some ⟨p, o', none⟩)) : (execOp ev o).run Tryd.prog w = .ok (.value (.pointer (some ⟨p, o' + 2, none⟩))) w := by
  simp [execOp, ho, h, go_sem]
theorem r_fa_api_Rate_0 {p o' : Nat} (ho : o.op = .fieldAddr 31 x 0) (h : ev x = .pointer (some ⟨p, o', none⟩)) : (execOp ev o).run Tryd.prog w = .ok (.value (.pointer (some ⟨p, o', none⟩))) w := by
  simp [execOp, ho, h, go_sem]
theorem r_fa_api_Rate_1 {p o' : Nat} (ho : o.op = .fieldAddr 31 x 1) (h : ev x = .pointer (some ⟨p, o', none⟩)) : (execOp ev o).run Tryd.prog w = .ok (.value (.pointer (some ⟨p, o' + 1, none⟩))) w := by
  simp [execOp, ho, h, go_sem]
theorem r_loadI {ad : Addr} {n : Int} (ho : o.op = .load 3 x) (h : ev x = .pointer (some ad)) (hc : w.cell? ad = some (.int .i64 n)) : (execOp ev o).run Tryd.prog w = .ok (.value (.int .i64 n)) w := by
  simp [execOp, ho, h, hc, go_sem]
theorem r_loadRat {ad : Addr} {g : Nat} (ho : o.op = .load 79 x) (h : ev x = .pointer (some ad)) (hc : w.cell? ad = some (.pointer (some ⟨g, 0, none⟩))) : (execOp ev o).run Tryd.prog w = .ok (.value (.pointer (some ⟨g, 0, none⟩))) w := by
  simp [execOp, ho, h, hc, go_sem]
theorem r_loadRate {p q : Nat} {a b : Int} (ho : o.op = .load 31 x) (h : ev x = .pointer (some ⟨p, q, none⟩)) (hc : w.cell? ⟨p, q, none⟩ = some (.int .i64 a)) (hd : w.cell? ⟨p, q + 1, none⟩ = some (.int .i64 b)) : (execOp ev o).run Tryd.prog w = .ok (.value (.agg #[.int .i64 a, .int .i64 b])) w := by
  simp [execOp, ho, h, hc, hd, go_sem]
theorem r_sub {a b : Int} (ho : o.op = .binOp .sub 3 x y 3) (h : ev x = .int .i64 a) (k : ev y = .int .i64 b) (hb : -9223372036854775808 ≤ a - b ∧ a - b ≤ 9223372036854775807) : (execOp ev o).run Tryd.prog w = .ok (.value (.int .i64 (a - b))) w := by
  have hw : IntKind.i64.wrap (a - b) = a - b := by rw [IntKind.wrap_i64]; omega
  simp [execOp, ho, h, k, hw, go_sem]
end
theorem cfr_Int (args : Array Value) (w : World) : (callFunc 19 args).run Tryd.prog w = .ok (.enter 19 args) w := by kernel_rfl
theorem cfr_Speed (args : Array Value) (w : World) : (callFunc 39 args).run Tryd.prog w = .ok (.enter 39 args) w := by kernel_rfl
theorem cfr_mul (args : Array Value) (w : World) : (callFunc 38 args).run Tryd.prog w = .ok (.enter 38 args) w := by kernel_rfl
theorem cfr_add (args : Array Value) (w : World) : (callFunc 37 args).run Tryd.prog w = .ok (.enter 37 args) w := by kernel_rfl
theorem cfr_lesser (args : Array Value) (w : World) : (callFunc 36 args).run Tryd.prog w = .ok (.enter 36 args) w := by kernel_rfl
theorem cfr_sub (args : Array Value) (w : World) : (callFunc 31 args).run Tryd.prog w = .ok (.enter 31 args) w := by kernel_rfl
theorem cfr_rcmp (args : Array Value) (w : World) : (callFunc 30 args).run Tryd.prog w = .ok (.enter 30 args) w := by kernel_rfl
/-- A Rat's place. -/
def Fg.rat (x : Int) (T : Nat) : Fg := ⟨fun v w => ∃ g, v = .pointer (some ⟨g, 0, none⟩) ∧ RatV w g x T, fun _ _ _ ⟨g, h1, h2⟩ k => ⟨g, h1, h2.gr k⟩⟩
end Go.Proofs.YtjghgafeoimgiaaDoor

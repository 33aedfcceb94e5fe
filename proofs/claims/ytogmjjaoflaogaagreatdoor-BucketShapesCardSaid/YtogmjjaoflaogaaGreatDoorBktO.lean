/-
  Single operations over buckets. (Printed by genbkt.py.)
-/
import Derived.Test.YtogmjjaoflaogaaGreatDoorRegOps
import Derived.Test.YtogmjjaoflaogaaGreatDoorBigV
import Derived.Test.YtogmjjaoflaogaaGreatDoorBktP
namespace Go.Proofs.YtogmjjaoflaogaaGreatDoor
open Go.RowKit

section
variable {ev : Operand → Value} {o : Oper} {w : World} {x y : Operand} {u : Value}
theorem r_fa_millraceref_Filled_0 {p o' : Nat} (ho : o.op = .fieldAddr 70 x 0) (h : ev x = .pointer (some ⟨p, o', none⟩)) : (execOp ev o).run Tryz.prog w = .ok (.value (.pointer (some ⟨p, o', none⟩))) w := by
  simp [execOp, ho, h, go_sem]
theorem r_fa_millraceref_Filled_1 {p o' : Nat} (ho : o.op = .fieldAddr 70 x 1) (h : ev x = .pointer (some ⟨p, o', none⟩)) : (execOp ev o).run Tryz.prog w = .ok (.value (.pointer (some ⟨p, o' + 3, none⟩))) w := by
  simp [execOp, ho, h, go_sem]
theorem r_fa_millraceref_Filled_2 {p o' : Nat} (ho : o.op = .fieldAddr 70 x 2) (h : ev x = .pointer (some ⟨p, o', none⟩)) : (execOp ev o).run Tryz.prog w = .ok (.value (.pointer (some ⟨p, o' + 4, none⟩))) w := by
  simp [execOp, ho, h, go_sem]
theorem r_fa_millraceref_Bucket_0 {p o' : Nat} (ho : o.op = .fieldAddr 29 x 0) (h : ev x = .pointer (some ⟨p, o', none⟩)) : (execOp ev o).run Tryz.prog w = .ok (.value (.pointer (some ⟨p, o', none⟩))) w := by
  simp [execOp, ho, h, go_sem]
theorem r_fa_millraceref_Bucket_1 {p o' : Nat} (ho : o.op = .fieldAddr 29 x 1) (h : ev x = .pointer (some ⟨p, o', none⟩)) : (execOp ev o).run Tryz.prog w = .ok (.value (.pointer (some ⟨p, o' + 2, none⟩))) w := by
  simp [execOp, ho, h, go_sem]
theorem r_fa_api_Rate_0 {p o' : Nat} (ho : o.op = .fieldAddr 23 x 0) (h : ev x = .pointer (some ⟨p, o', none⟩)) : (execOp ev o).run Tryz.prog w = .ok (.value (.pointer (some ⟨p, o', none⟩))) w := by
  simp [execOp, ho, h, go_sem]
theorem r_fa_api_Rate_1 {p o' : Nat} (ho : o.op = .fieldAddr 23 x 1) (h : ev x = .pointer (some ⟨p, o', none⟩)) : (execOp ev o).run Tryz.prog w = .ok (.value (.pointer (some ⟨p, o' + 1, none⟩))) w := by
  simp [execOp, ho, h, go_sem]
theorem r_loadI {ad : Addr} {n : Int} (ho : o.op = .load 3 x) (h : ev x = .pointer (some ad)) (hc : w.cell? ad = some (.int .i64 n)) : (execOp ev o).run Tryz.prog w = .ok (.value (.int .i64 n)) w := by
  simp [execOp, ho, h, hc, go_sem]
theorem r_loadRat {ad : Addr} {g : Nat} (ho : o.op = .load 67 x) (h : ev x = .pointer (some ad)) (hc : w.cell? ad = some (.pointer (some ⟨g, 0, none⟩))) : (execOp ev o).run Tryz.prog w = .ok (.value (.pointer (some ⟨g, 0, none⟩))) w := by
  simp [execOp, ho, h, hc, go_sem]
theorem r_loadRate {p q : Nat} {a b : Int} (ho : o.op = .load 23 x) (h : ev x = .pointer (some ⟨p, q, none⟩)) (hc : w.cell? ⟨p, q, none⟩ = some (.int .i64 a)) (hd : w.cell? ⟨p, q + 1, none⟩ = some (.int .i64 b)) : (execOp ev o).run Tryz.prog w = .ok (.value (.agg #[.int .i64 a, .int .i64 b])) w := by
  simp [execOp, ho, h, hc, hd, go_sem]
theorem r_sub {a b : Int} (ho : o.op = .binOp .sub 3 x y 3) (h : ev x = .int .i64 a) (k : ev y = .int .i64 b) (hb : -9223372036854775808 ≤ a - b ∧ a - b ≤ 9223372036854775807) : (execOp ev o).run Tryz.prog w = .ok (.value (.int .i64 (a - b))) w := by
  have hw : IntKind.i64.wrap (a - b) = a - b := by rw [IntKind.wrap_i64]; omega
  simp [execOp, ho, h, k, hw, go_sem]
end
theorem cfr_Int (args : Array Value) (w : World) : (callFunc 28 args).run Tryz.prog w = .ok (.enter 28 args) w := by kernel_rfl
theorem cfr_Speed (args : Array Value) (w : World) : (callFunc 35 args).run Tryz.prog w = .ok (.enter 35 args) w := by kernel_rfl
theorem cfr_mul (args : Array Value) (w : World) : (callFunc 42 args).run Tryz.prog w = .ok (.enter 42 args) w := by kernel_rfl
theorem cfr_add (args : Array Value) (w : World) : (callFunc 41 args).run Tryz.prog w = .ok (.enter 41 args) w := by kernel_rfl
theorem cfr_lesser (args : Array Value) (w : World) : (callFunc 40 args).run Tryz.prog w = .ok (.enter 40 args) w := by kernel_rfl
theorem cfr_sub (args : Array Value) (w : World) : (callFunc 32 args).run Tryz.prog w = .ok (.enter 32 args) w := by kernel_rfl
theorem cfr_rcmp (args : Array Value) (w : World) : (callFunc 31 args).run Tryz.prog w = .ok (.enter 31 args) w := by kernel_rfl
/-- A Rat's place. -/
def Fg.rat (x : Int) (T : Nat) : Fg := ⟨fun v w => ∃ g, v = .pointer (some ⟨g, 0, none⟩) ∧ RatV w g x T, fun _ _ _ ⟨g, h1, h2⟩ k => ⟨g, h1, h2.gr k⟩⟩
end Go.Proofs.YtogmjjaoflaogaaGreatDoor

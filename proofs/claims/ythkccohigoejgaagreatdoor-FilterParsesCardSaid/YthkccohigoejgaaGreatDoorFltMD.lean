/-
  The reference's Meant, walked.
-/
import Derived.Test.YthkccohigoejgaaGreatDoorFltMC
import Derived.Test.YthkccohigoejgaaGreatDoorFltRH
import Derived.LoopTactic
namespace Go.Proofs.YthkccohigoejgaaGreatDoor
open Go Go.RowKit

/-- What a filter's block says of it. -/
def RK (S : Nat → Prop) (d : Nat) (w : World) (k : ByteArray) (i : Nat) (lo hi : Int) (kv : Value) : Flt → Prop
  | .any => k = kAny
  | .test j a c => k = kTest ∧ i = j ∧ lo = a ∧ hi = c
  | .has j a => k = kHas ∧ i = j ∧ lo = a ∧ 0 ≤ a ∧ a ≤ 1000000000
  | .not g => k = kNot ∧ ∃ u, PtRow w kv [u] ∧ RFl S d w u g
  | .many l o => k = andOr o ∧ ∃ vs, PtRow w kv vs ∧ vs.length = l.length ∧ 0 < l.length ∧ l.length ≤ 2001 ∧ ∀ i, i < l.length → RFl S d w (vs.getD i (.pointer none)) (l.getD i .any)
theorem RFl.head {S : Nat → Prop} {d : Nat} {w : World} {v : Value} {f : Flt} (h : RFl S (d + 1) w v f) : ∃ b k i lo hi kv, v = .pointer (some ⟨b, 0, none⟩) ∧ i < 5 ∧ RB w b k (i : Nat) lo hi kv ∧ RK S d w k i lo hi kv f := by
  obtain ⟨b, h1, h2, h3, h4⟩ := h
  cases f with
  | any => exact ⟨b, _, 0, _, _, _, h1, by decide, h4, rfl⟩
  | test i lo hi => exact ⟨b, _, i, _, _, _, h1, h4.2.1, h4.1, rfl, rfl, rfl, rfl⟩
  | has i lo => exact ⟨b, _, i, _, _, _, h1, h4.2.1, h4.1, rfl, rfl, rfl, h4.2.2⟩
  | not g =>
    obtain ⟨s, u, k1, k2, k3, k4⟩ := h4
    exact ⟨b, _, 0, _, _, _, h1, by decide, k1, rfl, u, k2, k4⟩
  | many l o =>
    obtain ⟨s, vs, k1, k2, k3, k4, k5, k6, k7⟩ := h4
    exact ⟨b, _, 0, _, _, _, h1, by decide, k1, rfl, vs, k2, k4, k5, k6, k7⟩
def Fg.five (x : Itm) : Fg := ⟨fun v u => ∃ g, v = .slice (some ⟨g, 0, none⟩) 5 5 ∧ HB u g #[.int .i64 x.t, .int .i64 x.len, .int .i64 x.flow, .int .i64 x.band, .int .i64 x.mark] 3, fun _ _ _ ⟨g, h1, h2⟩ k => ⟨g, h1, h2.gr k⟩⟩
def Fg.fiveA (x : Itm) (i : Nat) : Fg := ⟨fun v u => ∃ g, v = .pointer (some ⟨g, i, none⟩) ∧ HB u g #[.int .i64 x.t, .int .i64 x.len, .int .i64 x.flow, .int .i64 x.band, .int .i64 x.mark] 3, fun _ _ _ ⟨g, h1, h2⟩ k => ⟨g, h1, h2.gr k⟩⟩
theorem five_at (x : Itm) {i : Nat} (h : i < 5) : (#[.int .i64 x.t, .int .i64 x.len, .int .i64 x.flow, .int .i64 x.band, .int .i64 x.mark] : Array Value)[i]? = some (.int .i64 (x.fld i)) := by
  match i, h with
  | 0, _ => rfl
  | 1, _ => rfl
  | 2, _ => rfl
  | 3, _ => rfl
  | 4, _ => rfl
section
variable {ev : Operand → Value} {o : Oper} {w : World} {x y : Operand} {u : Value}
theorem n_fi0 {q : Nat} (ho : o.op = .fieldAddr 188 x 0) (h : ev x = .pointer (some ⟨q, 0, none⟩)) : (execOp ev o).run Tryz.prog w = .ok (.value (.pointer (some ⟨q, 0, none⟩))) w := by simp [execOp, ho, h, go_sem]
theorem n_fi1 {q : Nat} (ho : o.op = .fieldAddr 188 x 1) (h : ev x = .pointer (some ⟨q, 0, none⟩)) : (execOp ev o).run Tryz.prog w = .ok (.value (.pointer (some ⟨q, 1, none⟩))) w := by simp [execOp, ho, h, go_sem]
theorem n_fi2 {q : Nat} (ho : o.op = .fieldAddr 188 x 2) (h : ev x = .pointer (some ⟨q, 0, none⟩)) : (execOp ev o).run Tryz.prog w = .ok (.value (.pointer (some ⟨q, 2, none⟩))) w := by simp [execOp, ho, h, go_sem]
theorem n_fi3 {q : Nat} (ho : o.op = .fieldAddr 188 x 3) (h : ev x = .pointer (some ⟨q, 0, none⟩)) : (execOp ev o).run Tryz.prog w = .ok (.value (.pointer (some ⟨q, 3, none⟩))) w := by simp [execOp, ho, h, go_sem]
theorem n_fi4 {q : Nat} (ho : o.op = .fieldAddr 188 x 4) (h : ev x = .pointer (some ⟨q, 0, none⟩)) : (execOp ev o).run Tryz.prog w = .ok (.value (.pointer (some ⟨q, 4, none⟩))) w := by simp [execOp, ho, h, go_sem]
theorem n_nil {ad : Addr} (ho : o.op = .nilCheck x) (h : ev x = .pointer (some ad)) : (execOp ev o).run Tryz.prog w = .ok (.value (.pointer (some ad))) w := by simp [execOp, ho, h, go_sem]
theorem n_loadI {ad : Addr} {n : Int} (ho : o.op = .load 3 x) (h : ev x = .pointer (some ad)) (hc : w.cell? ad = some (.int .i64 n)) : (execOp ev o).run Tryz.prog w = .ok (.value (.int .i64 n)) w := by simp [execOp, ho, h, hc, go_sem]
theorem n_build {x0 x1 x2 x3 x4 : Operand} {a b c d e : Int} (ho : o.op = .buildSlice 47 5 #[(0, x0), (1, x1), (2, x2), (3, x3), (4, x4)]) (h0 : ev x0 = .int .i64 a) (h1 : ev x1 = .int .i64 b) (h2 : ev x2 = .int .i64 c) (h3 : ev x3 = .int .i64 d) (h4 : ev x4 = .int .i64 e) :
    (execOp ev o).run Tryz.prog w = .ok (.value (.slice (some ⟨w.heap.size, 0, none⟩) 5 5)) (w.alloc (.cells #[.int .i64 a, .int .i64 b, .int .i64 c, .int .i64 d, .int .i64 e] 3)) := by simp [execOp, ho, h0, h1, h2, h3, h4, go_sem]
theorem n_fa1 {q : Nat} (ho : o.op = .fieldAddr 56 x 1) (h : ev x = .pointer (some ⟨q, 0, none⟩)) : (execOp ev o).run Tryz.prog w = .ok (.value (.pointer (some ⟨q, 1, none⟩))) w := by simp [execOp, ho, h, go_sem]
theorem n_fa4 {q : Nat} (ho : o.op = .fieldAddr 56 x 4) (h : ev x = .pointer (some ⟨q, 0, none⟩)) : (execOp ev o).run Tryz.prog w = .ok (.value (.pointer (some ⟨q, 4, none⟩))) w := by simp [execOp, ho, h, go_sem]
theorem n_idx {g n c i : Nat} (ho : o.op = .indexAddr 47 x y) (h : ev x = .slice (some ⟨g, 0, none⟩) n c) (k : ev y = .int .i64 (i : Int)) (hi : i < n) : (execOp ev o).run Tryz.prog w = .ok (.value (.pointer (some ⟨g, i, none⟩))) w := by
  have h0 : (0 : Int) ≤ (i : Int) := by omega
  have h1 : (i : Int) < (n : Int) := by omega
  simp [execOp, ho, h, k, h0, h1, go_sem]
theorem n_loadK {ad : Addr} {a : Option Addr} {n c : Nat} (ho : o.op = .load 54 x) (h : ev x = .pointer (some ad)) (hc : w.cell? ad = some (.slice a n c)) : (execOp ev o).run Tryz.prog w = .ok (.value (.slice a n c)) w := by simp [execOp, ho, h, hc, go_sem]
theorem n_idxK {g off n c : Nat} (ho : o.op = .indexAddr 54 x y) (h : ev x = .slice (some ⟨g, off, none⟩) (n + 1) c) (k : ev y = .int .i64 0) : (execOp ev o).run Tryz.prog w = .ok (.value (.pointer (some ⟨g, off, none⟩))) w := by
  have h1 : (0 : Int) < (n : Int) + 1 := by omega
  simp [execOp, ho, h, k, h1, go_sem]
theorem n_loadP {ad : Addr} {v : Option Addr} (ho : o.op = .load 22 x) (h : ev x = .pointer (some ad)) (hc : w.cell? ad = some (.pointer v)) : (execOp ev o).run Tryz.prog w = .ok (.value (.pointer v)) w := by simp [execOp, ho, h, hc, go_sem]
end
end Go.Proofs.YthkccohigoejgaaGreatDoor

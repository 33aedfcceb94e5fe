/-
  Random early detection, plainly. No program is named here.
-/
import Derived.Test.YtbpofdfehcbppaaDoorFifoA
import Derived.Test.YtbpofdfehcbppaaDoorPlain
namespace Go.Proofs.YtbpofdfehcbppaaDoor
open Go.RowKit

structure RedP where
  low : Int
  high : Int
  often : Int
  slow : Nat
  mark : Bool
  P : Int
  R : Int
  tape : List Int
structure RedP.Ok (q : RedP) : Prop where
  low : 0 ≤ q.low
  lt : q.low < q.high
  high : q.high ≤ 1000000
  often : 1 ≤ q.often ∧ q.often ≤ 1000
  slow : q.slow ≤ 10
  P : 0 ≤ q.P ∧ q.P ≤ 1000000
  R : 0 ≤ q.R ∧ q.R ≤ 1000000
  tape : q.tape.length ≤ 1000
structure RedS where
  l : List Hel
  m : Int
  c : Int
  used : Nat
/-- The mean, rounded down. -/
def mean (k : Nat) (m : Int) : Int := m / (2 : Int) ^ k
/-- A number of the tape's. -/
def tick (z : Int) : Int := z % 18446744073709551616 % 1000
theorem tick_in (z : Int) : 0 ≤ tick z ∧ tick z < 1000 := by unfold tick; omega
def RedP.draw (q : RedP) (used : Nat) : Int := if used < q.tape.length then tick (q.tape.getD used 0) else 0
theorem RedP.draw_in (q : RedP) (used : Nat) : 0 ≤ q.draw used ∧ q.draw used < 1000 := by
  unfold RedP.draw
  split
  · exact tick_in _
  · omega
def redM (q : RedP) (a : RedS) : Int := a.m + (sumLen a.l - mean q.slow a.m)
def redO (q : RedP) (mm : Int) : Int := q.often * (mm - q.low)
def redRest (q : RedP) (c mm : Int) : Int := 1000 * (q.high - q.low) - c * redO q mm
/-- Is it hit; how many came since; how many numbers were used. -/
def redHit (q : RedP) (a : RedS) (mm : Int) : Bool × Int × Nat :=
  if mm < q.low then (false, 0, a.used) else if q.high ≤ mm then (true, a.c, a.used) else if redRest q a.c mm ≤ 0 then (true, a.c + 1, a.used)
  else (decide (q.draw a.used * redRest q a.c mm < 1000 * redO q mm), a.c + 1, a.used + 1)
theorem redHit_lo {q : RedP} {a : RedS} {mm : Int} (h : mm < q.low) : redHit q a mm = (false, 0, a.used) := by unfold redHit; rw [if_pos h]
theorem redHit_hi {q : RedP} {a : RedS} {mm : Int} (h : ¬ mm < q.low) (k : q.high ≤ mm) : redHit q a mm = (true, a.c, a.used) := by unfold redHit; rw [if_neg h, if_pos k]
theorem redHit_full {q : RedP} {a : RedS} {mm : Int} (h : ¬ mm < q.low) (k : ¬ q.high ≤ mm) (r : redRest q a.c mm ≤ 0) : redHit q a mm = (true, a.c + 1, a.used) := by unfold redHit; rw [if_neg h, if_neg k, if_pos r]
theorem redHit_draw {q : RedP} {a : RedS} {mm : Int} (h : ¬ mm < q.low) (k : ¬ q.high ≤ mm) (r : ¬ redRest q a.c mm ≤ 0) : redHit q a mm = (decide (q.draw a.used * redRest q a.c mm < 1000 * redO q mm), a.c + 1, a.used + 1) := by unfold redHit; rw [if_neg h, if_neg k, if_neg r]
def marked (x : Hel) : Hel := ⟨x.t, x.len, x.flow, x.band, 255, x.n⟩
def redPut (q : RedP) (a : RedS) (t : Int) (x : Hel) (m : Int) (h : Bool × Int × Nat) : RedS × List Hel :=
  if h.1 = true then (if q.mark = false then (⟨a.l, m, 0, h.2.2⟩, [x]) else (⟨((fifo q.P q.R false).put a.l t (marked x)).1, m, 0, h.2.2⟩, ((fifo q.P q.R false).put a.l t (marked x)).2))
  else (⟨((fifo q.P q.R false).put a.l t x).1, m, h.2.1, h.2.2⟩, ((fifo q.P q.R false).put a.l t x).2)
def red (q : RedP) : Mach RedS where
  put a t x := redPut q a t x (redM q a) (redHit q a (mean q.slow (redM q a)))
  take a t := (⟨((fifo q.P q.R false).take a.l t).1, a.m, a.c, a.used⟩, ((fifo q.P q.R false).take a.l t).2)
  when_ a t := (a, t, decide (0 < a.l.length))
  all a := a.l
structure RedOk (q : RedP) (a : RedS) (n : Nat) : Prop where
  l : FifoOk a.l n
  m : 0 ≤ a.m ∧ a.m ≤ (2 : Int) ^ q.slow * 2000001
  c : 0 ≤ a.c ∧ a.c ≤ n
  used : a.used ≤ n
theorem pow2 (k : Nat) : (1 : Int) ≤ (2 : Int) ^ k := by
  induction k with
  | zero => decide
  | succ k ih => rw [Int.pow_succ]; omega
theorem pow2_le {k : Nat} (h : k ≤ 10) : (2 : Int) ^ k ≤ 1024 := by
  match k, h with
  | 0, _ => decide
  | 1, _ => decide
  | 2, _ => decide
  | 3, _ => decide
  | 4, _ => decide
  | 5, _ => decide
  | 6, _ => decide
  | 7, _ => decide
  | 8, _ => decide
  | 9, _ => decide
  | 10, _ => decide
theorem mean_in {k : Nat} {m : Int} (h0 : 0 ≤ m) (h1 : m ≤ (2 : Int) ^ k * 2000001) : 0 ≤ mean k m ∧ mean k m ≤ 2000001 := by
  have hp := pow2 k
  refine ⟨Int.ediv_nonneg h0 (by omega), ?_⟩
  have : mean k m ≤ ((2 : Int) ^ k * 2000001) / (2 : Int) ^ k := Int.ediv_le_ediv (by omega) h1
  rwa [Int.mul_ediv_cancel_left _ (by omega)] at this
theorem Lens.le {xs : List Hel} (h : Lens xs) {n : Nat} (hn : xs.length ≤ n) : 0 ≤ sumLen xs ∧ sumLen xs ≤ 10000 * n := by
  induction xs generalizing n with
  | nil => simp [sumLen]; omega
  | cons x r ih =>
    cases n with
    | zero => simp at hn
    | succ n =>
      have h1 := ih (fun y hy => h y (List.mem_cons_of_mem _ hy)) (n := n) (by simp at hn; omega)
      have h2 := h x (List.mem_cons_self ..)
      simp only [sumLen]
      omega
theorem RedOk.sum {q : RedP} {a : RedS} {n : Nat} (h : RedOk q a n) : 0 ≤ sumLen a.l ∧ sumLen a.l ≤ 2000000 := by
  have h1 := h.l.lens.le h.l.few
  have h2 := h.l.n
  omega
theorem RedOk.next {q : RedP} {a : RedS} {n : Nat} (h : RedOk q a n) : 0 ≤ redM q a ∧ redM q a ≤ (2 : Int) ^ q.slow * 2000001 := by
  have hp := pow2 q.slow
  have hs := h.sum
  have hm := h.m
  unfold redM mean
  generalize (2 : Int) ^ q.slow = N at *
  have h1 := Int.emod_nonneg a.m (show N ≠ 0 by omega)
  have h2 := Int.emod_lt_of_pos a.m (show 0 < N by omega)
  have h3 := Int.emod_add_mul_ediv a.m N
  generalize a.m / N = Q at *
  generalize a.m % N = r at *
  have h4 : 0 ≤ Q := by
    rcases Int.lt_or_le Q 0 with h5 | h5
    · exfalso
      have : N * Q ≤ N * (-1) := Int.mul_le_mul_of_nonneg_left (by omega) (by omega)
      omega
    · exact h5
  have h5 : Q ≤ N * Q := by
    have := Int.mul_le_mul_of_nonneg_right hp h4
    omega
  refine ⟨by omega, ?_⟩
  -- m - Q + s ≤ N * 2000001
  rcases Int.lt_or_le Q 2000000 with h6 | h6
  · have h7 : (N - 1) * Q ≤ (N - 1) * 1999999 := Int.mul_le_mul_of_nonneg_left (by omega) (by omega)
    rw [Int.sub_mul, Int.sub_mul] at h7
    omega
  · omega
theorem red_bounds {q : RedP} (hq : q.Ok) {a : RedS} {n : Nat} (h : RedOk q a n) (hn : n ≤ 200) {mm : Int} (h1 : q.low ≤ mm) (h2 : mm < q.high) :
    (0 ≤ mm - q.low ∧ mm - q.low ≤ 1000000) ∧ (0 ≤ redO q mm ∧ redO q mm ≤ 1000000000) ∧ (0 ≤ a.c * redO q mm ∧ a.c * redO q mm ≤ 200000000000) ∧ (-200000000000 ≤ redRest q a.c mm ∧ redRest q a.c mm ≤ 1000000000) := by
  have hh := hq.high
  have hl := hq.low
  have ho := hq.often
  have hc := h.c
  have e1 : 0 ≤ redO q mm := Int.mul_nonneg (by omega) (by omega)
  have e2 : redO q mm ≤ 1000 * 1000000 := Int.mul_le_mul ho.2 (by omega) (by omega) (by omega)
  have e3 : 0 ≤ a.c * redO q mm := Int.mul_nonneg hc.1 e1
  have e4 : a.c * redO q mm ≤ 200 * 1000000000 := Int.mul_le_mul (by omega) (by omega) e1 (by omega)
  refine ⟨⟨by omega, by omega⟩, ⟨e1, by omega⟩, ⟨e3, by omega⟩, ?_⟩
  unfold redRest
  omega
theorem redHit_ok {q : RedP} {a : RedS} {n : Nat} {mm : Int} (h : RedOk q a n) : (0 ≤ (redHit q a mm).2.1 ∧ (redHit q a mm).2.1 ≤ n + 1) ∧ (redHit q a mm).2.2 ≤ n + 1 := by
  have h1 := h.c
  have h2 := h.used
  unfold redHit
  split
  · simp; omega
  · split
    · simp; omega
    · split
      · simp; omega
      · simp; omega
theorem GoodPut.marked {t : Int} {x : Hel} {n : Nat} (g : GoodPut t x n) : GoodPut t (marked x) n := ⟨g.clock, g.t, g.len, g.flow, g.band, by unfold Proofs.YtbpofdfehcbppaaDoor.marked; simp, g.num, g.few⟩
theorem red_put_ok {q : RedP} {a : RedS} {n : Nat} {t : Int} {x : Hel} (h : RedOk q a n) (g : GoodPut t x n) : RedOk q ((red q).put a t x).1 (n + 1) ∧ ((red q).put a t x).2.length ≤ 1000 := by
  have hm := h.next
  have hh := redHit_ok (mm := mean q.slow (redM q a)) h
  show RedOk q (redPut q a t x (redM q a) (redHit q a (mean q.slow (redM q a)))).1 (n + 1) ∧ (redPut q a t x (redM q a) (redHit q a (mean q.slow (redM q a)))).2.length ≤ 1000
  generalize redHit q a (mean q.slow (redM q a)) = d at *
  have f1 := fifo_put_ok (P := q.P) (R := q.R) (head := false) h.l g
  have f2 := fifo_put_ok (P := q.P) (R := q.R) (head := false) h.l g.marked
  unfold redPut
  split
  · split
    · exact ⟨⟨h.l.up g.few, hm, by simp; omega, hh.2⟩, by simp⟩
    · exact ⟨⟨f2.1, hm, by simp; omega, hh.2⟩, f2.2⟩
  · exact ⟨⟨f1.1, hm, by simpa using hh.1, hh.2⟩, f1.2⟩
theorem red_take_ok {q : RedP} {a : RedS} {n : Nat} {t : Int} (h : RedOk q a n) : RedOk q ((red q).take a t).1 n ∧ ((red q).take a t).2.2.1 = [] :=
  have f := fifo_take_ok (P := q.P) (R := q.R) (head := false) (t := t) h.l
  ⟨⟨f.1, h.m, h.c, h.used⟩, f.2⟩
end Go.Proofs.YtbpofdfehcbppaaDoor

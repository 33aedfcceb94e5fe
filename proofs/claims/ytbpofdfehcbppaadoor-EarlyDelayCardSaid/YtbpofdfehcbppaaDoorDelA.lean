/-
  A queue that controls how long packets wait, plainly. No program is named here.
-/
import Derived.Test.YtbpofdfehcbppaaDoorFifoA
import Derived.Test.YtbpofdfehcbppaaDoorPlain
namespace Go.Proofs.YtbpofdfehcbppaaDoor
open Go.RowKit

structure DelP where
  target : Int
  span : Int
  P : Int
structure DelP.Ok (q : DelP) : Prop where
  target : 0 ≤ q.target ∧ q.target ≤ 1000000
  span : 1 ≤ q.span ∧ q.span ≤ 1000000
  P : 0 ≤ q.P ∧ q.P ≤ 1000000
structure DelS where
  l : List Hel
  ab : Int
  d : Bool
  nx : Int
  ct : Int
/-- The greatest number up to k whose square is at most n. -/
def rootUp (n : Int) : Nat → Int
  | 0 => 0
  | k + 1 => if ((k : Int) + 1) * ((k : Int) + 1) ≤ n then (k : Int) + 1 else rootUp n k
/-- The root, rounded down. -/
def rootOf (n : Int) : Int := rootUp n n.toNat
theorem sq_lt {a b : Int} (h0 : 0 ≤ a) (h : a < b) : a * a < b * b := by
  have h1 : a * a ≤ a * b := Int.mul_le_mul_of_nonneg_left (by omega) h0
  have h2 : a * b < b * b := Int.mul_lt_mul_of_pos_right h (by omega)
  omega
theorem sq_le {a b : Int} (h0 : 0 ≤ a) (h : a ≤ b) : a * a ≤ b * b := Int.mul_le_mul h h h0 (by omega)
theorem rootUp_is {n x : Int} (hx : 0 ≤ x) (h1 : x * x ≤ n) (h2 : n < (x + 1) * (x + 1)) : ∀ k : Nat, x ≤ k → rootUp n k = x := by
  intro k
  induction k with
  | zero => intro hk; rw [rootUp]; omega
  | succ k ih =>
    intro hk
    rw [rootUp]
    rcases Int.lt_or_le x ((k : Int) + 1) with h | h
    · rw [if_neg (fun hh => by have := sq_le (a := x + 1) (b := (k : Int) + 1) (by omega) (by omega); omega), ih (by omega)]
    · have e : x = (k : Int) + 1 := by omega
      rw [← e, if_pos h1]
theorem rootOf_is {n x : Int} (hx : 0 ≤ x) (h1 : x * x ≤ n) (h2 : n < (x + 1) * (x + 1)) : rootOf n = x := by
  refine rootUp_is hx h1 h2 _ ?_
  rcases Int.lt_or_le x 1 with h | h
  · omega
  · have : x * 1 ≤ x * x := Int.mul_le_mul_of_nonneg_left h hx
    omega
/-- when the next one is thrown away -/
def delLaw (q : DelP) (t ct : Int) : Int := t + q.span * 1000 / rootOf (1000000 * ct)
def delPull (q : DelP) (a : DelS) (t : Int) : DelS × Hel × Bool × Bool :=
  match a.l with
  | [] => (⟨[], -1, a.d, a.nx, a.ct⟩, .zero, false, false)
  | x :: r => if t - x.t < q.target ∨ r = [] then (⟨r, -1, a.d, a.nx, a.ct⟩, x, true, false) else if a.ab < 0 then (⟨r, t + q.span, a.d, a.nx, a.ct⟩, x, true, false) else (⟨r, a.ab, a.d, a.nx, a.ct⟩, x, true, decide (a.ab ≤ t))
theorem delPull_nil {q : DelP} {a : DelS} {t : Int} (h : a.l = []) : delPull q a t = (⟨[], -1, a.d, a.nx, a.ct⟩, .zero, false, false) := by unfold delPull; rw [h]
theorem delPull_cons {q : DelP} {a : DelS} {t : Int} {x : Hel} {r : List Hel} (h : a.l = x :: r) : delPull q a t = if t - x.t < q.target ∨ r = [] then (⟨r, -1, a.d, a.nx, a.ct⟩, x, true, false) else if a.ab < 0 then (⟨r, t + q.span, a.d, a.nx, a.ct⟩, x, true, false) else (⟨r, a.ab, a.d, a.nx, a.ct⟩, x, true, decide (a.ab ≤ t)) := by unfold delPull; rw [h]
theorem delPull_low {q : DelP} {a : DelS} {t : Int} {x : Hel} {r : List Hel} (h : a.l = x :: r) (k : t - x.t < q.target ∨ r = []) : delPull q a t = (⟨r, -1, a.d, a.nx, a.ct⟩, x, true, false) := by rw [delPull_cons h, if_pos k]
theorem delPull_new {q : DelP} {a : DelS} {t : Int} {x : Hel} {r : List Hel} (h : a.l = x :: r) (k : ¬ (t - x.t < q.target ∨ r = [])) (n : a.ab < 0) : delPull q a t = (⟨r, t + q.span, a.d, a.nx, a.ct⟩, x, true, false) := by rw [delPull_cons h, if_neg k, if_pos n]
theorem delPull_old {q : DelP} {a : DelS} {t : Int} {x : Hel} {r : List Hel} (h : a.l = x :: r) (k : ¬ (t - x.t < q.target ∨ r = [])) (n : ¬ a.ab < 0) : delPull q a t = (⟨r, a.ab, a.d, a.nx, a.ct⟩, x, true, decide (a.ab ≤ t)) := by rw [delPull_cons h, if_neg k, if_neg n]
def DelS.count (a : DelS) : DelS := ⟨a.l, a.ab, a.d, a.nx, a.ct + 1⟩
def DelS.stop (a : DelS) : DelS := ⟨a.l, a.ab, false, a.nx, a.ct⟩
def DelS.next (q : DelP) (a : DelS) : DelS := ⟨a.l, a.ab, a.d, delLaw q a.nx a.ct, a.ct⟩
/-- Behind a pull, in the midst of throwing away. -/
def delAft (q : DelP) (p : DelS × Hel × Bool × Bool) : DelS := if p.2.2.2 = true then p.1.next q else p.1.stop
def delLoop (q : DelP) (t : Int) : Nat → DelS → Hel → Bool → List Hel → DelS × Hel × Bool × List Hel
  | 0, a, x, ok, lost => (a, x, ok, lost)
  | n + 1, a, x, ok, lost =>
    if a.d = true ∧ a.nx ≤ t then delLoop q t n (delAft q (delPull q a.count t)) (delPull q a.count t).2.1 (delPull q a.count t).2.2.1 (lost ++ [x])
    else (a, x, ok, lost)
theorem delLoop_go {q : DelP} {t : Int} {n : Nat} {a : DelS} {x : Hel} {ok : Bool} {lost : List Hel} (h : a.d = true) (k : a.nx ≤ t) :
    delLoop q t (n + 1) a x ok lost = delLoop q t n (delAft q (delPull q a.count t)) (delPull q a.count t).2.1 (delPull q a.count t).2.2.1 (lost ++ [x]) := by rw [delLoop, if_pos ⟨h, k⟩]
theorem delLoop_end {q : DelP} {t : Int} {n : Nat} {a : DelS} {x : Hel} {ok : Bool} {lost : List Hel} (h : ¬ (a.d = true ∧ a.nx ≤ t)) : delLoop q t n a x ok lost = (a, x, ok, lost) := by
  cases n with
  | zero => rfl
  | succ n => rw [delLoop, if_neg h]
/-- The first one that is thrown away. -/
def delFirst (q : DelP) (t : Int) (a : DelS) : DelS :=
  ⟨a.l, a.ab, true, delLaw q t (if 2 < a.ct ∧ t - a.nx < 16 * q.span then a.ct - 2 else 1), if 2 < a.ct ∧ t - a.nx < 16 * q.span then a.ct - 2 else 1⟩
def delTake (q : DelP) (t : Int) (p : DelS × Hel × Bool × Bool) : DelS × Hel × List Hel × Bool :=
  if p.2.2.1 = false then (p.1.stop, .zero, [], false)
  else if p.1.d = true then
    (if p.2.2.2 = false then (p.1.stop, p.2.1, [], true)
     else ((delLoop q t (p.1.l.length + 1) p.1 p.2.1 true []).1, (delLoop q t (p.1.l.length + 1) p.1 p.2.1 true []).2.1, (delLoop q t (p.1.l.length + 1) p.1 p.2.1 true []).2.2.2, (delLoop q t (p.1.l.length + 1) p.1 p.2.1 true []).2.2.1))
  else if p.2.2.2 = true then (delFirst q t (delPull q p.1 t).1, (delPull q p.1 t).2.1, [p.2.1], (delPull q p.1 t).2.2.1)
  else (p.1, p.2.1, [], true)
def delay (q : DelP) : Mach DelS where
  put a t x := (⟨((fifo q.P 1000000 false).put a.l t x).1, a.ab, a.d, a.nx, a.ct⟩, ((fifo q.P 1000000 false).put a.l t x).2)
  take a t := delTake q t (delPull q a t)
  when_ a t := (a, t, decide (0 < a.l.length))
  all a := a.l
/-- What may be. n: how many were put in. -/
structure DelOk (q : DelP) (a : DelS) (n : Nat) : Prop where
  l : FifoOk a.l n
  t : ∀ x ∈ a.l, 0 ≤ x.t ∧ x.t ≤ 1000000
  ab : a.ab = -1 ∨ (0 ≤ a.ab ∧ a.ab ≤ 2000000)
  nx : 0 ≤ a.nx ∧ a.nx ≤ 2000000
  ct : 0 ≤ a.ct ∧ a.ct + a.l.length ≤ n
  d : a.d = true → 1 ≤ a.ct
theorem rootUp_ge {n j : Int} : ∀ k : Nat, j ≤ k → j * j ≤ n → 0 ≤ j → j ≤ rootUp n k := by
  intro k
  induction k with
  | zero => intro h _ _; rw [rootUp]; exact h
  | succ k ih =>
    intro h h1 h0
    rw [rootUp]
    split
    · omega
    · rename_i hn
      rcases Int.lt_or_le (k : Int) j with h2 | h2
      · exfalso
        have e : j = (k : Int) + 1 := by omega
        rw [e] at h1
        exact hn h1
      · exact ih h2 h1 h0
theorem rootOf_ge {n : Int} (h : 1000000 ≤ n) : 1000 ≤ rootOf n := rootUp_ge _ (by omega) (by omega) (by omega)
theorem delLaw_in {q : DelP} (hq : q.Ok) {t ct : Int} (hc : 1 ≤ ct) : t ≤ delLaw q t ct ∧ delLaw q t ct ≤ t + q.span := by
  have hr := rootOf_ge (n := 1000000 * ct) (by omega)
  have hs := hq.span
  unfold delLaw
  generalize rootOf (1000000 * ct) = r at *
  have h1 : 0 ≤ q.span * 1000 / r := Int.ediv_nonneg (by omega) (by omega)
  have h2 : q.span * 1000 / r ≤ q.span := by
    refine Int.ediv_le_of_le_mul (by omega) ?_
    exact Int.mul_le_mul_of_nonneg_left hr (by omega)
  omega
structure PullOk (q : DelP) (a : DelS) (n : Nat) (p : DelS × Hel × Bool × Bool) : Prop where
  ok : DelOk q p.1 n
  d : p.1.d = a.d
  nx : p.1.nx = a.nx
  ct : p.1.ct = a.ct
  some : p.2.2.1 = true → p.1.l.length + 1 = a.l.length
  none : p.2.2.1 = false → p.2.1 = .zero
  bad : p.2.2.2 = true → p.2.2.1 = true
  small : p.1.l.length ≤ a.l.length
theorem delPull_ok {q : DelP} (hq : q.Ok) {a : DelS} {n : Nat} {t : Int} (ht : Now t) (h : DelOk q a n) : PullOk q a n (delPull q a t) := by
  have ht1 := ht.1
  have ht2 := ht.2
  have hs := hq.span
  have hc := h.ct
  cases hl : a.l with
  | nil =>
    rw [delPull_nil hl]
    exact ⟨⟨by rw [← hl]; exact h.l, (fun x hx => by cases hx), .inl rfl, h.nx, by rw [hl] at hc; exact hc, h.d⟩, rfl, rfl, rfl, (fun e => by cases e), (fun _ => rfl), (fun e => by cases e), by rw [hl]; exact Nat.le_refl _⟩
  | cons x r =>
    have hf : FifoOk r n := by have h1 := h.l; rw [hl] at h1; exact h1.tail
    have hx : ∀ y ∈ r, 0 ≤ y.t ∧ y.t ≤ 1000000 := fun y hy => h.t y (by rw [hl]; exact List.mem_cons_of_mem _ hy)
    have hc2 : 0 ≤ a.ct ∧ a.ct + r.length ≤ n := by rw [hl] at hc; simp at hc; omega
    rw [delPull_cons hl]
    split
    · exact ⟨⟨hf, hx, .inl rfl, h.nx, hc2, h.d⟩, rfl, rfl, rfl, (fun _ => by rw [hl]; rfl), (fun e => by cases e), (fun e => by cases e), by rw [hl]; exact Nat.le_succ _⟩
    · split
      · exact ⟨⟨hf, hx, .inr ⟨by simp; omega, by simp; omega⟩, h.nx, hc2, h.d⟩, rfl, rfl, rfl, (fun _ => by rw [hl]; rfl), (fun e => by cases e), (fun e => by cases e), by rw [hl]; exact Nat.le_succ _⟩
      · exact ⟨⟨hf, hx, h.ab, h.nx, hc2, h.d⟩, rfl, rfl, rfl, (fun _ => by rw [hl]; rfl), (fun e => by cases e), (fun _ => rfl), by rw [hl]; exact Nat.le_succ _⟩
theorem DelOk.stop {q : DelP} {a : DelS} {n : Nat} (h : DelOk q a n) : DelOk q a.stop n := ⟨h.l, h.t, h.ab, h.nx, h.ct, (fun e => by cases e)⟩
/-- In the midst of throwing away, one in hand. -/
structure LoopOk (q : DelP) (a : DelS) (n : Nat) : Prop where
  ok : DelOk q a n
  room : a.d = true → a.ct + a.l.length + 1 ≤ n
theorem LoopOk.count {q : DelP} {a : DelS} {n : Nat} (h : LoopOk q a n) (hd : a.d = true) : DelOk q a.count n :=
  ⟨h.ok.l, h.ok.t, h.ok.ab, h.ok.nx, by have := h.room hd; have := h.ok.ct; simp [DelS.count]; omega, fun _ => by have := h.ok.ct; simp [DelS.count]; omega⟩
theorem LoopOk.next {q : DelP} (hq : q.Ok) {a : DelS} {n : Nat} {t : Int} (ht : Now t) (h : LoopOk q a n) (hd : a.d = true) (hn : a.nx ≤ t) : LoopOk q (delAft q (delPull q a.count t)) n := by
  have hp := delPull_ok hq ht (h.count hd)
  have hroom := h.room hd
  generalize delPull q a.count t = p at *
  unfold delAft
  by_cases hb : p.2.2.2 = true
  · rw [if_pos hb]
    have h1 := hp.some (hp.bad hb)
    have h2 := hp.ok
    have h3 := h.ok.ct
    have hnx := h.ok.nx
    have e1 : a.count.ct = a.ct + 1 := rfl
    have e2 : a.count.l = a.l := rfl
    have e3 : a.count.nx = a.nx := rfl
    have e4 := hp.ct
    have e5 := hp.nx
    rw [e1] at e4
    rw [e3] at e5
    rw [e2] at h1
    have hlw := delLaw_in hq (t := p.1.nx) (ct := p.1.ct) (by omega)
    have hs := hq.span
    have ht2 := ht.2
    refine ⟨⟨h2.l, h2.t, h2.ab, ?_, h2.ct, h2.d⟩, ?_⟩
    · simp only [DelS.next]; omega
    · intro _; simp only [DelS.next]; omega
  · rw [if_neg hb]
    exact ⟨hp.ok.stop, (fun e => by cases e)⟩
theorem delAft_len {q : DelP} (hq : q.Ok) {a : DelS} {n : Nat} {t : Int} (ht : Now t) (h : LoopOk q a n) (hd : a.d = true) : (delAft q (delPull q a.count t)).d = true → (delAft q (delPull q a.count t)).l.length + 1 = a.l.length := by
  have hp := delPull_ok hq ht (h.count hd)
  generalize delPull q a.count t = p at *
  unfold delAft
  by_cases hb : p.2.2.2 = true
  · rw [if_pos hb]
    intro _
    exact hp.some (hp.bad hb)
  · rw [if_neg hb]
    intro e; cases e
theorem delLoop_ok {q : DelP} (hq : q.Ok) {t : Int} (ht : Now t) {n : Nat} : ∀ (k : Nat) (a : DelS) (x : Hel) (ok : Bool) (lost : List Hel), LoopOk q a n → DelOk q (delLoop q t k a x ok lost).1 n ∧ (delLoop q t k a x ok lost).2.2.2.length ≤ lost.length + k := by
  intro k
  induction k with
  | zero => intro a x ok lost h; exact ⟨h.ok, Nat.le_refl _⟩
  | succ k ih =>
    intro a x ok lost h
    by_cases hc : a.d = true ∧ a.nx ≤ t
    · rw [delLoop_go hc.1 hc.2]
      have := ih (delAft q (delPull q a.count t)) (delPull q a.count t).2.1 (delPull q a.count t).2.2.1 (lost ++ [x]) (h.next hq ht hc.1 hc.2)
      refine ⟨this.1, ?_⟩
      have h2 := this.2
      simp at h2
      omega
    · rw [delLoop_end hc]
      exact ⟨h.ok, by simp⟩
/-- how many were, when the first one is thrown away -/
def delCt (q : DelP) (t : Int) (a : DelS) : Int := if 2 < a.ct ∧ t - a.nx < 16 * q.span then a.ct - 2 else 1
theorem delFirst_eq (q : DelP) (t : Int) (a : DelS) : delFirst q t a = ⟨a.l, a.ab, true, delLaw q t (delCt q t a), delCt q t a⟩ := rfl
theorem delCt_in (q : DelP) (t : Int) {a : DelS} (h : 0 ≤ a.ct) : 1 ≤ delCt q t a ∧ delCt q t a ≤ a.ct + 1 := by unfold delCt; split <;> omega
theorem delTake_ok {q : DelP} (hq : q.Ok) {a : DelS} {n : Nat} {t : Int} (ht : Now t) (h : DelOk q a n) : DelOk q (delTake q t (delPull q a t)).1 n ∧ (delTake q t (delPull q a t)).2.2.1.length ≤ 1000 := by
  have hp := delPull_ok hq ht h
  have hct := h.ct
  generalize delPull q a t = p at *
  have hn := hp.ok.l.n
  have hf := hp.ok.l.few
  unfold delTake
  by_cases h1 : p.2.2.1 = false
  · rw [if_pos h1]; exact ⟨hp.ok.stop, Nat.zero_le _⟩
  · rw [if_neg h1]
    have h1' : p.2.2.1 = true := by simpa using h1
    have hlen := hp.some h1'
    have ec := hp.ct
    by_cases h2 : p.1.d = true
    · rw [if_pos h2]
      by_cases h3 : p.2.2.2 = false
      · rw [if_pos h3]; exact ⟨hp.ok.stop, Nat.zero_le _⟩
      · rw [if_neg h3]
        have hl := delLoop_ok hq ht (n := n) (p.1.l.length + 1) p.1 p.2.1 true [] ⟨hp.ok, fun _ => by omega⟩
        refine ⟨hl.1, ?_⟩
        have := hl.2
        simp at this
        simp only
        omega
    · rw [if_neg h2]
      by_cases h3 : p.2.2.2 = true
      · rw [if_pos h3]
        have hp2 := delPull_ok hq ht hp.ok
        generalize delPull q p.1 t = p2 at *
        have h4 := delCt_in q t (a := p2.1) hp2.ok.ct.1
        have h5 := delLaw_in hq (t := t) h4.1
        have hs := hq.span
        have ht1 := ht.1
        have ht2 := ht.2
        have e2 := hp2.ct
        have h6 := hp2.small
        refine ⟨?_, by simp⟩
        rw [delFirst_eq]
        exact ⟨hp2.ok.l, hp2.ok.t, hp2.ok.ab, by simp only; omega, by simp only; omega, fun _ => h4.1⟩
      · rw [if_neg h3]; exact ⟨hp.ok, Nat.zero_le _⟩
theorem delay_put_ok {q : DelP} {a : DelS} {n : Nat} {t : Int} {x : Hel} (h : DelOk q a n) (g : GoodPut t x n) : DelOk q ((delay q).put a t x).1 (n + 1) ∧ ((delay q).put a t x).2.length ≤ 1000 := by
  have f := fifo_put_ok (P := q.P) (R := 1000000) (head := false) h.l g
  have hx : 0 ≤ x.t ∧ x.t ≤ 1000000 := by rw [g.t]; exact g.clock
  have hc := h.ct
  have hl : ((fifo q.P 1000000 false).put a.l t x).1 = a.l ∨ ((fifo q.P 1000000 false).put a.l t x).1 = a.l ++ [x] := by
    by_cases hf : Full q.P 1000000 (a.l ++ [x])
    · rw [fifo_full hf]; exact .inl rfl
    · rw [fifo_fits hf]; exact .inr rfl
  refine ⟨⟨f.1, ?_, h.ab, h.nx, ?_, h.d⟩, f.2⟩
  · intro y hy
    change y ∈ ((fifo q.P 1000000 false).put a.l t x).1 at hy
    rcases hl with e | e <;> rw [e] at hy
    · exact h.t y hy
    · rcases List.mem_append.1 hy with k | k
      · exact h.t y k
      · obtain rfl := List.mem_singleton.1 k; exact hx
  · show 0 ≤ a.ct ∧ a.ct + ((fifo q.P 1000000 false).put a.l t x).1.length ≤ ((n + 1 : Nat) : Int)
    rcases hl with e | e <;> rw [e]
    · omega
    · simp; omega
end Go.Proofs.YtbpofdfehcbppaaDoor

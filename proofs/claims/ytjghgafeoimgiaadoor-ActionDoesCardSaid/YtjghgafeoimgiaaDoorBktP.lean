/-
  Buckets: what one tells, in plain numbers. No program is named here.
-/
import Derived.Test.YtjghgafeoimgiaaDoorBase
namespace Go.Proofs.YtjghgafeoimgiaaDoor

/-- A bucket that may be: bytes in ticks, room. -/
structure Bkt where
  b : Nat
  t : Nat
  r : Nat
  hb : 1 ≤ b ∧ b ≤ 1000000
  ht : 1 ≤ t ∧ t ≤ 1000000
  hr : r ≤ 1000000
/-- What is in it (times t), and the last time. -/
structure BSt where
  last : Int
  x : Int
def Bkt.full (B : Bkt) : BSt := ⟨0, (B.r : Int) * (B.t : Int)⟩
structure Bkt.Ok (B : Bkt) (s : BSt) : Prop where
  l0 : 0 ≤ s.last
  l1 : s.last ≤ 1000000000
  x0 : 0 ≤ s.x
  x1 : s.x ≤ (B.r : Int) * (B.t : Int)
theorem Bkt.room (B : Bkt) : 0 ≤ (B.r : Int) * (B.t : Int) ∧ (B.r : Int) * (B.t : Int) ≤ 1000000000000 := by
  have h1 := B.hr
  have h2 := B.ht
  have h3 : B.r * B.t ≤ 1000000 * 1000000 := Nat.mul_le_mul h1 h2.2
  have h4 : ((B.r * B.t : Nat) : Int) = (B.r : Int) * (B.t : Int) := by simp
  omega
theorem Bkt.full_ok (B : Bkt) : B.Ok B.full := ⟨by simp [Bkt.full], by simp [Bkt.full], B.room.1, Int.le_refl _⟩
/-- .. filled up to a time. -/
def Bkt.fill (B : Bkt) (s : BSt) (now : Int) : BSt := if s.last < now then ⟨now, min ((B.r : Int) * (B.t : Int)) (s.x + (now - s.last) * (B.b : Int))⟩ else s
theorem Bkt.fill_yes (B : Bkt) {s : BSt} {now : Int} (h : s.last < now) : B.fill s now = ⟨now, min ((B.r : Int) * (B.t : Int)) (s.x + (now - s.last) * (B.b : Int))⟩ := by unfold Bkt.fill; rw [if_pos h]
theorem Bkt.fill_no (B : Bkt) {s : BSt} {now : Int} (h : ¬ s.last < now) : B.fill s now = s := by unfold Bkt.fill; rw [if_neg h]
theorem mul_in {a b m n : Int} (ha : 0 ≤ a ∧ a ≤ m) (hb : 0 ≤ b ∧ b ≤ n) : 0 ≤ a * b ∧ a * b ≤ m * n := by
  refine ⟨Int.mul_nonneg ha.1 hb.1, ?_⟩
  have h1 : a * b ≤ m * b := Int.mul_le_mul_of_nonneg_right ha.2 hb.1
  have h2 : m * b ≤ m * n := Int.mul_le_mul_of_nonneg_left hb.2 (by omega)
  omega
theorem Bkt.more (B : Bkt) {s : BSt} (h : B.Ok s) {now : Int} (hn : now ≤ 1000000000) (hl : s.last < now) : 0 ≤ (now - s.last) * (B.b : Int) ∧ (now - s.last) * (B.b : Int) ≤ 1000000000000000 := by
  have h1 := B.hb
  have h2 := h.l0
  exact mul_in (m := 1000000000) (n := 1000000) (by omega) (by omega)
theorem Bkt.fill_ok (B : Bkt) {s : BSt} (h : B.Ok s) {now : Int} (hn : now ≤ 1000000000) : B.Ok (B.fill s now) := by
  unfold Bkt.fill
  split
  · rename_i hl
    have h1 := B.more h hn hl
    have h2 := B.room
    have h3 := h.l0
    have h4 := h.x0
    exact ⟨by simp only; omega, by simp only; omega, by simp only; omega, by simp only; omega⟩
  · exact h
def Bkt.has (B : Bkt) (s : BSt) (now : Int) : Int × BSt := if 1000000000 < now then (0, s) else ((B.fill s now).x / (B.t : Int), B.fill s now)
def Bkt.take (B : Bkt) (s : BSt) (now n : Int) : Bool × BSt :=
  if 1000000000 < now ∨ n < 0 ∨ 1000000 < n then (false, s)
  else if (B.fill s now).x < n * (B.t : Int) then (false, B.fill s now) else (true, ⟨(B.fill s now).last, (B.fill s now).x - n * (B.t : Int)⟩)
/-- The first time, if n may be asked for. -/
def Bkt.at (B : Bkt) (s : BSt) (n : Int) : Int := s.last + max 0 (-((-(n * (B.t : Int) - s.x)) / (B.b : Int)))
def Bkt.when (B : Bkt) (s : BSt) (now n : Int) : (Int × Bool) × BSt :=
  if 1000000000 < now ∨ n < 0 ∨ (B.r : Int) < n then ((0, false), s) else ((B.at (B.fill s now) n, true), B.fill s now)
theorem Bkt.has_ok (B : Bkt) {s : BSt} (h : B.Ok s) (now : Int) : B.Ok (B.has s now).2 := by
  unfold Bkt.has
  split
  · exact h
  · exact B.fill_ok h (by omega)
theorem Bkt.need (B : Bkt) {n : Int} (h : 0 ≤ n ∧ n ≤ 1000000) : 0 ≤ n * (B.t : Int) ∧ n * (B.t : Int) ≤ 1000000000000 := by
  have h1 := B.ht
  exact mul_in (m := 1000000) (n := 1000000) h (by omega)
theorem Bkt.take_ok (B : Bkt) {s : BSt} (h : B.Ok s) (now n : Int) : B.Ok (B.take s now n).2 := by
  unfold Bkt.take
  split
  · exact h
  · rename_i hh
    have h1 := B.fill_ok h (now := now) (by omega)
    split
    · exact h1
    · have h2 := B.need (n := n) (by omega)
      have h3 := h1.x1
      exact ⟨h1.l0, h1.l1, by simp only; omega, by simp only; omega⟩
theorem Bkt.when_ok (B : Bkt) {s : BSt} (h : B.Ok s) (now n : Int) : B.Ok (B.when s now n).2 := by
  unfold Bkt.when
  split
  · exact h
  · exact B.fill_ok h (by omega)
end Go.Proofs.YtjghgafeoimgiaaDoor

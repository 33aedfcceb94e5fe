/-
  Plain words: the first fault among n, the cells of a slice of ints. No program is named here.
-/
import Derived.Test.YticifnegoacopaaGreatDoorBase
namespace Go.Proofs.YticifnegoacopaaGreatDoor
open Go.RowKit

/-- The first of f 0, f 1, .. f (n - 1) that is not 0; else 0. -/
def firstOf (f : Nat → Int) : Nat → Int
  | 0 => 0
  | n + 1 => if firstOf f n = 0 then f n else firstOf f n
theorem firstOf_zero {f : Nat → Int} {n : Nat} (h : ∀ j, j < n → f j = 0) : firstOf f n = 0 := by
  induction n with
  | zero => rfl
  | succ n ih => rw [firstOf, if_pos (ih fun j hj => h j (by omega))]; exact h n (by omega)
theorem firstOf_at {f : Nat → Int} {k n : Nat} {c : Int} (h : ∀ j, j < k → f j = 0) (hk : k < n) (hc : f k = c) (hne : c ≠ 0) : firstOf f n = c := by
  induction n with
  | zero => omega
  | succ n ih =>
    rcases Nat.lt_or_ge k n with h1 | h1
    · have := ih h1
      rw [firstOf, if_neg (by rw [this]; exact hne)]
      exact this
    · obtain rfl : k = n := by omega
      rw [firstOf, if_pos (firstOf_zero h)]
      exact hc
/-- one round more of a search for the first fault -/
theorem okTo_succ {f : Nat → Int} {k : Nat} (h : ∀ j, j < k → f j = 0) (hk : f k = 0) : ∀ j, j < k + 1 → f j = 0 := by
  intro j hj
  rcases Nat.lt_or_ge j k with h1 | h1
  · exact h j h1
  · obtain rfl : j = k := by omega
    exact hk

/-- the place of the first fault, -1 for none -/
def firstIx (f : Nat → Int) : Nat → Int
  | 0 => -1
  | n + 1 => if firstOf f n = 0 then (if f n = 0 then -1 else (n : Int)) else firstIx f n
theorem firstIx_zero {f : Nat → Int} {n : Nat} (h : ∀ j, j < n → f j = 0) : firstIx f n = -1 := by
  cases n with
  | zero => rfl
  | succ n => rw [firstIx, if_pos (firstOf_zero fun j hj => h j (by omega)), if_pos (h n (by omega))]
theorem firstIx_at {f : Nat → Int} {k n : Nat} (h : ∀ j, j < k → f j = 0) (hk : k < n) (hne : f k ≠ 0) : firstIx f n = (k : Int) := by
  induction n with
  | zero => omega
  | succ n ih =>
    rcases Nat.lt_or_ge k n with h1 | h1
    · rw [firstIx, if_neg (by rw [firstOf_at h h1 rfl hne]; exact hne)]
      exact ih h1
    · obtain rfl : k = n := by omega
      rw [firstIx, if_pos (firstOf_zero h), if_neg hne]

/-- v is a slice that holds the ints xs. -/
def Ints (w : World) (v : Value) (xs : List Int) : Prop :=
  (∃ a cap, v = .slice a 0 cap ∧ xs = []) ∨
    ∃ b off cap, v = .slice (some ⟨b, off, none⟩) xs.length cap ∧ 0 < xs.length ∧ (xs.length ≤ cap ∧ cap ≤ 9223372036854775807) ∧ ∀ i, i < xs.length → w.cell? ⟨b, off + i, none⟩ = some (.int .i64 (xs.getD i 0))
theorem Ints.gr {w w' : World} {v : Value} {xs : List Int} (h : Ints w v xs) (g : Gr w w') : Ints w' v xs := by
  rcases h with h | ⟨b, off, cap, h1, h2, h3, h4⟩
  · exact .inl h
  · exact .inr ⟨b, off, cap, h1, h2, h3, fun i hi => g.cell (h4 i hi)⟩
theorem ints_shape' {w : World} {v : Value} {xs : List Int} (h : Ints w v xs) : ∃ a cap, v = .slice a xs.length cap := by
  rcases h with ⟨a, cap, rfl, rfl⟩ | ⟨b, off, cap, rfl, _⟩
  · exact ⟨_, _, rfl⟩
  · exact ⟨_, _, rfl⟩
/-- A slice, whether it holds something or not: where it does, here are its cells. -/
theorem ints_any {w : World} {a : Option Addr} {n cap : Nat} {xs : List Int} (h : Ints w (.slice a n cap) xs) : 0 < xs.length → ∃ b off, a = some ⟨b, off, none⟩ ∧ ∀ i, i < xs.length → w.cell? ⟨b, off + i, none⟩ = some (.int .i64 (xs.getD i 0)) := by
  intro h0
  rcases h with ⟨_, _, _, rfl⟩ | ⟨b, off, cap, hv, _, _, h⟩
  · simp at h0
  · simp only [Value.slice.injEq] at hv
    exact ⟨b, off, hv.1, h⟩
theorem Ints.len {w : World} {v : Value} {xs : List Int} (h : Ints w v xs) : xs.length ≤ 9223372036854775807 := by
  rcases h with ⟨_, _, _, rfl⟩ | ⟨_, _, _, _, _, h, _⟩
  · simp
  · omega
end Go.Proofs.YticifnegoacopaaGreatDoor

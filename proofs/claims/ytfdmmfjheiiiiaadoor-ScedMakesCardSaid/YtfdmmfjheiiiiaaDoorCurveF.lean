/-
  curve.Then, millraceref.Then.
-/
import Derived.Test.YtfdmmfjheiiiiaaDoorCurveD
namespace Go.Proofs.YtfdmmfjheiiiiaaDoor
open Go.RowKit Go.Extern.Stop Go.Stop Go.Extern

/-- the least of f 0 .. f n -/
def minTo (f : Nat → Int) : Nat → Int
  | 0 => f 0
  | n + 1 => min (minTo f n) (f (n + 1))
theorem minTo_bd {f : Nat → Int} {n : Nat} {lo hi : Int} (h : ∀ j, j ≤ n → lo ≤ f j ∧ f j ≤ hi) : lo ≤ minTo f n ∧ minTo f n ≤ hi := by
  induction n with
  | zero => exact h 0 (Nat.le_refl _)
  | succ n ih =>
    have h1 := ih (fun j hj => h j (by omega))
    have h2 := h (n + 1) (Nat.le_refl _)
    simp only [minTo]
    omega
theorem ckCurve_bd {xs : List Int} (h : ckCurve xs = 0) : ∀ i, i < xs.length → 0 ≤ xs.getD i 0 ∧ xs.getD i 0 ≤ 1000000000000 := by
  intro i hi
  have h0 := ckCurve_pos h
  have hz : ∀ j, j < xs.length → ckAt xs j = 0 := by
    unfold ckCurve at h
    rw [if_neg (by omega)] at h
    intro j hj
    exact Classical.byContradiction fun hne => by
      have : ∃ k, k < xs.length ∧ (∀ j, j < k → ckAt xs j = 0) ∧ ckAt xs k ≠ 0 := by
        have key : ∀ n, n ≤ j → (∀ i, i < n → ckAt xs i = 0) ∨ ∃ k, k < xs.length ∧ (∀ j, j < k → ckAt xs j = 0) ∧ ckAt xs k ≠ 0 := by
          intro n
          induction n with
          | zero => intro _; exact .inl (fun i hi => absurd hi (by omega))
          | succ n ih =>
            intro hn
            rcases ih (by omega) with h1 | h1
            · by_cases h2 : ckAt xs n = 0
              · exact .inl (okTo_succ h1 h2)
              · exact .inr ⟨n, by omega, h1, h2⟩
            · exact .inr h1
        rcases key j (Nat.le_refl _) with h1 | h1
        · exact ⟨j, hj, h1, hne⟩
        · exact h1
      obtain ⟨k, k1, k2, k3⟩ := this
      exact k3 ((firstOf_at k2 k1 rfl k3).symm.trans h)
  have := hz i hi
  unfold ckAt at this
  split at this
  · omega
  · omega

def thenF (xs ys : List Int) (t s : Nat) : Int := xs.getD s 0 + ys.getD (t - s) 0
def thenAt (xs ys : List Int) (t : Nat) : Int := minTo (thenF xs ys t) t
theorem thenF_bd {xs ys : List Int} (hx : ckCurve xs = 0) (hy : ckCurve ys = 0) {t : Nat} (h1 : t < xs.length) (h2 : t < ys.length) : ∀ j, j ≤ t → 0 ≤ thenF xs ys t j ∧ thenF xs ys t j ≤ 2000000000000 := by
  intro j hj
  have a := ckCurve_bd hx j (by omega)
  have b := ckCurve_bd hy (t - j) (by omega)
  unfold thenF
  omega

def bestOf (f : Nat → Int) : Nat → Int
  | 0 => -1
  | j + 1 => minTo f j

end Go.Proofs.YtfdmmfjheiiiiaaDoor

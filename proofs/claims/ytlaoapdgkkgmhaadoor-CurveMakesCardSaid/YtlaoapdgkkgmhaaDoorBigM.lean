/-
  Numbers by words of 32 bits: products, quotients. No program is named here.
-/
import Derived.Test.YtlaoapdgkkgmhaaDoorBigN
import Derived.Laws.BitsAllLaws
namespace Go.Proofs.YtlaoapdgkkgmhaaDoor
open Go.RowKit

/-- One word of a product. -/
theorem mul_step {s c a b r p x : Int} (hx : x = c + a * b + r) : s + (x % 4294967296 - r) * p + x / 4294967296 * (4294967296 * p) = s + c * p + a * b * p := by
  have h := Int.mul_ediv_add_emod x 4294967296
  generalize x / 4294967296 = q at *
  generalize x % 4294967296 = m at *
  grind
theorem mul_word {a b : Int} (ha : 0 ≤ a ∧ a < 4294967296) (hb : 0 ≤ b ∧ b < 4294967296) : 0 ≤ a * b ∧ a * b ≤ 18446744065119617025 := by
  refine ⟨Int.mul_nonneg ha.1 hb.1, ?_⟩
  have h1 : a * b ≤ 4294967295 * b := Int.mul_le_mul_of_nonneg_right (by omega) hb.1
  omega
theorem or_high {x y : Int} {n : Nat} (hx : 0 ≤ x) (hy : 0 ≤ y) (hn : x < ((2 ^ n : Nat) : Int)) (h1 : y * ((2 ^ n : Nat) : Int) < 18446744073709551616) (h2 : x < 18446744073709551616) :
    bits BinOp.or IntKind.u64 x (y * ((2 ^ n : Nat) : Int)) = x + y * ((2 ^ n : Nat) : Int) := by
  obtain ⟨a, rfl⟩ := Int.eq_ofNat_of_zero_le hx
  obtain ⟨b, rfl⟩ := Int.eq_ofNat_of_zero_le hy
  rw [← Int.natCast_mul] at *
  rw [u64_or_nat _ _ (by omega) (by omega), Nat.or_comm, ← Nat.shiftLeft_eq, ← Nat.shiftLeft_add_eq_or_of_lt (by omega), Nat.shiftLeft_eq]
  omega
theorem or_word {x y : Int} (hx : 0 ≤ x ∧ x < 4294967296) (hy : 0 ≤ y ∧ y < 4294967296) : bits BinOp.or IntKind.u64 x (y * 4294967296) = x + y * 4294967296 :=
  or_high (n := 32) hx.1 hy.1 (by simpa using hx.2) (by simp; omega) (by omega)
/-- One word of a quotient by one word. -/
theorem small_step {s r a d p x : Int} (hx : x = r * 4294967296 + a) : s + x / d * p * d + x % d * p = s + r * (4294967296 * p) + a * p := by
  have h := Int.mul_ediv_add_emod x d
  generalize x / d = q at *
  generalize x % d = m at *
  grind
theorem small_word {r a d : Int} (hr : 0 ≤ r ∧ r < d) (ha : 0 ≤ a ∧ a < 4294967296) : 0 ≤ (r * 4294967296 + a) / d ∧ (r * 4294967296 + a) / d < 4294967296 := by
  refine ⟨Int.ediv_nonneg (by omega) (by omega), ?_⟩
  refine Int.ediv_lt_of_lt_mul (by omega) ?_
  omega
end Go.Proofs.YtlaoapdgkkgmhaaDoor

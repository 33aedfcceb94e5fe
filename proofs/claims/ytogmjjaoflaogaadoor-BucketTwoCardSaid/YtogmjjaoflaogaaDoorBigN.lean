/-
  Numbers by words of 32 bits: plain laws. No program is named here. Numbers by words of 32 bits: products, quotients. No program is named here.
-/
import Derived.Test.YtogmjjaoflaogaaDoorBlk
import Derived.Laws.BitsAllLaws
namespace Go.Proofs.YtogmjjaoflaogaaDoor
open Go.RowKit

/-- 2^32 to so many. -/
def Bp : Nat → Int
  | 0 => 1
  | n + 1 => 4294967296 * Bp n
theorem Bp_pos (n : Nat) : 1 ≤ Bp n := by
  induction n with
  | zero => simp [Bp]
  | succ n ih => rw [Bp]; omega
theorem Bp_add (m n : Nat) : Bp (m + n) = Bp m * Bp n := by
  induction n with
  | zero => simp [Bp]
  | succ n ih => rw [Nat.add_succ, Bp, Bp, ih, Int.mul_left_comm]
theorem Bp_mono {m n : Nat} (h : m ≤ n) : Bp m ≤ Bp n := by
  induction n with
  | zero => rw [Nat.le_zero.1 h]; exact Int.le_refl _
  | succ n ih =>
    rcases Nat.lt_or_ge m (n + 1) with h1 | h1
    · have := ih (by omega)
      have := Bp_pos n
      rw [Bp]; omega
    · rw [show m = n + 1 by omega]; exact Int.le_refl _
/-- What n words make. -/
def V (f : Nat → Int) : Nat → Int
  | 0 => 0
  | n + 1 => V f n + f n * Bp n
/-- Each of n is a word. -/
def W32 (f : Nat → Int) (n : Nat) : Prop := ∀ i, i < n → 0 ≤ f i ∧ f i < 4294967296
theorem W32.mono {f : Nat → Int} {m n : Nat} (h : W32 f n) (k : m ≤ n) : W32 f m := fun i hi => h i (by omega)
theorem W32.upd {f : Nat → Int} {n i : Nat} {x : Int} (h : W32 f n) (hx : 0 ≤ x ∧ x < 4294967296) : W32 (upd f i x) n := by
  intro k hk
  unfold Proofs.YtogmjjaoflaogaaDoor.upd
  split
  · exact hx
  · exact h k hk
theorem V_in {f : Nat → Int} {n : Nat} (h : W32 f n) : 0 ≤ V f n ∧ V f n < Bp n := by
  induction n with
  | zero => simp [V, Bp]
  | succ n ih =>
    have h1 := ih (h.mono (by omega))
    have h2 := h n (by omega)
    have h3 := Bp_pos n
    have h4 : 0 ≤ f n * Bp n := Int.mul_nonneg h2.1 (by omega)
    have h5 : f n * Bp n ≤ 4294967295 * Bp n := Int.mul_le_mul_of_nonneg_right (by omega) (by omega)
    rw [V, Bp]
    omega
theorem V_congr {f g : Nat → Int} {n : Nat} (h : ∀ i, i < n → f i = g i) : V f n = V g n := by
  induction n with
  | zero => rfl
  | succ n ih => rw [V, V, ih fun i hi => h i (by omega), h n (by omega)]
theorem V_zeros {f : Nat → Int} {m n : Nat} (h : m ≤ n) (hz : ∀ i, m ≤ i → i < n → f i = 0) : V f n = V f m := by
  induction n with
  | zero => rw [Nat.le_zero.1 h]
  | succ n ih =>
    rcases Nat.lt_or_ge m (n + 1) with h1 | h1
    · rw [V, hz n (by omega) (by omega), Int.zero_mul, Int.add_zero]
      exact ih (by omega) fun i h2 h3 => hz i h2 (by omega)
    · rw [show m = n + 1 by omega]
theorem V_upd {f : Nat → Int} {n i : Nat} (h : i < n) (x : Int) : V (upd f i x) n = V f n + (x - f i) * Bp i := by
  induction n with
  | zero => omega
  | succ n ih =>
    rw [V, V]
    rcases Nat.lt_or_ge i n with h1 | h1
    · rw [ih h1, upd_ne _ _ (by omega)]
      omega
    · obtain rfl : i = n := by omega
      rw [upd_at, V_congr (g := f) fun k hk => upd_ne _ _ (by omega), Int.sub_mul]
      omega
theorem V_upd_out {f : Nat → Int} {n i : Nat} (h : n ≤ i) (x : Int) : V (upd f i x) n = V f n :=
  V_congr fun k hk => upd_ne _ _ (by omega)
/-- Nothing but words that count. -/
def Trim (f : Nat → Int) (n : Nat) : Prop := 0 < n → f (n - 1) ≠ 0
theorem V_low {f : Nat → Int} {n : Nat} (h : W32 f n) (ht : Trim f n) (h0 : 0 < n) : Bp (n - 1) ≤ V f n := by
  obtain ⟨m, rfl⟩ : ∃ m, n = m + 1 := ⟨n - 1, by omega⟩
  have h1 := ht (by omega)
  rw [Nat.add_sub_cancel] at h1 ⊢
  have h2 := h m (by omega)
  have h3 := (V_in (h.mono (show m ≤ m + 1 by omega))).1
  have h4 : 1 * Bp m ≤ f m * Bp m := Int.mul_le_mul_of_nonneg_right (by omega) (by have := Bp_pos m; omega)
  rw [V]
  omega
theorem len_of_lt {f : Nat → Int} {n k : Nat} (h : W32 f n) (ht : Trim f n) (hv : V f n < Bp k) : n ≤ k := by
  rcases Nat.lt_or_ge k n with h1 | h1
  · have h2 := V_low h ht (by omega)
    have h3 := Bp_mono (show k ≤ n - 1 by omega)
    omega
  · exact h1
theorem V_zero_iff {f : Nat → Int} {n : Nat} (h : W32 f n) (ht : Trim f n) : V f n = 0 ↔ n = 0 := by
  constructor
  · intro e
    rcases Nat.eq_zero_or_pos n with h0 | h0
    · exact h0
    · have := V_low h ht h0
      have := Bp_pos (n - 1)
      omega
  · rintro rfl; rfl
/-- The highest word in which two part tells which is less. -/
theorem V_lt {f g : Nat → Int} {n j : Nat} (hf : W32 f n) (hg : W32 g n) (hj : j < n) (he : ∀ i, j < i → i < n → f i = g i) (hl : f j < g j) : V f n < V g n := by
  induction n with
  | zero => omega
  | succ n ih =>
    rw [V, V]
    rcases Nat.lt_or_ge j n with h1 | h1
    · have := ih (hf.mono (by omega)) (hg.mono (by omega)) h1 fun i h2 h3 => he i h2 (by omega)
      rw [he n h1 (by omega)]
      omega
    · obtain rfl : j = n := by omega
      have h2 := (V_in (hf.mono (show j ≤ j + 1 by omega))).2
      have h3 := (V_in (hg.mono (show j ≤ j + 1 by omega))).1
      have h4 : (f j + 1) * Bp j ≤ g j * Bp j := Int.mul_le_mul_of_nonneg_right (by omega) (by have := Bp_pos j; omega)
      rw [Int.add_mul] at h4
      omega
theorem V_len_lt {f g : Nat → Int} {m n : Nat} (hf : W32 f m) (hg : W32 g n) (ht : Trim g n) (h : m < n) : V f m < V g n := by
  have h1 := (V_in hf).2
  have h2 := V_low hg ht (by omega)
  have h3 := Bp_mono (show m ≤ n - 1 by omega)
  omega
/-- -1, 0, 1 -/
def sg (a b : Int) : Int := if a < b then -1 else if a = b then 0 else 1
theorem sg_lt {a b : Int} (h : a < b) : sg a b = -1 := by unfold sg; rw [if_pos h]
theorem sg_eq {a b : Int} (h : a = b) : sg a b = 0 := by unfold sg; rw [if_neg (by omega), if_pos h]
theorem sg_gt {a b : Int} (h : b < a) : sg a b = 1 := by unfold sg; rw [if_neg (by omega), if_neg (by omega)]
theorem sg_in (a b : Int) : sg a b = -1 ∨ sg a b = 0 ∨ sg a b = 1 := by unfold sg; split; exact .inl rfl; split; exact .inr (.inl rfl); exact .inr (.inr rfl)
theorem sg_mul {a b d : Int} (hd : 0 < d) : sg (a * d) (b * d) = sg a b := by
  rcases Int.lt_trichotomy a b with h | h | h
  · rw [sg_lt h, sg_lt (Int.mul_lt_mul_of_pos_right h hd)]
  · rw [sg_eq h, sg_eq (by rw [h])]
  · rw [sg_gt h, sg_gt (Int.mul_lt_mul_of_pos_right h hd)]
theorem sg_neg (a b : Int) : sg (-a) (-b) = - sg a b := by unfold sg; split <;> split <;> (try split) <;> (try split) <;> omega

/-- f, and noughts behind n -/
def ext (f : Nat → Int) (n : Nat) : Nat → Int := fun i => if i < n then f i else 0
theorem ext_in {f : Nat → Int} {n i : Nat} (h : i < n) : ext f n i = f i := if_pos h
theorem ext_out {f : Nat → Int} {n i : Nat} (h : n ≤ i) : ext f n i = 0 := if_neg (by omega)
theorem W32.ext {f : Nat → Int} {n : Nat} (h : W32 f n) (m : Nat) : W32 (ext f n) m := by
  intro i _
  unfold Proofs.YtogmjjaoflaogaaDoor.ext
  split
  · exact h i (by assumption)
  · omega
theorem V_ext {f : Nat → Int} {n m : Nat} (h : n ≤ m) : V (ext f n) m = V f n := by
  rw [V_zeros h fun i h1 _ => ext_out h1]
  exact V_congr fun i hi => ext_in hi

/-- One word of a sum. -/
theorem add_step {r c x p : Int} : r + (x % 4294967296) * p + (x / 4294967296) * (4294967296 * p) = r + c * p + (x - c) * p := by
  have h := Int.mul_ediv_add_emod x 4294967296
  generalize x / 4294967296 = q at *
  generalize x % 4294967296 = m at *
  subst h
  grind
/-- One word of a difference. -/
theorem sub_step {d : Int} (h : -4294967296 ≤ d ∧ d < 4294967296) : (d % 4294967296) - (if d < 0 then 1 else 0) * 4294967296 = d := by
  split <;> omega

/-- One word of a product. -/
theorem mul_step {s c a b r p x : Int} (hx : x = c + a * b + r) : s + (x % 4294967296 - r) * p + x / 4294967296 * (4294967296 * p) = s + c * p + a * b * p := by
  have h := Int.mul_ediv_add_emod x 4294967296
  generalize x / 4294967296 = q at *
  generalize x % 4294967296 = m at *
  grind
theorem mul_word {a b : Int} (ha : 0 ≤ a ∧ a < 4294967296) (hb : 0 ≤ b ∧ b < 4294967296) : 0 ≤ a * b ∧ a * b ≤ 18446744065119617025 := by
  refine ⟨Int.mul_nonneg ha.1 hb.1, ?_⟩
  have h1 : a * b ≤ 4294967295 * b := Int.mul_le_mul_of_nonneg_right (by omega) hb.1
  omega
theorem or_high {x y : Int} {n : Nat} (hx : 0 ≤ x) (hy : 0 ≤ y) (hn : x < ((2 ^ n : Nat) : Int)) (h1 : y * ((2 ^ n : Nat) : Int) < 18446744073709551616) (h2 : x < 18446744073709551616) :
    bits BinOp.or IntKind.u64 x (y * ((2 ^ n : Nat) : Int)) = x + y * ((2 ^ n : Nat) : Int) := by
  obtain ⟨a, rfl⟩ := Int.eq_ofNat_of_zero_le hx
  obtain ⟨b, rfl⟩ := Int.eq_ofNat_of_zero_le hy
  rw [← Int.natCast_mul] at *
  rw [u64_or_nat _ _ (by omega) (by omega), Nat.or_comm, ← Nat.shiftLeft_eq, ← Nat.shiftLeft_add_eq_or_of_lt (by omega), Nat.shiftLeft_eq]
  omega
theorem or_word {x y : Int} (hx : 0 ≤ x ∧ x < 4294967296) (hy : 0 ≤ y ∧ y < 4294967296) : bits BinOp.or IntKind.u64 x (y * 4294967296) = x + y * 4294967296 :=
  or_high (n := 32) hx.1 hy.1 (by simpa using hx.2) (by simp; omega) (by omega)
/-- One word of a quotient by one word. -/
theorem small_step {s r a d p x : Int} (hx : x = r * 4294967296 + a) : s + x / d * p * d + x % d * p = s + r * (4294967296 * p) + a * p := by
  have h := Int.mul_ediv_add_emod x d
  generalize x / d = q at *
  generalize x % d = m at *
  grind
theorem small_word {r a d : Int} (hr : 0 ≤ r ∧ r < d) (ha : 0 ≤ a ∧ a < 4294967296) : 0 ≤ (r * 4294967296 + a) / d ∧ (r * 4294967296 + a) / d < 4294967296 := by
  refine ⟨Int.ediv_nonneg (by omega) (by omega), ?_⟩
  refine Int.ediv_lt_of_lt_mul (by omega) ?_
  omega
end Go.Proofs.YtogmjjaoflaogaaDoor

/-
  millracebig's words: what the long division keeps (a divisor of two words). No walk.
-/
import Derived.Test.YtgifghbnpdanhaaGreatDoorBigW
namespace Go.Proofs.YtgifghbnpdanhaaGreatDoor
open Go.RowKit

/-- A guess g at the quotient of h B + u0 by top B + next. -/
structure Guess (top nx h u0 g r : Int) : Prop where
  ct : 2147483648 ≤ top ∧ top < 4294967296
  cn : 0 ≤ nx ∧ nx < 4294967296
  cu : 0 ≤ u0 ∧ u0 < 4294967296
  ch : 0 ≤ h ∧ h < top * 4294967296 + nx
  ce : g * top + r = h
  cg : 0 ≤ g ∧ g ≤ 4294967297
  cr : 0 ≤ r ∧ r < 4294967296
  cw : h * 4294967296 + u0 < (g + 1) * (top * 4294967296 + nx)
section
variable {top nx h u0 g r : Int}
theorem Guess.start (ht : 2147483648 ≤ top ∧ top < 4294967296) (hn : 0 ≤ nx ∧ nx < 4294967296) (hu : 0 ≤ u0 ∧ u0 < 4294967296) (hh : 0 ≤ h ∧ h < top * 4294967296 + nx) : Guess top nx h u0 (h / top) (h % top) := by
  have e := Int.mul_ediv_add_emod h top
  have r0 := Int.emod_nonneg h (show top ≠ 0 by omega)
  have r1 := Int.emod_lt_of_pos h (show 0 < top by omega)
  have g0 := Int.ediv_nonneg hh.1 (show 0 ≤ top by omega)
  rw [Int.mul_comm] at e
  generalize h / top = g at *
  generalize h % top = r at *
  refine ⟨ht, hn, hu, hh, e, ⟨g0, ?_⟩, ⟨r0, by omega⟩, ?_⟩
  · rcases Int.lt_or_le 4294967297 g with h1 | h1
    · have h2 : 4294967298 * top ≤ g * top := Int.mul_le_mul_of_nonneg_right (by omega) (by omega)
      omega
    · exact h1
  · have h1 : 0 ≤ (g + 1) * nx := Int.mul_nonneg (by omega) hn.1
    rw [Int.mul_add, ← Int.mul_assoc, Int.add_mul g 1 top]
    omega
/-- It is too great: by its size. -/
theorem Guess.over1 (k : Guess top nx h u0 g r) (h1 : 4294967295 < g) : h * 4294967296 + u0 < g * (top * 4294967296 + nx) := by
  obtain ⟨ht, hn, hu, hh, e, hg, hr, _⟩ := k
  have h2 : 4294967296 * (top * 4294967296 + nx) ≤ g * (top * 4294967296 + nx) := Int.mul_le_mul_of_nonneg_right (by omega) (by omega)
  omega
/-- It is too great: by the next word. -/
theorem Guess.over2 (k : Guess top nx h u0 g r) (h1 : u0 + r * 4294967296 < g * nx) : h * 4294967296 + u0 < g * (top * 4294967296 + nx) := by
  obtain ⟨ht, hn, hu, hh, e, hg, hr, _⟩ := k
  rw [Int.mul_add, ← Int.mul_assoc]
  omega
theorem Guess.pos (k : Guess top nx h u0 g r) (h1 : h * 4294967296 + u0 < g * (top * 4294967296 + nx)) : 0 < g := by
  obtain ⟨ht, hn, hu, hh, e, hg, hr, _⟩ := k
  rcases Int.lt_or_le 0 g with h2 | h2
  · exact h2
  · obtain rfl : g = 0 := by omega
    omega
theorem Guess.again (k : Guess top nx h u0 g r) (h1 : h * 4294967296 + u0 < g * (top * 4294967296 + nx)) (h2 : r + top < 4294967296) : Guess top nx h u0 (g - 1) (r + top) := by
  have hp := k.pos h1
  obtain ⟨ht, hn, hu, hh, e, hg, hr, _⟩ := k
  refine ⟨ht, hn, hu, hh, ?_, by omega, by omega, by rw [Int.sub_add_cancel]; exact h1⟩
  rw [Int.sub_mul]; omega
theorem Guess.stop1 (k : Guess top nx h u0 g r) (h1 : g * nx ≤ u0 + r * 4294967296) : g = (h * 4294967296 + u0) / (top * 4294967296 + nx) := by
  obtain ⟨ht, hn, hu, hh, e, hg, hr, hw⟩ := k
  have h2 : g * (top * 4294967296 + nx) ≤ h * 4294967296 + u0 := by rw [Int.mul_add, ← Int.mul_assoc]; omega
  refine Int.le_antisymm ((Int.le_ediv_iff_mul_le (by omega)).2 h2) (Int.le_of_lt_add_one ((Int.ediv_lt_iff_lt_mul (by omega)).2 hw))
theorem Guess.stop2 (k : Guess top nx h u0 g r) (h1 : h * 4294967296 + u0 < g * (top * 4294967296 + nx)) (h2 : 4294967296 ≤ r + top) : g - 1 = (h * 4294967296 + u0) / (top * 4294967296 + nx) := by
  have hp := k.pos h1
  obtain ⟨ht, hn, hu, hh, e, hg, hr, hw⟩ := k
  have h3 : (g - 1) * nx ≤ 4294967296 * nx := Int.mul_le_mul_of_nonneg_right (by omega) hn.1
  have h4 : (g - 1) * (top * 4294967296 + nx) ≤ h * 4294967296 + u0 := by rw [Int.mul_add, ← Int.mul_assoc, Int.sub_mul g 1 top]; omega
  refine Int.le_antisymm ((Int.le_ediv_iff_mul_le (by omega)).2 h4) (Int.le_of_lt_add_one ((Int.ediv_lt_iff_lt_mul (by omega)).2 (by rw [Int.sub_add_cancel]; exact h1)))
end

/-- The long division with j rounds to go. -/
def DivAt (w0 w : World) (gu gq la : Nat) (v U : Int) (j : Nat) : Prop :=
  ∃ u q, Blk .u32 182 w gu (la + 2) u ∧ W32 u (la + 2) ∧ Blk .u32 182 w gq la q ∧ W32 q la ∧ (∀ i, i < j → q i = 0) ∧ V q la * v + V u (la + 2) = U ∧ (∀ i, j + 1 < i → i < la + 2 → u i = 0) ∧ u (j + 1) * 4294967296 + u j < v ∧ Gr w0 w
theorem DivAt.gr {w0 w : World} {gu gq la : Nat} {v U : Int} {j : Nat} (h : DivAt w0 w gu gq la v U j) : Gr w0 w := by
  obtain ⟨u, q, _, _, _, _, _, _, _, _, h⟩ := h
  exact h

theorem DivAt.drewN {w0 w : World} {gu gq la : Nat} {v U : Int} {j : Nat} (h : DivAt w0 w gu gq la v U j) (m : Nat) : DivAt w0 (w.drewN m) gu gq la v U j := by
  obtain ⟨u, q, h1, h2, h3, h4, h5, h6, h7, h8, h9⟩ := h
  exact ⟨u, q, h1.drewN m, h2, h3.drewN m, h4, h5, h6, h7, h8, h9.drewN m⟩

/-- g times the divisor is taken from the words at j, behind k words of it. -/
def TakeAt (w0 w : World) (gu gq la : Nat) (u q f : Nat → Int) (j : Nat) (g : Int) (k : Nat) (c d : Int) : Prop :=
  ∃ y, Blk .u32 182 w gu (la + 2) y ∧ W32 y (la + 2) ∧ (∀ i, j + k ≤ i → y i = u i) ∧ (∀ i, i < j → y i = u i) ∧ V y (j + k) + g * V f k * Bp j = V u (j + k) + (c + d) * Bp (j + k) ∧ (0 ≤ c ∧ c < 4294967296) ∧ (0 ≤ d ∧ d ≤ 1) ∧ Blk .u32 182 w gq la q ∧ Gr w0 w
section
variable {w0 w : World} {gu gq la j k : Nat} {u q f : Nat → Int} {g c d : Int}
theorem TakeAt.start (h1 : Blk .u32 182 w gu (la + 2) u) (h2 : W32 u (la + 2)) (h3 : Blk .u32 182 w gq la q) (h4 : Gr w0 w) : TakeAt w0 w gu gq la u q f j g 0 0 0 :=
  ⟨u, h1, h2, fun _ _ => rfl, fun _ _ => rfl, by simp [V], by omega, by omega, h3, h4⟩
theorem TakeAt.gr (h : TakeAt w0 w gu gq la u q f j g k c d) : Gr w0 w := by
  obtain ⟨y, _, _, _, _, _, _, _, _, h⟩ := h
  exact h
theorem TakeAt.now (h : TakeAt w0 w gu gq la u q f j g k c d) (hj : j + k < la + 2) : w.cell? ⟨gu, j + k, none⟩ = some (.int .u32 (u (j + k))) ∧ w.frozen? ⟨gu, j + k, none⟩ = false ∧ (0 ≤ c ∧ c < 4294967296) ∧ (0 ≤ d ∧ d ≤ 1) := by
  obtain ⟨y, h1, h2, h3, h4, h5, h6, h7, h8⟩ := h
  refine ⟨?_, h1.free _, h6, h7⟩
  rw [h1.cell hj, h3 _ (by omega)]
theorem TakeAt.step {t x p : Int} (h : TakeAt w0 w gu gq la u q f j g k c d) (hgu : w0.heap.size ≤ gu) (hne : gu ≠ gq) (hx : x = u (j + k)) (hx2 : 0 ≤ x ∧ x < 4294967296) (hp : p = c + g * f k) (hp2 : 0 ≤ p ∧ p < 18446744073709551616) (ht : t = x - p % 4294967296 - d) :
    TakeAt w0 (w.setCell ⟨gu, j + k, none⟩ (.int .u32 (t % 4294967296))) gu gq la u q f j g (k + 1) (p / 4294967296) (if t < 0 then 1 else 0) := by
  obtain ⟨y, h1, h2, h3, h4, h5, h6, h7, h8, h9⟩ := h
  refine ⟨_, h1.set _ _, h2.upd ⟨Int.emod_nonneg _ (by omega), Int.emod_lt_of_pos _ (by omega)⟩, fun i hi => ?_, fun i hi => ?_, ?_, by omega, by split <;> omega, h8.other (by exact hne) _, h9.setCell hgu _⟩
  · rw [upd_ne _ _ (by omega)]; exact h3 i (by omega)
  · rw [upd_ne _ _ (by omega)]; exact h4 i hi
  · have e1 : V f (k + 1) = V f k + f k * Bp k := rfl
    have e2 : V u (j + k + 1) = V u (j + k) + u (j + k) * Bp (j + k) := rfl
    have e3 : ∀ F : Nat → Int, V F (j + k + 1) = V F (j + k) + F (j + k) * Bp (j + k) := fun _ => rfl
    rw [← Nat.add_assoc, e1, e3, e3, V_upd_out (Nat.le_refl _), upd_at, ← hx, Bp]
    have e4 := Bp_add j k
    have e5 : t % 4294967296 = t + (if t < 0 then 1 else 0) * 4294967296 := by split <;> omega
    have e6 := Int.mul_ediv_add_emod p 4294967296
    rw [e5]
    generalize (if t < 0 then (1 : Int) else 0) = b at *
    rw [ht]
    generalize p / 4294967296 = ph at *
    generalize p % 4294967296 = pl at *
    rw [e4] at h5 ⊢
    generalize Bp j = bj at *
    generalize Bp k = bk at *
    generalize V y (j + k) = vy at *
    generalize V u (j + k) = vu at *
    generalize V f k = vf at *
    generalize f k = fk at *
    clear e1 e2 e3 e4 e5
    grind
/-- The whole divisor is taken: nothing is left of the word above. -/
theorem TakeAt.done {v : Int} (h : TakeAt w0 w gu gq la u q f j g 2 c d) (hj : j + 2 < la + 2) (hv : V f 2 = v) (hv2 : v < 18446744073709551616)
    (hg : g * v ≤ (u (j + 2) * 4294967296 + u (j + 1)) * 4294967296 + u j ∧ (u (j + 2) * 4294967296 + u (j + 1)) * 4294967296 + u j < (g + 1) * v) : u (j + 2) = c + d := by
  obtain ⟨y, h1, h2, h3, h4, h5, h6, h7, h8, h9⟩ := h
  have y0 := h2 j (by omega)
  have y1 := h2 (j + 1) (by omega)
  have e1 : ∀ F : Nat → Int, V F (j + 2) = V F j + F j * Bp j + F (j + 1) * Bp (j + 1) := fun _ => rfl
  rw [e1, e1, hv, V_congr h4, Bp_add j 2, show Bp (j + 1) = 4294967296 * Bp j from rfl, show Bp 2 = 18446744073709551616 from rfl] at h5
  have hb := Bp_pos j
  have h10 : (y j + y (j + 1) * 4294967296 + g * v) * Bp j = (u j + u (j + 1) * 4294967296 + (c + d) * 18446744073709551616) * Bp j := by
    generalize Bp j = bj at *
    grind
  have h11 := Int.eq_of_mul_eq_mul_right (by omega) h10
  rw [show (g + 1) * v = g * v + v by rw [Int.add_mul, Int.one_mul]] at hg
  generalize g * v = gv at *
  omega
theorem DivAt.step {v U : Int} {w' : World} (h : TakeAt w0 w gu gq la u q f j g 2 c d) (hj : j < la) (hgq : w0.heap.size ≤ gq) (hgu : w0.heap.size ≤ gu) (hne : gu ≠ gq) (hq : W32 q la) (hz : ∀ i, i < j + 1 → q i = 0) (hV : V q la * v + V u (la + 2) = U) (hzu : ∀ i, j + 2 < i → i < la + 2 → u i = 0)
    (hv : V f 2 = v) (hv2 : v < 18446744073709551616) (hgb : 0 ≤ g ∧ g < 4294967296)
    (hg : g * v ≤ (u (j + 2) * 4294967296 + u (j + 1)) * 4294967296 + u j ∧ (u (j + 2) * 4294967296 + u (j + 1)) * 4294967296 + u j < (g + 1) * v)
    (hw' : w' = (w.setCell ⟨gu, j + 2, none⟩ (.int .u32 0)).setCell ⟨gq, j, none⟩ (.int .u32 g)) : DivAt w0 w' gu gq la v U j := by
  have hc := h.done (by omega) hv hv2 hg
  subst hw'
  obtain ⟨y, h1, h2, h3, h4, h5, h6, h7, h8, h9⟩ := h
  have e1 : ∀ F : Nat → Int, V F (j + 2) = V F j + F j * Bp j + F (j + 1) * Bp (j + 1) := fun _ => rfl
  have h5' := h5
  rw [e1, e1, hv, V_congr h4, Bp_add j 2, show Bp (j + 1) = 4294967296 * Bp j from rfl, show Bp 2 = 18446744073709551616 from rfl] at h5'
  have hb := Bp_pos j
  have h10 : (y j + y (j + 1) * 4294967296 + g * v) * Bp j = (u j + u (j + 1) * 4294967296 + (c + d) * 18446744073709551616) * Bp j := by
    generalize Bp j = bj at *
    grind
  have h11 := Int.eq_of_mul_eq_mul_right (by omega) h10
  refine ⟨upd y (j + 2) 0, upd q j g, (h1.set _ _).other (by exact Ne.symm hne) _, h2.upd (by omega), (h8.other (by exact hne) _).set _ _, hq.upd hgb, fun i hi => ?_, ?_, fun i hi hi2 => ?_, ?_, (h9.setCell hgu _).setCell hgq _⟩
  · rw [upd_ne _ _ (by omega)]; exact hz i (by omega)
  · have f1 : V (upd y (j + 2) 0) (la + 2) = V (upd y (j + 2) 0) (j + 3) := V_zeros (by omega) fun i hi hi2 => by
      rw [upd_ne _ _ (by omega), h3 i (by omega)]; exact hzu i (by omega) hi2
    have f2 : V u (la + 2) = V u (j + 3) := V_zeros (by omega) fun i hi hi2 => hzu i (by omega) hi2
    have e3 : ∀ F : Nat → Int, V F (j + 3) = V F (j + 2) + F (j + 2) * Bp (j + 2) := fun _ => rfl
    rw [f1, e3, V_upd_out (Nat.le_refl _), upd_at, V_upd hj, hz j (by omega)]
    rw [f2, e3, hc] at hV
    rw [hv] at h5
    generalize V y (j + 2) = vy at *
    generalize V u (j + 2) = vu at *
    generalize V q la = vq at *
    generalize Bp (j + 2) = b2 at *
    generalize Bp j = bj at *
    clear h10 h11 h5' hg e1 e3 f1 f2
    grind
  · rcases Nat.lt_or_ge (j + 2) i with h12 | h12
    · rw [upd_ne _ _ (by omega), h3 i (by omega)]; exact hzu i h12 hi2
    · obtain rfl : i = j + 2 := by omega
      exact upd_at _ _ _
  · rw [upd_ne _ _ (by omega), upd_ne _ _ (by omega)]
    rw [show (g + 1) * v = g * v + v by rw [Int.add_mul, Int.one_mul], hc] at hg
    generalize g * v = gv at *
    omega
end
theorem DivAt.start {w0 w : World} {gu gq la A s : Nat} {u : Nat → Int} {v : Int} (h1 : Blk .u32 182 w gu (la + 2) u) (h2 : W32 u (la + 2)) (h3 : Blk .u32 182 w gq la fun _ => 0) (h4 : Gr w0 w) (hA : (A : Int) < Bp la) (hs : s < 32) (hV : V u (la + 2) = (A : Int) * P2 s) (hv : 9223372036854775808 ≤ v) : DivAt w0 w gu gq la v ((A : Int) * P2 s) la := by
  have hb := Bp_pos la
  have hp := P2_pos s
  have e3 : V u (la + 2) = V u la + u la * Bp la + u (la + 1) * Bp (la + 1) := rfl
  have hp31 : P2 s ≤ 2147483648 := by
    have h5 : P2 31 = P2 s * P2 (31 - s) := by rw [← P2_add]; congr 1; omega
    rw [P2_31] at h5
    have h6 := P2_pos (31 - s)
    have h7 : P2 s * 1 ≤ P2 s * P2 (31 - s) := Int.mul_le_mul_of_nonneg_left (by omega) (by omega)
    omega
  have h5 : (A : Int) * P2 s < Bp la * 2147483648 := by
    have h6 : (A : Int) * P2 s ≤ (A : Int) * 2147483648 := Int.mul_le_mul_of_nonneg_left hp31 (by omega)
    have h7 : (A : Int) * 2147483648 < Bp la * 2147483648 := Int.mul_lt_mul_of_pos_right hA (by omega)
    omega
  have h6 := (V_in (h2.mono (show la ≤ la + 2 by omega))).1
  have u0 := h2 la (by omega)
  have u1 := h2 (la + 1) (by omega)
  rw [show Bp (la + 1) = 4294967296 * Bp la from rfl] at e3
  have h7 : (u (la + 1) * 4294967296 + u la) * Bp la < 2147483648 * Bp la := by
    have h8 : (u (la + 1) * 4294967296 + u la) * Bp la = u la * Bp la + u (la + 1) * (4294967296 * Bp la) := by
      generalize Bp la = b at *; grind
    omega
  have h8 := Int.lt_of_mul_lt_mul_right h7 (by omega)
  refine ⟨u, fun _ => 0, h1, h2, h3, fun _ _ => ⟨Int.le_refl _, by show (0 : Int) < _; omega⟩, fun _ _ => rfl, ?_, fun i hi hi2 => by omega, by omega, h4⟩
  rw [V_zeros (Nat.zero_le _) fun _ _ _ => rfl, hV]
  simp [V]
theorem DivAt.last {w0 w : World} {gu gq la A B s : Nat} {v : Int} (h : DivAt w0 w gu gq la v ((A : Int) * P2 s) 0) (hl : la ≤ 1000) (hv : v = (B : Int) * P2 s) (hB : 0 < B) :
    (∃ q, Wds w (.slice (some ⟨gq, 0, none⟩) la la) la q ∧ V q la = ((A / B : Nat) : Int)) ∧ (∃ u, Wds w (.slice (some ⟨gu, 0, none⟩) (la + 2) (la + 2)) (la + 2) u ∧ V u (la + 2) = ((A % B * 2 ^ s : Nat) : Int)) := by
  obtain ⟨u, q, h1, h2, h3, h4, _, h5, h6, h7, _⟩ := h
  have hp := P2_pos s
  rw [Nat.zero_add] at h7
  have f2 : V u (la + 2) = V u 2 := V_zeros (by omega) fun i hi hi2 => h6 i (by omega) hi2
  have f3 : V u 2 = u 1 * 4294967296 + u 0 := by simp [V, Bp]; omega
  have u0 := h2 0 (by omega)
  have u1 := h2 1 (by omega)
  have hV0 := (V_in h4).1
  rw [f2, f3] at h5
  have hR : u 1 * 4294967296 + u 0 = (A : Int) * P2 s % v := by
    rw [← h5, Int.add_comm (V q la * v), Int.add_mul_emod_self_right, Int.emod_eq_of_lt (by omega) h7]
  have hQ : V q la = (A : Int) * P2 s / v := by
    rw [← h5, Int.add_comm (V q la * v), Int.add_mul_ediv_right _ _ (by have : (0 : Int) < (B : Int) * P2 s := Int.mul_pos (by omega) (by omega); omega), Int.ediv_eq_zero_of_lt (by omega) h7, Int.zero_add]
  refine ⟨⟨q, h3.wds (by omega) h4, ?_⟩, u, h1.wds (by omega) h2, ?_⟩
  · rw [hQ, hv, Int.natCast_ediv, Int.mul_ediv_mul_of_pos_left _ _ (by omega)]
  · rw [f2, f3, hR, hv, Int.mul_comm (A : Int), Int.mul_comm (B : Int), Int.mul_emod_mul_of_pos _ _ (by omega), P2_nat]
    simp [Int.mul_comm]
end Go.Proofs.YtgifghbnpdanhaaGreatDoor

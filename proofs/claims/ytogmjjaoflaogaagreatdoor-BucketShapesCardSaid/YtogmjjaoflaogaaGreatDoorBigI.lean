/-
  millracebig.Int: Mul, Add, Sub.
-/
import Derived.Test.YtogmjjaoflaogaaGreatDoorBigH
import Derived.StillTailTactics
import Derived.Deep.RegionHeld3
import Derived.Deep.RegionWith
namespace Go.Proofs.YtogmjjaoflaogaaGreatDoor
open Go.RowKit

theorem signed_mul {a b : Int} : signed (!(decide (a < 0) == decide (b < 0))) (a.natAbs * b.natAbs) = a * b := by
  have h : ((a.natAbs * b.natAbs : Nat) : Int) = (a.natAbs : Int) * (b.natAbs : Int) := by simp
  unfold signed
  rw [h]
  by_cases h1 : a < 0 <;> by_cases h2 : b < 0
  · rw [decide_eq_true h1, decide_eq_true h2, show (a.natAbs : Int) = -a by omega, show (b.natAbs : Int) = -b by omega]; simp [Int.neg_mul, Int.mul_neg]
  · rw [decide_eq_true h1, decide_eq_false (by omega), show (a.natAbs : Int) = -a by omega, show (b.natAbs : Int) = b by omega]; simp [Int.neg_mul]
  · rw [decide_eq_false (by omega), decide_eq_true h2, show (a.natAbs : Int) = a by omega, show (b.natAbs : Int) = -b by omega]; simp [Int.mul_neg]
  · rw [decide_eq_false (by omega), decide_eq_false (by omega), show (a.natAbs : Int) = a by omega, show (b.natAbs : Int) = b by omega]; simp

theorem one_gr {w w' : World} {s t : Nat} {y0 y1 : Value} (h : Gr w w') (c : w.cell? ⟨s, t, none⟩ = some y0) (d : w.cell? ⟨s, t + 1, none⟩ = some y1) : w'.cell? ⟨s, t, none⟩ = some y0 ∧ w'.cell? ⟨s, t + 1, none⟩ = some y1 := ⟨h.cell c, h.cell d⟩
theorem one_only {w w' : World} {p o s t : Nat} {y0 y1 : Value} (k : w.cell? ⟨s, t, none⟩ = some y0 ∧ w.cell? ⟨s, t + 1, none⟩ = some y1) (h : Only p o w w') (n2 : s ≠ p) : w'.cell? ⟨s, t, none⟩ = some y0 ∧ w'.cell? ⟨s, t + 1, none⟩ = some y1 :=
  ⟨(h.cell s t (cell_lt k.1) (.inl n2)).trans k.1, (h.cell s (t + 1) (cell_lt k.2) (.inl n2)).trans k.2⟩
theorem hold_gr {w w' : World} {q r s t : Nat} {x0 x1 y0 y1 : Value} (h : Gr w w') (a : w.cell? ⟨q, r, none⟩ = some x0) (b : w.cell? ⟨q, r + 1, none⟩ = some x1) (c : w.cell? ⟨s, t, none⟩ = some y0) (d : w.cell? ⟨s, t + 1, none⟩ = some y1) :
    (w'.cell? ⟨q, r, none⟩ = some x0 ∧ w'.cell? ⟨q, r + 1, none⟩ = some x1) ∧ (w'.cell? ⟨s, t, none⟩ = some y0 ∧ w'.cell? ⟨s, t + 1, none⟩ = some y1) := ⟨⟨h.cell a, h.cell b⟩, h.cell c, h.cell d⟩
theorem hold_only {w w' : World} {p o q r s t : Nat} {x0 x1 y0 y1 : Value} (k : (w.cell? ⟨q, r, none⟩ = some x0 ∧ w.cell? ⟨q, r + 1, none⟩ = some x1) ∧ (w.cell? ⟨s, t, none⟩ = some y0 ∧ w.cell? ⟨s, t + 1, none⟩ = some y1)) (h : Only p o w w') (n1 : q ≠ p) (n2 : s ≠ p) :
    (w'.cell? ⟨q, r, none⟩ = some x0 ∧ w'.cell? ⟨q, r + 1, none⟩ = some x1) ∧ (w'.cell? ⟨s, t, none⟩ = some y0 ∧ w'.cell? ⟨s, t + 1, none⟩ = some y1) := by
  obtain ⟨⟨a, b⟩, c, d⟩ := k
  exact ⟨⟨(h.cell q r (cell_lt a) (.inl n1)).trans a, (h.cell q (r + 1) (cell_lt b) (.inl n1)).trans b⟩, (h.cell s t (cell_lt c) (.inl n2)).trans c, (h.cell s (t + 1) (cell_lt d) (.inl n2)).trans d⟩

set_option maxRecDepth 100000 in
set_option maxHeartbeats 8000000 in
theorem imul_any (p o q r s t : Nat) (x y : Int) (w : World) (hs : Slot w p o) (hx : IntAt w q r x) (hy : IntAt w s t y) (bx : LtB x.natAbs 40) (bY : LtB y.natAbs 40) (n1 : q ≠ p) (n2 : s ≠ p) :
    Calls Tryz.prog 49 #[.pointer (some ⟨p, o, none⟩), .pointer (some ⟨q, r, none⟩), .pointer (some ⟨s, t, none⟩)] w (Gave p o (x * y) w) := by
  obtain ⟨c0, a, n, c, c1, hN⟩ := hx.open
  obtain ⟨e0, a', n', c', e1, hN'⟩ := hy.open
  have C0 := Lib.hid c0
  have C1 := Lib.hid c1
  have E0 := Lib.hid e0
  have E1 := Lib.hid e1
  have H := Lib.hid hN
  have H' := Lib.hid hN'
  have HS := Lib.hid hs
  have HO := Lib.hid (signed_mul (a := x) (b := y))
  clear hN hs hx hy hN'
  generalize decide (x < 0) = b at *
  generalize decide (y < 0) = b2 at *
  go_enter Tryz.func49, Tryz.ntmps49
  go_wp2
  go_region_held3 (fun w' => (w'.cell? ⟨q, r, none⟩ = some (.bool b) ∧ w'.cell? ⟨q, r + 1, none⟩ = some (.slice a n c)) ∧ (w'.cell? ⟨s, t, none⟩ = some (.bool b2) ∧ w'.cell? ⟨s, t + 1, none⟩ = some (.slice a' n' c')))
    (first
      | exact hold_only (hold_gr (((Gr.refl w).drew).trans hg1) C0.out C1.out E0.out E1.out) ho n1 n2
      | exact hold_gr (((Gr.refl w).drew).trans hg1) C0.out C1.out E0.out E1.out
      | go_keep)
    (first
      | (go_at_call 66; refine (mul_any _ (H.out.gr ((Gr.refl w).drew)) (H'.out.gr ((Gr.refl w).drew)) bx.lt bY.lt).mono ?_; rintro e w1 ⟨⟨r', rfl, hr⟩, hg1⟩)
      | (go_at_call 65; refine (give_any p o _ _ (HS.out.gr (((Gr.refl w).drew).trans hg1)) hr).mono ?_; rintro e w2 ⟨rfl, hh, ho⟩))
  rw [HO.out] at hh
  have HH := Lib.hid hh
  have HOO := Lib.hid ((Only.of_gr (((Gr.refl w).drew).trans hg1)).trans ho)
  clear hh ho hr hg1
  go_wp2
  go_ret
  exact ⟨rfl, HH.out, HOO.out⟩

/-- What a sum's sign and number are. -/
def sumB (b b' : Bool) (N M : Nat) : Bool := if b = b' then b else if M ≤ N then b else b'
def sumN (b b' : Bool) (N M : Nat) : Nat := if b = b' then N + M else if M ≤ N then N - M else M - N
/-- The call returns a sign and a number. -/
def Summed (b : Bool) (N : Nat) (e : Ending) (w' : World) : Prop := ∃ r, e = .returned (.tuple #[.bool b, r]) ∧ Num w' r N
theorem signed_add (b : Bool) (N M : Nat) : signed b (N + M) = signed b N + signed b M := by cases b <;> simp [signed] <;> omega
theorem signed_sub {b b' : Bool} (h : b ≠ b') {N M : Nat} (hl : M ≤ N) : signed b (N - M) = signed b N + signed b' M := by cases b <;> cases b' <;> simp_all [signed] <;> omega
theorem signed_bus {b b' : Bool} (h : b ≠ b') {N M : Nat} (hl : N ≤ M) : signed b' (M - N) = signed b N + signed b' M := by cases b <;> cases b' <;> simp_all [signed] <;> omega
set_option maxRecDepth 100000 in
set_option maxHeartbeats 4000000 in
theorem sum_any {v v' : Value} {N M : Nat} (b b' : Bool) (w : World) (h : Num w v N) (h' : Num w v' M) (bx : LtB N 40) (bY : LtB M 40) :
    Calls Tryz.prog 77 #[.bool b, v, .bool b', v'] w fun e w' => Summed (sumB b b' N M) (sumN b b' N M) e w' ∧ Gr w w' := by
  have H := Lib.hid h
  have H' := Lib.hid h'
  clear h h'
  by_cases h1 : b = b'
  · subst h1
    have HO : Hid (sumB b b N M = b ∧ sumN b b N M = N + M) := Lib.hid (by simp [sumB, sumN])
    rw [HO.out.1, HO.out.2]
    go_enter Tryz.func77, Tryz.ntmps77
    go_wp2_with (go_at_call 85; refine (add_any _ H.out H'.out bx.lt bY.lt).mono ?_; rintro e w1 ⟨⟨r, rfl, hr⟩, hg1⟩; have HR := Lib.hid hr; have HG1 := Lib.hid hg1; clear hg1 hr)
    go_ret2
    exact ⟨⟨r, rfl, HR.out⟩, HG1.out⟩
  · have HB := Lib.hid h1
    have hb : (b == b') = false := by simpa using h1
    clear h1
    rcases Nat.lt_or_ge N M with hl | hl
    · have HL := Lib.hid hl
      have HO : Hid (sumB b b' N M = b' ∧ sumN b b' N M = M - N) := Lib.hid (by simp [sumB, sumN, HB.out]; omega)
      rw [HO.out.1, HO.out.2]
      have HS := Lib.hid (sg_lt (show (N : Int) < (M : Int) by omega))
      clear hl
      go_enter Tryz.func77, Tryz.ntmps77
      go_wp2_with (first
        | (go_at_call 64; refine (cmp_any _ H.out H'.out).mono ?_; rintro e w1 ⟨rfl, hg1⟩; rw [HS.out]; have HG1 := Lib.hid hg1; clear hg1)
        | (go_at_call 86; refine (sub_any _ (H'.out.gr HG1.out) (H.out.gr HG1.out) bY.lt (Nat.le_of_lt HL.out)).mono ?_; rintro e w2 ⟨⟨r, rfl, hr⟩, hg2⟩; have HR := Lib.hid hr; have HG2 := Lib.hid (HG1.out.trans hg2); clear hg2 hr))
      go_ret2
      exact ⟨⟨r, rfl, HR.out⟩, HG2.out⟩
    · have HL := Lib.hid hl
      have HO : Hid (sumB b b' N M = b ∧ sumN b b' N M = N - M) := Lib.hid (by simp [sumB, sumN, HB.out, hl])
      rw [HO.out.1, HO.out.2]
      obtain ⟨s, hs⟩ : ∃ s, s = sg (N : Int) (M : Int) := ⟨_, rfl⟩
      have s0 : 0 ≤ s := by
        rw [hs]
        rcases Nat.lt_or_ge M N with h2 | h2
        · rw [sg_gt (by omega)]; omega
        · rw [sg_eq (by omega)]; omega
      have HS := Lib.hid hs
      clear hl hs
      go_enter Tryz.func77, Tryz.ntmps77
      go_wp2_with (first
        | (go_at_call 64; refine (cmp_any _ H.out H'.out).mono ?_; rintro e w1 ⟨rfl, hg1⟩; rw [← HS.out]; have HG1 := Lib.hid hg1; clear hg1)
        | (go_at_call 86; refine (sub_any _ (H.out.gr HG1.out) (H'.out.gr HG1.out) bx.lt HL.out).mono ?_; rintro e w2 ⟨⟨r, rfl, hr⟩, hg2⟩; have HR := Lib.hid hr; have HG2 := Lib.hid (HG1.out.trans hg2); clear hg2 hr))
      go_ret2
      exact ⟨⟨r, rfl, HR.out⟩, HG2.out⟩
theorem signed_sum (b b' : Bool) (N M : Nat) : signed (sumB b b' N M) (sumN b b' N M) = signed b N + signed b' M := by
  unfold sumB sumN
  by_cases h1 : b = b'
  · subst h1
    simp only [if_true]
    exact signed_add b N M
  · simp only [h1, if_false]
    by_cases h2 : M ≤ N
    · simp only [h2, if_true]
      exact signed_sub h1 h2
    · simp only [h2, if_false]
      exact signed_bus h1 (by omega)

end Go.Proofs.YtogmjjaoflaogaaGreatDoor

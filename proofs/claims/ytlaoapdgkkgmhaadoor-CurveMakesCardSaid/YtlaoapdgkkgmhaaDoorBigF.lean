/-
  millracebig's words: div of at most two words.
-/
import Derived.Test.YtlaoapdgkkgmhaaDoorBigE
import Derived.Deep.RegionHeld3
namespace Go.Proofs.YtlaoapdgkkgmhaaDoor
open Go.RowKit

set_option maxRecDepth 100000 in
set_option maxHeartbeats 4000000 in
theorem div_two {v v' : Value} {A B : Nat} (w : World) (h : Num w v A) (h' : Num w v' B) (h0 : 0 < B) (hAB : B ≤ A) (hA : (A : Int) < Bp 2) :
    Calls Tryd.prog 59 #[v, v'] w fun e w' => Gives2 (A / B) (A % B) e w' ∧ Gr w w' := by
  obtain ⟨a, n, cap, rfl, hn, _⟩ := h.shape
  obtain ⟨a', n', cap', rfl, hn', _⟩ := h'.shape
  have hp := h'.pos h0
  have hl := h.len hA
  have hA2 : (A : Int) < 18446744073709551616 := by simpa [Bp] using hA
  have H := Lib.hid h
  have H' := Lib.hid h'
  have HS : Hid (sg (A : Int) (B : Int) = 0 ∨ sg (A : Int) (B : Int) = 1) := Lib.hid (by unfold sg; split; omega; split <;> simp)
  have HA : LtB A 2 := ⟨hA⟩
  have HB : LtB B 2 := ⟨by omega⟩
  have HW : Hid (∀ x : Nat, (x = A / B ∨ x = A % B) → ∀ u, Calls Tryd.prog 61 #[.int .u64 (x : Int)] u fun e w' => Gives x e w' ∧ Gr u w') := Lib.hid (fun x hx u => words_any x u (by
    have := Nat.div_le_self A B
    have := Nat.mod_le A B
    omega))
  have t3 : (A : Int) / (B : Int) = ((A / B : Nat) : Int) := (Int.natCast_ediv A B).symm
  have t4 : (A : Int) % (B : Int) = ((A % B : Nat) : Int) := (Int.natCast_emod A B).symm
  have t1 : (A : Int).tdiv (B : Int) = ((A / B : Nat) : Int) := by rw [Int.tdiv_eq_ediv_of_nonneg (by omega), t3]
  have t2 : (A : Int).tmod (B : Int) = ((A % B : Nat) : Int) := by rw [Int.tmod_eq_emod_of_nonneg (by omega), t4]
  have s1 := wrap_nat (A / B) (by have := Nat.div_le_self A B; omega)
  have s2 := wrap_nat (A % B) (by have := Nat.mod_le A B; omega)
  have b7 : ¬ B = 0 := by omega
  generalize A / B = q at *
  generalize A % B = r at *
  have hB0 : (0 : Int) < (B : Int) := by omega
  have hAB' : (B : Int) ≤ (A : Int) := by omega
  clear h h' hAB hA h0 hA2
  have b1 : (0 : Int) < (n' : Int) := by omega
  have b2 : ((n' : Int) == 0) = false := by simp; omega
  have b3 : (n : Int) ≤ 2 := by omega
  have b4 : ((B : Int) == 0) = false := by simp; omega
  obtain ⟨s, hs⟩ : ∃ s, s = sg (A : Int) (B : Int) := ⟨_, rfl⟩
  have HSS := Lib.hid hs
  have s0 : 0 ≤ s := by rcases HS.out with e | e <;> omega
  clear hs
  go_enter Tryd.func59, Tryd.ntmps59
  go_wp2_with (first
    | (go_at_call 67; refine (cmp_any _ H.out H'.out).mono ?_; rintro e w1 ⟨rfl, hg1⟩; rw [← HSS.out]; have HG1 := Lib.hid hg1; clear hg1; have tok1 := trivial)
    | (go_at_call 66; have _ := tok1; refine (plain_any _ (H.out.gr HG1.out) HA.lt).mono ?_; rintro e w2 ⟨rfl, rfl⟩; clear tok1; have tok2 := trivial)
    | (go_at_call 66; have _ := tok2; refine (plain_any _ (H'.out.gr HG1.out) HB.lt).mono ?_; rintro e w2 ⟨rfl, rfl⟩; clear tok2))
  go_region_held3 (fun _ => True) (trivial) (first
    | (go_at_call 61; have _ := tok3; refine (HW.out _ (by first | exact .inl rfl | exact .inr rfl) _).mono ?_; rintro e w3 ⟨⟨r3, rfl, hr⟩, hg2⟩; have HR := Lib.hid hr; have HGR := Lib.hid hg2; clear hg2 hr)
    | (go_at_call 61; refine (HW.out _ (by first | exact .inl rfl | exact .inr rfl) _).mono ?_; rintro e w2 ⟨⟨r, rfl, hr⟩, hg2⟩; have HQ := Lib.hid hr; have HGQ := Lib.hid hg2; clear hg2 hr; have tok3 := trivial))
  go_wp2
  go_ret2
  exact ⟨.mk (HQ.out.gr HGR.out) HR.out, (HG1.out.drew.trans HGQ.out).trans HGR.out⟩

end Go.Proofs.YtlaoapdgkkgmhaaDoor

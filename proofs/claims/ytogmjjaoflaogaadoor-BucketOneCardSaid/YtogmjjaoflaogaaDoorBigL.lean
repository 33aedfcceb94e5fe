/-
  millracebig.Int: QuoRem, Uint64, Int64.
-/
import Derived.Test.YtogmjjaoflaogaaDoorBigI
import Derived.Test.YtogmjjaoflaogaaDoorBigY
import Derived.Test.YtogmjjaoflaogaaDoorBigE
import Derived.Deep.RegionHeld3
namespace Go.Proofs.YtogmjjaoflaogaaDoor
open Go.RowKit

/-- What div serves: a divisor of at most two words. -/
structure DivOk (A B : Nat) : Prop where
  pos : 0 < B
  small : A < B ∨ (A : Int) < Bp 2 ∨ ((B : Int) < Bp 2 ∧ (A : Int) < Bp 40)
theorem div_any {v v' : Value} {A B : Nat} (w : World) (h : Num w v A) (h' : Num w v' B) (k : DivOk A B) :
    Calls Tryd.prog 84 #[v, v'] w fun e w' => Gives2 (A / B) (A % B) e w' ∧ Gr w w' := by
  obtain ⟨h0, hc⟩ := k
  rcases Nat.lt_or_ge A B with h1 | h1
  · exact div_less w h h' h1
  · by_cases h2 : (A : Int) < Bp 2
    · exact div_two w h h' h0 h1 h2
    · rcases hc with hc | hc | hc
      · omega
      · exact absurd hc h2
      · by_cases h3 : B < 4294967296
        · exact div_one w h h' h0 h3 (by omega) hc.2
        · exact div_long w h h' (by omega) (by have e : Bp 2 = 18446744073709551616 := rfl; omega) (by omega) hc.2

theorem signed_quo {x y : Int} : signed (!(decide (x < 0) == decide (y < 0))) (x.natAbs / y.natAbs) = x.tdiv y := by
  unfold signed
  by_cases h1 : x < 0 <;> by_cases h2 : y < 0
  · rw [decide_eq_true h1, decide_eq_true h2]
    obtain ⟨a, rfl⟩ : ∃ a : Nat, x = -(a : Int) := ⟨x.natAbs, by omega⟩
    obtain ⟨b, rfl⟩ : ∃ b : Nat, y = -(b : Int) := ⟨y.natAbs, by omega⟩
    simp [Int.neg_tdiv, Int.tdiv_neg, Int.natCast_tdiv_eq_ediv]
  · rw [decide_eq_true h1, decide_eq_false h2]
    obtain ⟨a, rfl⟩ : ∃ a : Nat, x = -(a : Int) := ⟨x.natAbs, by omega⟩
    obtain ⟨b, rfl⟩ : ∃ b : Nat, y = (b : Int) := ⟨y.natAbs, by omega⟩
    simp [Int.neg_tdiv]
  · rw [decide_eq_false h1, decide_eq_true h2]
    obtain ⟨a, rfl⟩ : ∃ a : Nat, x = (a : Int) := ⟨x.natAbs, by omega⟩
    obtain ⟨b, rfl⟩ : ∃ b : Nat, y = -(b : Int) := ⟨y.natAbs, by omega⟩
    simp [Int.tdiv_neg]
  · rw [decide_eq_false h1, decide_eq_false h2]
    obtain ⟨a, rfl⟩ : ∃ a : Nat, x = (a : Int) := ⟨x.natAbs, by omega⟩
    obtain ⟨b, rfl⟩ : ∃ b : Nat, y = (b : Int) := ⟨y.natAbs, by omega⟩
    simp
theorem signed_rem {x y : Int} : signed (decide (x < 0)) (x.natAbs % y.natAbs) = x.tmod y := by
  unfold signed
  by_cases h1 : x < 0
  · rw [decide_eq_true h1]
    obtain ⟨a, rfl⟩ : ∃ a : Nat, x = -(a : Int) := ⟨x.natAbs, by omega⟩
    rcases Int.natAbs_eq y with e | e <;> (rw [e]; simp [Int.neg_tmod, Int.tmod_neg]; exact (Int.tmod_eq_emod_of_nonneg (by omega)).symm)
  · rw [decide_eq_false h1]
    obtain ⟨a, rfl⟩ : ∃ a : Nat, x = (a : Int) := ⟨x.natAbs, by omega⟩
    rcases Int.natAbs_eq y with e | e <;> (rw [e]; simp [Int.tmod_neg]; exact (Int.tmod_eq_emod_of_nonneg (by omega)).symm)



end Go.Proofs.YtogmjjaoflaogaaDoor

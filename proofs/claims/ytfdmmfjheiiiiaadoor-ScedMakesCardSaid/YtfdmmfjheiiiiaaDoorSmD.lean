/-
  The plan of flows that may be.
-/
import Derived.Test.YtfdmmfjheiiiiaaDoorSmB
namespace Go.Proofs.YtfdmmfjheiiiiaaDoor
open Go.RowKit Go.Extern.Stop Go.Stop Go.Extern

/-- What comes may come. -/
def Comes (cs : List Int) : Prop := ∀ j, j < cs.length → cmAt cs j = 0
theorem getD_out {cs : List Int} {j : Nat} (h : cs.length ≤ j) : cs.getD j 0 = 0 := by simp [List.getElem?_eq_none h]
theorem Comes.at {cs : List Int} (h : Comes cs) (j : Nat) : 0 ≤ cs.getD j 0 ∧ cs.getD j 0 ≤ 100 := by
  rcases Nat.lt_or_ge j cs.length with h1 | h1
  · exact (cmAt_ok (h j h1)).1
  · rw [getD_out h1]; omega
theorem Comes.end {cs : List Int} {t : Nat} (ht : cs.length ≤ t) : sumTo cs t = sumTo cs cs.length := by
  induction t with
  | zero => rw [show cs.length = 0 by omega]
  | succ t ih =>
    rcases Nat.lt_or_ge t cs.length with h1 | h1
    · rw [show cs.length = t + 1 by omega]
    · rw [sumTo, ih h1, getD_out h1]; omega
theorem Comes.sum {cs : List Int} (h : Comes cs) : ∀ t, 0 ≤ sumTo cs t ∧ sumTo cs t ≤ 100 := by
  intro t
  rcases Nat.lt_or_ge cs.length t with h1 | h1
  · rw [Comes.end (by omega)]
    exact sumTo_in h
  · exact sumTo_in fun j hj => h j (by omega)
theorem Comes.step {cs : List Int} (h : Comes cs) (t : Nat) : sumTo cs t ≤ sumTo cs (t + 1) := by
  have := (h.at t).1
  rw [sumTo]; omega
theorem Comes.mono {cs : List Int} (h : Comes cs) {a b : Nat} (hab : a ≤ b) : sumTo cs a ≤ sumTo cs b := by
  induction b with
  | zero => obtain rfl : a = 0 := by omega
            omega
  | succ b ih =>
    rcases Nat.lt_or_ge b a with h1 | h1
    · obtain rfl : a = b + 1 := by omega
      omega
    · have := ih h1; have := h.step b; omega
theorem Comes.top {cs : List Int} (h : Comes cs) (t : Nat) : sumTo cs t ≤ sumTo cs cs.length := by
  rcases Nat.lt_or_ge cs.length t with h1 | h1
  · rw [Comes.end (by omega)]; omega
  · exact h.mono h1
theorem Comes.cum {cs : List Int} (h : Comes cs) (t : Nat) : ((cumN cs t : Nat) : Int) = sumTo cs t := Int.toNat_of_nonneg (h.sum t).1
/-- The plan. -/
def planOf (F : Nat → Flw) (n T : Nat) (h : ∀ i, i < n → Comes (F i).cs) : PlanP where
  n := n
  T := T
  c := fun i t => if i < n then cumN (F i).cs t else 0
  tot := fun i => if i < n then cumN (F i).cs (F i).cs.length else 0
  D := fun i k => dueF (F i).cs (F i).ps T k
  z := fun i => by
    by_cases hi : i < n
    · rw [if_pos hi]; rfl
    · rw [if_neg hi]
  mono := fun i t => by
    by_cases hi : i < n
    · rw [if_pos hi, if_pos hi]
      have := (h i hi).cum t; have := (h i hi).cum (t + 1); have := (h i hi).step t; omega
    · rw [if_neg hi, if_neg hi]; omega
  le := fun i t => by
    by_cases hi : i < n
    · rw [if_pos hi, if_pos hi]
      have := (h i hi).cum t; have := (h i hi).cum (F i).cs.length; have := (h i hi).top t; omega
    · rw [if_neg hi, if_neg hi]; omega
  all := fun i => ⟨(F i).cs.length, rfl⟩
section
variable {F : Nat → Flw} {n T : Nat} {h : ∀ i, i < n → Comes (F i).cs} {i : Nat}
theorem planOf_c (hi : i < n) (t : Nat) : (planOf F n T h).c i t = cumN (F i).cs t := if_pos hi
theorem planOf_tot (hi : i < n) : (planOf F n T h).tot i = cumN (F i).cs (F i).cs.length := if_pos hi
end
end Go.Proofs.YtfdmmfjheiiiiaaDoor

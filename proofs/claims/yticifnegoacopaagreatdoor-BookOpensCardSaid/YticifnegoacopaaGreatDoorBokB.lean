/-
  A name, by what a trim leaves of it. No program is named here.
-/
import Derived.Test.YticifnegoacopaaGreatDoorBokA
import Derived.Lib.SlTrimSet
import Derived.KernelRfl
namespace Go.Proofs.YticifnegoacopaaGreatDoor
open Go Go.RowKit

theorem drop_nil {p : UInt8 → Bool} : ∀ l : List UInt8, l.dropWhile p = [] ↔ l.all p = true
  | [] => by simp
  | x :: l => by
    cases hx : p x with
    | true => simp [List.dropWhile_cons, hx, drop_nil l]
    | false => simp [List.dropWhile_cons, hx]
theorem drop_head {p : UInt8 → Bool} : ∀ {l : List UInt8} {x : UInt8} {r : List UInt8}, l.dropWhile p = x :: r → p x = false
  | [], x, r, h => by simp at h
  | y :: l, x, r, h => by
    cases hy : p y with
    | true =>
      rw [List.dropWhile_cons, hy, if_pos rfl] at h
      exact drop_head h
    | false =>
      rw [List.dropWhile_cons, hy] at h
      simp at h
      rw [← h.1]
      exact hy
theorem trim_nil (l cs : List UInt8) : Lib.trimS l cs = [] ↔ (l.all fun b => cs.contains b) = true := by
  unfold Lib.trimS Lib.trimLeftS
  rw [drop_nil]
  unfold Lib.trimRightS
  constructor
  · intro h
    have h1 : (l.reverse.dropWhile fun b => cs.contains b) = [] := by
      cases hc : l.reverse.dropWhile fun b => cs.contains b with
      | nil => rfl
      | cons x r =>
        have h2 := drop_head hc
        rw [List.all_eq_true] at h
        have h3 := h x (by rw [hc]; simp)
        rw [h2] at h3
        cases h3
    have h4 := (drop_nil _).1 h1
    rw [List.all_reverse] at h4
    exact h4
  · intro h
    have h1 : (l.reverse.dropWhile fun b => cs.contains b) = [] := (drop_nil _).2 (by rw [List.all_reverse]; exact h)
    rw [h1]
    rfl
def kSet : ByteArray := ⟨#[97, 98, 99, 100, 101, 102, 103, 104, 105, 106, 107, 108, 109, 110, 111, 112, 113, 114, 115, 116, 117, 118, 119, 120, 121, 122, 48, 49, 50, 51, 52, 53, 54, 55, 56, 57, 45]⟩
theorem set_all : ((List.range 256).all fun n => kSet.data.toList.contains (UInt8.ofNat n) == nameB (UInt8.ofNat n)) = true := by kernel_rfl
theorem set_nat (n : Nat) (h : n < 256) : kSet.data.toList.contains (UInt8.ofNat n) = nameB (UInt8.ofNat n) := by
  have := List.all_eq_true.1 set_all n (List.mem_range.2 h)
  simpa using this
theorem set_has (b : UInt8) : kSet.data.toList.contains b = nameB b := by
  have := set_nat b.toNat b.toNat_lt
  simpa using this
theorem trim_name (s : ByteArray) : Lib.trimS s.data.toList kSet.data.toList = [] ↔ s.data.toList.all nameB = true := by
  rw [trim_nil]
  simp only [set_has]
end Go.Proofs.YticifnegoacopaaGreatDoor

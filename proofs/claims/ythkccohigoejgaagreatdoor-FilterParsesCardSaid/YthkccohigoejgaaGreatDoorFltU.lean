/-
  A text cut into words, plainly: one pass over its bytes. No program is named here.
-/
import Derived.Test.YthkccohigoejgaaGreatDoorFltS
namespace Go.Proofs.YthkccohigoejgaaGreatDoor
open Go.RowKit

/-- The byte at i; a blank behind the end. -/
def chr (t : ByteArray) (i : Nat) : UInt8 := t.data.toList.getD i 32
def sepc (c : UInt8) : Prop := c = 32 ∨ c = 40 ∨ c = 41
instance (c : UInt8) : Decidable (sepc c) := by unfold sepc; infer_instance
/-- The bytes from a to b, as a word. -/
def tk (t : ByteArray) (a b : Nat) : Tok := (t.extract a b, (a : Int))
def closeT (t : ByteArray) (i : Nat) (s : Option Nat × List Tok) : List Tok :=
  match s.1 with
  | some w => s.2 ++ [tk t w i]
  | none => s.2
def stp (t : ByteArray) (i : Nat) (s : Option Nat × List Tok) : Option Nat × List Tok :=
  if sepc (chr t i) then (none, if chr t i = 32 then closeT t i s else closeT t i s ++ [(⟨#[chr t i]⟩, (i : Int))])
  else (some (s.1.getD i), s.2)
def foldT (t : ByteArray) : Nat → Option Nat × List Tok
  | 0 => (none, [])
  | i + 1 => stp t i (foldT t i)
def toks (t : ByteArray) : List Tok := (foldT t (t.size + 1)).2
theorem fold_sep {t : ByteArray} {i : Nat} (h : sepc (chr t i)) : foldT t (i + 1) = (none, if chr t i = 32 then closeT t i (foldT t i) else closeT t i (foldT t i) ++ [(⟨#[chr t i]⟩, (i : Int))]) := if_pos h
theorem fold_word {t : ByteArray} {i : Nat} (h : ¬ sepc (chr t i)) : foldT t (i + 1) = (some ((foldT t i).1.getD i), (foldT t i).2) := if_neg h
theorem chr_end (t : ByteArray) : chr t t.size = 32 := by
  unfold chr
  rw [List.getD_eq_getElem?_getD, List.getElem?_eq_none (by show t.data.toList.length ≤ t.data.size; rw [Array.length_toList]; exact Nat.le_refl _)]
  rfl
/-- The words up to i, an open one closed at i. -/
def PI (t : ByteArray) (i : Nat) (L : List Tok) : Prop := ((foldT t i).1 = none ∨ i = t.size ∨ sepc (chr t i)) ∧ closeT t i (foldT t i) = L
theorem PI.zero (t : ByteArray) : PI t 0 [] := ⟨.inl rfl, rfl⟩
theorem PI.blank {t : ByteArray} {i : Nat} {L : List Tok} (h : PI t i L) (hc : chr t i = 32) : PI t (i + 1) L := by
  have hs : sepc (chr t i) := .inl hc
  have e := fold_sep hs
  rw [if_pos hc, h.2] at e
  exact ⟨.inl (by rw [e]), by unfold closeT; rw [e]⟩
theorem PI.mark {t : ByteArray} {i : Nat} {L : List Tok} (h : PI t i L) (hc : chr t i = 40 ∨ chr t i = 41) : PI t (i + 1) (L ++ [(⟨#[chr t i]⟩, (i : Int))]) := by
  have hs : sepc (chr t i) := .inr hc
  have e := fold_sep hs
  rw [if_neg (by rcases hc with hc | hc <;> rw [hc] <;> decide), h.2] at e
  exact ⟨.inl (by rw [e]), by unfold closeT; rw [e]⟩
theorem fold_run {t : ByteArray} {i : Nat} {L : List Tok} (h : foldT t i = (none, L)) : ∀ {n : Nat}, (∀ j, i ≤ j → j < i + (n + 1) → ¬ sepc (chr t j)) → foldT t (i + (n + 1)) = (some i, L)
  | 0, hj => by
    have e := fold_word (hj i (Nat.le_refl _) (by omega))
    rw [h] at e
    exact e
  | n + 1, hj => by
    have ih := fold_run h (n := n) (fun j h1 h2 => hj j h1 (by omega))
    have e := fold_word (hj (i + (n + 1)) (by omega) (by omega))
    rw [ih] at e
    exact e
theorem PI.open_ {t : ByteArray} {i : Nat} {L : List Tok} (h : PI t i L) (hi : i < t.size) (hc : ¬ sepc (chr t i)) : foldT t i = (none, L) := by
  rcases h.1 with h1 | h1 | h1
  · have := h.2
    unfold closeT at this
    rw [h1] at this
    exact Prod.ext h1 this
  · omega
  · exact absurd h1 hc
theorem PI.word {t : ByteArray} {i k : Nat} {L : List Tok} (h : PI t i L) (hi : i < k) (hk : k ≤ t.size) (hj : ∀ j, i ≤ j → j < k → ¬ sepc (chr t j)) (he : k = t.size ∨ sepc (chr t k)) : PI t k (L ++ [tk t i k]) := by
  obtain ⟨n, rfl⟩ : ∃ n, k = i + (n + 1) := ⟨k - i - 1, by omega⟩
  have e := fold_run (h.open_ (by omega) (hj i (Nat.le_refl _) hi)) hj
  exact ⟨.inr he, by unfold closeT; rw [e]⟩
theorem PI.done {t : ByteArray} {L : List Tok} (h : PI t t.size L) : toks t = L := by
  have e := fold_sep (t := t) (i := t.size) (.inl (chr_end t))
  unfold toks
  rw [e, if_pos (chr_end t)]
  exact h.2
/-- How many there are, and how long. -/
theorem fold_few (t : ByteArray) : ∀ i, (closeT t i (foldT t i)).length ≤ i ∧ (foldT t i).2.length + (if (foldT t i).1.isSome then 1 else 0) ≤ i
  | 0 => ⟨by simp [foldT, closeT], by simp [foldT]⟩
  | i + 1 => by
    have ih := fold_few t i
    by_cases h : sepc (chr t i)
    · rw [fold_sep h]
      have hx : (if chr t i = 32 then closeT t i (foldT t i) else closeT t i (foldT t i) ++ [(⟨#[chr t i]⟩, (i : Int))] : List Tok).length ≤ i + 1 := by
        have := ih.1
        split
        · omega
        · rw [List.length_append]
          simp only [List.length_cons, List.length_nil]
          omega
      exact ⟨hx, by simpa using hx⟩
    · rw [fold_word h]
      have hx : (foldT t i).2.length ≤ i := by have := ih.2; omega
      exact ⟨by simp only [closeT, List.length_append, List.length_cons, List.length_nil]; omega, by simpa using hx⟩
theorem fold_size (t : ByteArray) : ∀ i, (∀ x ∈ (foldT t i).2, x.1.size ≤ t.size + 1)
  | 0 => fun x hx => by simp [foldT] at hx
  | i + 1 => by
    have ih := fold_size t i
    have hcl : ∀ x ∈ closeT t i (foldT t i), x.1.size ≤ t.size + 1 := fun x hx => by
      unfold closeT at hx
      split at hx
      · rcases List.mem_append.1 hx with h | h
        · exact ih x h
        · simp at h; subst h
          unfold tk
          rw [ByteArray.size_extract]
          omega
      · exact ih x hx
    by_cases h : sepc (chr t i)
    · rw [fold_sep h]
      by_cases hc : chr t i = 32
      · simp only [if_pos hc]; exact hcl
      · simp only [if_neg hc]
        intro x hx
        rcases List.mem_append.1 hx with h | h
        · exact hcl x h
        · simp at h; subst h
          show 1 ≤ t.size + 1
          omega
    · rw [fold_word h]; exact ih
theorem toks_size {t : ByteArray} : ∀ x ∈ toks t, x.1.size ≤ t.size + 1 := fold_size t _
theorem toks_few {t : ByteArray} : (toks t).length ≤ t.size + 1 := by have := (fold_few t (t.size + 1)).2; unfold toks; omega
/-- A mark is the text's own byte. -/
theorem chr_at {t : ByteArray} {i : Nat} (h : i < t.size) : chr t i = t[i] := by
  unfold chr
  rw [List.getD_eq_getElem?_getD]
  have : t.data.toList[i]? = some t[i] := by rw [List.getElem?_eq_getElem (show i < t.data.toList.length by rw [Array.length_toList]; exact h)]; rfl
  rw [this]; rfl
theorem extract_one {t : ByteArray} {i : Nat} (h : i < t.size) : t.extract i (i + 1) = ⟨#[chr t i]⟩ := by
  rw [chr_at h]
  apply ByteArray.ext
  rw [ByteArray.data_extract]
  apply Array.ext
  · have : i < t.data.size := h
    simp; omega
  · intro j h1 h2
    have : i < t.data.size := h
    have hj : j = 0 := by simp at h2; omega
    subst hj
    simp
    rfl
end Go.Proofs.YthkccohigoejgaaGreatDoor

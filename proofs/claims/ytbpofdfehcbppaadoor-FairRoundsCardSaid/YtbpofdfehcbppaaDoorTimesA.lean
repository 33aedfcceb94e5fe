/-
  When steps are done, plainly. No program is named here.
-/
import Derived.Test.YtbpofdfehcbppaaDoorPlayA
namespace Go.Proofs.YtbpofdfehcbppaaDoor
open Go.RowKit

/-- A time and a bit. -/
def due (now later : Int) : Int := now + max 0 (min later 1000)
theorem due_le (now later : Int) : now ≤ due now later ∧ due now later ≤ now + 1000 := by unfold due; omega
/-- A step at its time. -/
noncomputable def stepAt (t : Int) (s : Stp) : Stp := ⟨@ite _ (s.what = 0 ∧ ¬ (⟨t, s.it.len, s.it.flow, s.it.band, s.it.mark⟩ : Itm).ok) (Classical.propDecidable _) 2 s.what, t, ⟨t, s.it.len, s.it.flow, s.it.band, s.it.mark⟩⟩
theorem stepAt_bad {t : Int} {s : Stp} (h : s.what = 0) (k : ¬ (⟨t, s.it.len, s.it.flow, s.it.band, s.it.mark⟩ : Itm).ok) : stepAt t s = ⟨2, t, ⟨t, s.it.len, s.it.flow, s.it.band, s.it.mark⟩⟩ := by
  unfold stepAt; rw [if_pos ⟨h, k⟩]
theorem stepAt_fine {t : Int} {s : Stp} (h : s.what = 0 → (⟨t, s.it.len, s.it.flow, s.it.band, s.it.mark⟩ : Itm).ok) : stepAt t s = ⟨s.what, t, ⟨t, s.it.len, s.it.flow, s.it.band, s.it.mark⟩⟩ := by
  unfold stepAt; rw [if_neg (fun hh => hh.2 (h hh.1))]
/-- The time of the last of some. -/
def clockOf (now : Int) : List Stp → Int
  | [] => now
  | s :: r => clockOf (due now s.later) r
/-- All of them, at their times. -/
noncomputable def timesOf (now : Int) : List Stp → List Stp
  | [] => []
  | s :: r => stepAt (due now s.later) s :: timesOf (due now s.later) r
theorem timesOf_length (now : Int) (l : List Stp) : (timesOf now l).length = l.length := by
  induction l generalizing now with
  | nil => rfl
  | cons s r ih => simp [timesOf, ih]
theorem timesOf_snoc (now : Int) (l : List Stp) (s : Stp) : timesOf now (l ++ [s]) = timesOf now l ++ [stepAt (due (clockOf now l) s.later) s] ∧ clockOf now (l ++ [s]) = due (clockOf now l) s.later := by
  induction l generalizing now with
  | nil => exact ⟨rfl, rfl⟩
  | cons x r ih => simp only [List.cons_append, timesOf, clockOf, ih]; exact ⟨trivial, trivial⟩
theorem clockOf_le (now : Int) (l : List Stp) : now ≤ clockOf now l ∧ clockOf now l ≤ now + 1000 * l.length := by
  induction l generalizing now with
  | nil => simp [clockOf]
  | cons s r ih =>
    have h1 := ih (due now s.later)
    have h2 := due_le now s.later
    simp only [clockOf, List.length_cons]
    omega
theorem GoodStp.at_ {t : Int} {s : Stp} {n : Nat} (h : Now t) (hn : n < 200) : GoodStp (stepAt t s) n := by
  by_cases hk : s.what = 0 → (⟨t, s.it.len, s.it.flow, s.it.band, s.it.mark⟩ : Itm).ok
  · rw [stepAt_fine hk]
    refine ⟨h, fun h0 => ?_⟩
    obtain ⟨_, h2, h3, h4, h5⟩ := hk h0
    exact ⟨h, rfl, h2, h3, h4, h5, rfl, hn⟩
  · have h1 : s.what = 0 := Classical.byContradiction fun e => hk fun e2 => absurd e2 e
    rw [stepAt_bad h1 (fun e => hk fun _ => e)]
    exact ⟨h, fun h0 => absurd (show (2 : Int) = 0 from h0) (by decide)⟩
theorem timesOf_good (now : Int) (l : List Stp) (h0 : 0 ≤ now) (h1 : now + 1000 * l.length ≤ 1000000) (n : Nat) (hn : n < 200) : ∀ s ∈ timesOf now l, GoodStp s n := by
  induction l generalizing now with
  | nil => intro s hs; cases hs
  | cons x r ih =>
    have h2 := due_le now x.later
    simp only [List.length_cons] at h1
    intro s hs
    rcases List.mem_cons.1 hs with rfl | hs
    · exact .at_ ⟨by omega, by omega⟩ hn
    · exact ih _ (by omega) (by omega) s hs
end Go.Proofs.YtbpofdfehcbppaaDoor

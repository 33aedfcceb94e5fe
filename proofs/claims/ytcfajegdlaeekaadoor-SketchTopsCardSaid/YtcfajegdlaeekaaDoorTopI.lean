/-
  All counters down by one, key by key: what a round keeps, on both sides.
-/
import Derived.Test.YtcfajegdlaeekaaDoorTopF
namespace Go.Proofs.YtcfajegdlaeekaaDoor
open Go Go.RowKit Go.Maps

/-- What stands there while left are still to come. -/
def dnF (f : Int → Int) (left : Int → Bool) : Int → Int := fun k => if left k then f k else down1 f k
theorem dnF_start (f : Int → Int) : dnF f (has_ f) = f := by
  funext k
  unfold dnF has_ down1
  by_cases e : f k = 0 <;> simp [e]
theorem dnF_end {f : Int → Int} {left : Int → Bool} (h : ∀ k, left k = false) : dnF f left = down1 f := by
  funext k
  simp [dnF, h k]
/-- One comes: its counter goes down. -/
theorem dnF_step {f : Int → Int} {left : Int → Bool} {x : Int} (hx : f x ≠ 0) : fI (dnF f left) x (f x - 1) = dnF f (fI left x false) := by
  funext k
  by_cases e : k = x
  · subst e
    rw [fI_at]
    simp [dnF, fI_at, down1, hx]
  · rw [fI_ne _ _ e]
    simp [dnF, fI_ne _ _ e]
/-- What stands in the other map: those that are through. -/
def upF (f : Int → Int) (left : Int → Bool) : Int → Int := fun k => if left k then 0 else down1 f k
theorem upF_start (f : Int → Int) : upF f (has_ f) = fun _ => 0 := by
  funext k
  unfold upF has_ down1
  by_cases e : f k = 0 <;> simp [e]
theorem upF_end {f : Int → Int} {left : Int → Bool} (h : ∀ k, left k = false) : upF f left = down1 f := by
  funext k
  simp [upF, h k]
theorem upF_step {f : Int → Int} {left : Int → Bool} {x : Int} (hx : f x ≠ 0) : fI (upF f left) x (f x - 1) = upF f (fI left x false) := by
  funext k
  by_cases e : k = x
  · subst e
    rw [fI_at]
    simp [upF, fI_at, down1, hx]
  · rw [fI_ne _ _ e]
    simp [upF, fI_ne _ _ e]
theorem has_fI {f : Int → Int} {x v : Int} (hv : v ≠ 0) : has_ (fI f x v) = fI (has_ f) x true := by
  funext k
  unfold has_
  by_cases e : k = x
  · subst e; rw [fI_at, fI_at]; simp [hv]
  · rw [fI_ne _ _ e, fI_ne _ _ e]
theorem has_fI0 {f : Int → Int} {x : Int} : has_ (fI f x 0) = fI (has_ f) x false := by
  funext k
  unfold has_
  by_cases e : k = x
  · subst e; rw [fI_at, fI_at]; simp
  · rw [fI_ne _ _ e, fI_ne _ _ e]
end Go.Proofs.YtcfajegdlaeekaaDoor

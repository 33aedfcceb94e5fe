/-
  curve.Least and the law CurveLeast.
-/
import Derived.Test.YtfdmmfjheiiiiaaDoorCurveC
namespace Go.Proofs.YtfdmmfjheiiiiaaDoor
open Go.RowKit Go.Extern.Stop Go.Stop Go.Extern

theorem lt_other {k q m : Nat} (h : k < q) (h' : q ≤ m) : (k : Int) < (m : Int) := by omega
def leastAt (xs ys : List Int) (t : Nat) : Int := min (xs.getD t 0) (ys.getD t 0)

theorem ckCurve_pos {xs : List Int} (h : ckCurve xs = 0) : 0 < xs.length ∧ xs.length ≤ 201 := by
  unfold ckCurve at h
  split at h
  · omega
  · omega
theorem ckTwo_ok {xs ys : List Int} (h : ckTwo xs ys = 0) : ckCurve xs = 0 ∧ ckCurve ys = 0 := by
  unfold ckTwo at h
  split at h
  · omega
  · omega

end Go.Proofs.YtfdmmfjheiiiiaaDoor

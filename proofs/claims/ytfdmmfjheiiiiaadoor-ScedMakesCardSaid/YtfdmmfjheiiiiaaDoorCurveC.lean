/-
  curve.both, millraceref.Curves, millracelaw.long, millracelaw.sameInts; curve.Least.
-/
import Derived.Test.YtfdmmfjheiiiiaaDoorCurveA
import Derived.Test.YtfdmmfjheiiiiaaDoorApp
namespace Go.Proofs.YtfdmmfjheiiiiaaDoor
open Go.RowKit Go.Extern.Stop Go.Stop Go.Extern

theorem check_ok {v : Value} {xs : List Int} (w : World) (h : Ints w v xs) (hc : ckCurve xs = 0) : Calls Tryd.prog 19 #[v] w fun e w' => e = .returned .nilIface ∧ w = w' := by
  have := check_any w h; rw [errV_zero hc] at this; exact this
theorem check_bad {v : Value} {xs : List Int} (w : World) (h : Ints w v xs) (hc : ckCurve xs ≠ 0) : Calls Tryd.prog 19 #[v] w fun e w' => e = .returned (.iface 26 (.int .i64 (ckCurve xs))) ∧ w = w' := by
  have := check_any w h; rw [errV_ne hc] at this; exact this

/-- what is wrong with two curves -/
def ckTwo (xs ys : List Int) : Int := if ckCurve xs ≠ 0 then ckCurve xs else ckCurve ys

end Go.Proofs.YtfdmmfjheiiiiaaDoor

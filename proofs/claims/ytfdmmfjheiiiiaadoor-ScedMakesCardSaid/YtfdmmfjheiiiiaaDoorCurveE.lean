/-
  The law CurveLeast: its walk.
-/
import Derived.Test.YtfdmmfjheiiiiaaDoorCurveD
namespace Go.Proofs.YtfdmmfjheiiiiaaDoor
open Go.RowKit Go.Extern.Stop Go.Stop Go.Extern

theorem bare_yes {v : Value} {n : Int} (w : World) (hg : Glob w) (h : ErrIs w v n (-1)) :
    Calls Tryd.prog 8 #[v, .int .i64 n] w fun e w' => e = .returned (.bool true) ∧ Gr w w' := by
  have := law_bare n w hg h
  simpa using this

theorem nil_ints (w : World) : Ints w (.slice none 0 0) [] := .inl ⟨_, _, rfl, rfl⟩

end Go.Proofs.YtfdmmfjheiiiiaaDoor

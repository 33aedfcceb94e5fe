/-
  The frame of every law of this seat that has a tied card: what the listed variables give.
-/
import Derived.Test.YtofhmbbodoedjaaDoorErr
import Derived.Test.YtofhmbbodoedjaaDoorFrameP
import Derived.Test.YtofhmbbodoedjaaDoorCards
import Derived.Test.YtofhmbbodoedjaaDoorTie
namespace Go.Proofs.YtofhmbbodoedjaaDoor
open Go.ChangeShapes Go.WideShapes Go.ChangeAt Go.RowKit

theorem gErrorType : Tryd.prog.globalNamed "errors.errorType" = some 1 := by kernel_rfl
theorem rtypeNo : (Tryd.prog.cutTypes.find? (·.1 == "internal/reflectlite.rtype")).map (·.2) = some 108 := by kernel_rfl
theorem oneRow : ((List.range 178).filter fun t => Tryd.prog.rowNamed t [101, 114, 114, 111, 114]) = [29] := by kernel_rfl
theorem nTypes : Tryd.prog.types.size = 178 := by kernel_rfl

theorem glob_of_handles {W : World} {l : List (String × DataW Unit)} (h : handlesMet Tryd.prog l W) (hm : ("errors.errorType", Rows.laid_errors_errorType) ∈ l) : Glob W := by
  obtain ⟨name, u, ty, e1, e2, e3, e4, e5⟩ := h _ hm
  have en : name = [101, 114, 114, 111, 114] := (Option.some.inj e1).symm
  subst en
  obtain rfl := Option.some.inj (rtypeNo.symm.trans e2)
  have hmm : ty ∈ (List.range 178).filter fun t => Tryd.prog.rowNamed t [101, 114, 114, 111, 114] := List.mem_filter.2 ⟨List.mem_range.2 (by rw [← nTypes]; exact e3), e4⟩
  rw [oneRow] at hmm
  obtain rfl := List.mem_singleton.1 hmm
  have hh : typeHandle Tryd.prog 29 = .pointer (some ⟨10, 29, none⟩) := by kernel_rfl
  rw [hh] at e5
  simpa [Glob] using World.var?_cell gErrorType e5 0

end Go.Proofs.YtofhmbbodoedjaaDoor

/-
  The frame of every law of this seat that has a tied card: what the listed variables give.
-/
import Derived.Test.YticifnegoacopaaGreatDoorErr
import Derived.Test.YticifnegoacopaaGreatDoorFrameP
import Derived.Test.YticifnegoacopaaGreatDoorCards
import Derived.Test.YticifnegoacopaaGreatDoorTie
namespace Go.Proofs.YticifnegoacopaaGreatDoor
open Go.ChangeShapes Go.WideShapes Go.ChangeAt Go.RowKit

theorem gErrorType : Tryz.prog.globalNamed "errors.errorType" = some 3 := by kernel_rfl
theorem rtypeNo : (Tryz.prog.cutTypes.find? (·.1 == "internal/reflectlite.rtype")).map (·.2) = some 183 := by kernel_rfl
theorem oneRow : ((List.range 233).filter fun t => Tryz.prog.rowNamed t [101, 114, 114, 111, 114]) = [35] := by kernel_rfl
theorem nTypes : Tryz.prog.types.size = 233 := by kernel_rfl

theorem glob_of_handles {W : World} {l : List (String × DataW Unit)} (h : handlesMet Tryz.prog l W) (hm : ("errors.errorType", Rows.laid_errors_errorType) ∈ l) : Glob W := by
  obtain ⟨name, u, ty, e1, e2, e3, e4, e5⟩ := h _ hm
  have en : name = [101, 114, 114, 111, 114] := (Option.some.inj e1).symm
  subst en
  obtain rfl := Option.some.inj (rtypeNo.symm.trans e2)
  have hmm : ty ∈ (List.range 233).filter fun t => Tryz.prog.rowNamed t [101, 114, 114, 111, 114] := List.mem_filter.2 ⟨List.mem_range.2 (by rw [← nTypes]; exact e3), e4⟩
  rw [oneRow] at hmm
  obtain rfl := List.mem_singleton.1 hmm
  have hh : typeHandle Tryz.prog 35 = .pointer (some ⟨9, 35, none⟩) := by kernel_rfl
  rw [hh] at e5
  simpa [Glob] using World.var?_cell gErrorType e5 0

end Go.Proofs.YticifnegoacopaaGreatDoor

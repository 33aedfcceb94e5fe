/-
  A setup that comes in.
-/
import Derived.Test.YtbpofdfehcbppaaDoorFrameP
import Derived.Test.YtbpofdfehcbppaaDoorStepF
namespace Go.Proofs.YtbpofdfehcbppaaDoor
open Go.ChangeShapes Go.WideShapes Go.ChangeAt Go.RowKit Go.Deep

theorem bool_cell {H : Type} {enc : TypeId × Value → H} {W : World} {n : Nat} {t : TypeId} {cs : List Value} {y : DataW H × List MemPlace} (ht : Tryd.prog.underlying t = some .bool) (h : DataW.trod enc Tryd.prog W 0 (fun _ => true) true n t cs = some y) : ∃ b : Bool, cs = [.bool b] := by
  obtain ⟨b, h1, _⟩ := DataW.trod_bool ht h
  exact ⟨b, h1⟩
theorem five {α : Type} {l : List α} (h : l.length = 5) : ∃ a b c d e, l = [a, b, c, d, e] := by
  match l, h with
  | [a, b, c, d, e], _ => exact ⟨a, b, c, d, e, rfl⟩
theorem cellsBool : Tryd.prog.cellsOf 4 = 1 := by kernel_rfl
set_option maxRecDepth 100000 in
theorem setup_of_trod {H : Type} {enc : TypeId × Value → H} {W : World} {base : Nat} {v : Value} {d : DataW H} {ps : List MemPlace} (hok : Value.okWide Tryd.prog W .any base 54 v) (h : DataW.Trod enc Tryd.prog W 0 (fun _ => true) true 54 v d ps) :
    ∃ (a b c e : Int) (m : Bool), v = .agg #[.int .i64 a, .int .i64 b, .int .i64 c, .int .i64 e, .bool m] ∧ Bd a ∧ Bd b ∧ Bd c ∧ Bd e := by
  obtain ⟨cs, rfl, hsz⟩ := okWide_struct Tryd.underlying54 hok
  obtain ⟨fuel, hf⟩ := h
  obtain ⟨xs, m, _, _, hcl, hl, hfs⟩ := DataW.trod_struct Tryd.underlying54 hf
  have hlen : cs.toList.length = 5 := (show cs.toList.length = Tryd.prog.cellsOf 54 from hcl).trans (by kernel_rfl)
  have hxl : xs.length = 5 := hl
  obtain ⟨l⟩ := cs
  obtain ⟨c0, c1, c2, c3, c4, rfl⟩ := five hlen
  obtain ⟨y0, y1, y2, y3, y4, rfl⟩ := five hxl
  have e0 : DataW.trod enc Tryd.prog W 0 (fun _ => true) true m 3 (([c0, c1, c2, c3, c4].drop 0).take (Tryd.prog.cellsOf 3)) = some y0 := hfs 0 _ rfl
  have e1 : DataW.trod enc Tryd.prog W 0 (fun _ => true) true m 3 (([c0, c1, c2, c3, c4].drop 1).take (Tryd.prog.cellsOf 3)) = some y1 := hfs 1 _ rfl
  have e2 : DataW.trod enc Tryd.prog W 0 (fun _ => true) true m 3 (([c0, c1, c2, c3, c4].drop 2).take (Tryd.prog.cellsOf 3)) = some y2 := hfs 2 _ rfl
  have e3 : DataW.trod enc Tryd.prog W 0 (fun _ => true) true m 3 (([c0, c1, c2, c3, c4].drop 3).take (Tryd.prog.cellsOf 3)) = some y3 := hfs 3 _ rfl
  have e4 : DataW.trod enc Tryd.prog W 0 (fun _ => true) true m 4 (([c0, c1, c2, c3, c4].drop 4).take (Tryd.prog.cellsOf 4)) = some y4 := hfs 4 _ rfl
  rw [cellsInt] at e0 e1 e2 e3
  rw [cellsBool] at e4
  obtain ⟨z0, g0, b0⟩ := int_cell Tryd.underlying3 e0
  obtain ⟨z1, g1, b1⟩ := int_cell Tryd.underlying3 e1
  obtain ⟨z2, g2, b2⟩ := int_cell Tryd.underlying3 e2
  obtain ⟨z3, g3, b3⟩ := int_cell Tryd.underlying3 e3
  obtain ⟨z4, g4⟩ := bool_cell Tryd.underlying4 e4
  simp at g0 g1 g2 g3 g4
  subst g0 g1 g2 g3 g4
  exact ⟨z0, z1, z2, z3, z4, rfl, b0, b1, b2, b3⟩
end Go.Proofs.YtbpofdfehcbppaaDoor

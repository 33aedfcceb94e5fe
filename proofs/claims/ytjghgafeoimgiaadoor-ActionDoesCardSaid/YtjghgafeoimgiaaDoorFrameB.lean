/-
  A bucket that came in.
-/
import Derived.Test.YtjghgafeoimgiaaDoorFrameP
import Derived.Test.YtjghgafeoimgiaaDoorRate
import Derived.Test.YtjghgafeoimgiaaDoorBktN
namespace Go.Proofs.YtjghgafeoimgiaaDoor
open Go.ChangeShapes Go.WideShapes Go.ChangeAt Go.RowKit Go.Deep

theorem three {α : Type} {l : List α} (h : l.length = 3) : ∃ a b c, l = [a, b, c] := by
  match l, h with
  | [a, b, c], _ => exact ⟨a, b, c, rfl⟩
theorem two {α : Type} {l : List α} (h : l.length = 2) : ∃ a b, l = [a, b] := by
  match l, h with
  | [a, b], _ => exact ⟨a, b, rfl⟩
set_option maxRecDepth 100000 in
theorem bucket_of_trod {H : Type} {enc : TypeId × Value → H} {W : World} {base : Nat} {v : Value} {d : DataW H} {ps : List MemPlace} (hok : Value.okWide Tryd.prog W .any base 35 v) (h : DataW.Trod enc Tryd.prog W 0 (fun _ => true) true 35 v d ps) :
    ∃ b t r : Int, v = bktV b t r ∧ Bd b ∧ Bd t ∧ Bd r := by
  obtain ⟨cs, rfl, hsz⟩ := okWide_struct Tryd.underlying35 hok
  obtain ⟨fuel, hf⟩ := h
  obtain ⟨xs, m, _, _, hcl, hl, hfs⟩ := DataW.trod_struct Tryd.underlying35 hf
  have hlen : cs.toList.length = 3 := (show cs.toList.length = Tryd.prog.cellsOf 35 from hcl).trans (by kernel_rfl)
  have hxl : xs.length = 2 := hl
  obtain ⟨l⟩ := cs
  obtain ⟨c0, c1, c2, rfl⟩ := three hlen
  obtain ⟨y0, y1, rfl⟩ := two hxl
  have e0 : DataW.trod enc Tryd.prog W 0 (fun _ => true) true m 31 (([c0, c1, c2].drop 0).take (Tryd.prog.cellsOf 31)) = some y0 := hfs 0 _ rfl
  have e1 : DataW.trod enc Tryd.prog W 0 (fun _ => true) true m 3 (([c0, c1, c2].drop 2).take (Tryd.prog.cellsOf 3)) = some y1 := hfs 1 _ rfl
  have k0 : Tryd.prog.cellsOf 31 = 2 := by kernel_rfl
  rw [k0] at e0
  rw [cellsInt] at e1
  obtain ⟨F, hl2, hF⟩ := rec_of_cells rec_rate e0
  have h0 := hF 0 (by omega)
  have h1 := hF 1 (by omega)
  simp at h0 h1
  obtain ⟨z2, g2, b2⟩ := int_cell Tryd.underlying3 e1
  simp at g2
  subst g2
  obtain ⟨rfl, b0⟩ := h0
  obtain ⟨rfl, b1⟩ := h1
  exact ⟨_, _, _, rfl, b0, b1, b2⟩
end Go.Proofs.YtjghgafeoimgiaaDoor

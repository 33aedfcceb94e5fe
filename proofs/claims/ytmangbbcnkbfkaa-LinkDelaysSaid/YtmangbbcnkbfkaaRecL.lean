/-
  The records that the laws of this seat take: packets, what was sent, a wire's log.
-/
import Derived.Test.YtmangbbcnkbfkaaFrameP
import Derived.Lib.SmallJoins
namespace Go.Proofs.Ytmangbbcnkbfkaa
open Go.ChangeShapes Go.WideShapes Go.ChangeAt Go.RowKit Go.Deep

theorem rec_item : IntRec 31 5 := ⟨by kernel_rfl, _, Try.underlying31, rfl, fun j hj => by
  match j, hj with
  | 0, _ => exact ⟨_, rfl, rfl, rfl⟩
  | 1, _ => exact ⟨_, rfl, rfl, rfl⟩
  | 2, _ => exact ⟨_, rfl, rfl, rfl⟩
  | 3, _ => exact ⟨_, rfl, rfl, rfl⟩
  | 4, _ => exact ⟨_, rfl, rfl, rfl⟩⟩
theorem rec_move : IntRec 38 2 := ⟨by kernel_rfl, _, Try.underlying38, rfl, fun j hj => by
  match j, hj with
  | 0, _ => exact ⟨_, rfl, rfl, rfl⟩
  | 1, _ => exact ⟨_, rfl, rfl, rfl⟩⟩
theorem rec_sent : IntRec 29 4 := ⟨by kernel_rfl, _, Try.underlying29, rfl, fun j hj => by
  match j, hj with
  | 0, _ => exact ⟨_, rfl, rfl, rfl⟩
  | 1, _ => exact ⟨_, rfl, rfl, rfl⟩
  | 2, _ => exact ⟨_, rfl, rfl, rfl⟩
  | 3, _ => exact ⟨_, rfl, rfl, rfl⟩⟩

theorem slice_shape {H : Type} {enc : TypeId × Value → H} {W : World} {n : Nat} {t T : TypeId} {c : Value} {y : DataW H × List MemPlace} (hu : Try.prog.underlying t = some (.slice T)) (h : DataW.trod enc Try.prog W 0 (fun _ => true) true n t [c] = some y) : ∃ a l cap, c = .slice a l cap := by
  rcases DataW.trod_slice hu h with ⟨hcs, _⟩ | ⟨a', len', cap', elems, rest, n, _, hcs, _⟩
  · simp at hcs
    exact ⟨_, _, _, hcs⟩
  · simp at hcs
    exact ⟨_, _, _, hcs⟩

theorem four {α : Type} {l : List α} (h : l.length = 4) : ∃ a b c d, l = [a, b, c, d] := by
  match l, h with
  | [a, b, c, d], _ => exact ⟨a, b, c, d, rfl⟩

set_option maxRecDepth 100000 in
theorem log_of_trod {H : Type} {enc : TypeId × Value → H} {W : World} {base : Nat} {v : Value} {d : DataW H} {ps : List MemPlace} (hok : Value.okWide Try.prog W .any base 26 v) (h : DataW.Trod enc Try.prog W 0 (fun _ => true) true 26 v d ps) :
    ∃ (a b : Value) (x y : Int), v = .agg #[a, b, .int .i64 x, .int .i64 y] ∧ (∃ k F, Recs 4 W a k F ∧ ∀ i, i < k → ∀ j, j < 4 → Bd (F i j)) ∧ ∃ a' l c, b = .slice a' l c := by
  obtain ⟨cs, rfl, hsz⟩ := okWide_struct Try.underlying26 hok
  obtain ⟨fuel, hf⟩ := h
  obtain ⟨xs, m, _, _, hcl, hl, hfs⟩ := DataW.trod_struct Try.underlying26 hf
  have hlen : cs.toList.length = 4 := (show cs.toList.length = Try.prog.cellsOf 26 from hcl).trans (by kernel_rfl)
  have hxl : xs.length = 4 := hl
  obtain ⟨l⟩ := cs
  obtain ⟨c0, c1, c2, c3, rfl⟩ := four hlen
  obtain ⟨y0, y1, y2, y3, rfl⟩ := four hxl
  have e0 : DataW.trod enc Try.prog W 0 (fun _ => true) true m 23 (([c0, c1, c2, c3].drop 0).take (Try.prog.cellsOf 23)) = some y0 := hfs 0 _ rfl
  have e1 : DataW.trod enc Try.prog W 0 (fun _ => true) true m 24 (([c0, c1, c2, c3].drop 1).take (Try.prog.cellsOf 24)) = some y1 := hfs 1 _ rfl
  have e2 : DataW.trod enc Try.prog W 0 (fun _ => true) true m 3 (([c0, c1, c2, c3].drop 2).take (Try.prog.cellsOf 3)) = some y2 := hfs 2 _ rfl
  have e3 : DataW.trod enc Try.prog W 0 (fun _ => true) true m 3 (([c0, c1, c2, c3].drop 3).take (Try.prog.cellsOf 3)) = some y3 := hfs 3 _ rfl
  have k0 : Try.prog.cellsOf 23 = 1 := by kernel_rfl
  have k1 : Try.prog.cellsOf 24 = 1 := by kernel_rfl
  rw [k0] at e0
  rw [k1] at e1
  rw [cellsInt] at e2 e3
  have s0 := slice_shape Try.underlying23 e0
  have s1 := slice_shape Try.underlying24 e1
  obtain ⟨z2, g2, _⟩ := int_cell Try.underlying3 e2
  obtain ⟨z3, g3, _⟩ := int_cell Try.underlying3 e3
  simp at g2 g3
  subst g2 g3
  have e0' : DataW.trod enc Try.prog W 0 (fun _ => true) true m 23 c0.cells.toList = some y0 := by
    obtain ⟨a, l, c, rfl⟩ := s0
    exact e0
  exact ⟨c0, c1, z2, z3, rfl, recs_of_cells Try.underlying23 rec_sent (by omega) s0 e0', s1⟩
end Go.Proofs.Ytmangbbcnkbfkaa

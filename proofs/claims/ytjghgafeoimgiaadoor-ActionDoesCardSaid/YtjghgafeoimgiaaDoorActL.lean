/-
  Slices of actions and of buckets that came in.
-/
import Derived.Test.YtjghgafeoimgiaaDoorFrameP
import Derived.Test.YtjghgafeoimgiaaDoorFrameB
namespace Go.Proofs.YtjghgafeoimgiaaDoor
open Go.ChangeShapes Go.WideShapes Go.ChangeAt Go.RowKit Go.Deep

theorem rec_action : IntRec 28 3 := ⟨by kernel_rfl, _, Tryd.underlying28, rfl, fun j hj => by
  match j, hj with
  | 0, _ => exact ⟨_, rfl, rfl, rfl⟩
  | 1, _ => exact ⟨_, rfl, rfl, rfl⟩
  | 2, _ => exact ⟨_, rfl, rfl, rfl⟩⟩
theorem cellsBkt : Tryd.prog.cellsOf 35 = 3 := by kernel_rfl
set_option maxRecDepth 100000 in
theorem bkt_of_cells {H : Type} {enc : TypeId × Value → H} {W : World} {n : Nat} {cs : List Value} {y : DataW H × List MemPlace} (h : DataW.trod enc Tryd.prog W 0 (fun _ => true) true n 35 cs = some y) :
    ∃ F : Nat → Int, ∀ j, j < 3 → cs[j]? = some (.int .i64 (F j)) ∧ Bd (F j) := by
  obtain ⟨xs, m, _, _, hcl, hl, hfs⟩ := DataW.trod_struct Tryd.underlying35 h
  have hlen : cs.length = 3 := (show cs.length = Tryd.prog.cellsOf 35 from hcl).trans (by kernel_rfl)
  have hxl : xs.length = 2 := hl
  obtain ⟨c0, c1, c2, rfl⟩ := three hlen
  obtain ⟨y0, y1, rfl⟩ := two hxl
  have e0 : DataW.trod enc Tryd.prog W 0 (fun _ => true) true m 31 (([c0, c1, c2].drop 0).take (Tryd.prog.cellsOf 31)) = some y0 := hfs 0 _ rfl
  have e1 : DataW.trod enc Tryd.prog W 0 (fun _ => true) true m 3 (([c0, c1, c2].drop 2).take (Tryd.prog.cellsOf 3)) = some y1 := hfs 1 _ rfl
  have k0 : Tryd.prog.cellsOf 31 = 2 := by kernel_rfl
  rw [k0] at e0
  rw [cellsInt] at e1
  obtain ⟨F, hl2, hF⟩ := rec_of_cells rec_rate e0
  have h0 := hF 0 (by omega)
  have h1 := hF 1 (by omega)
  simp at h0 h1
  obtain ⟨z2, g2, b2⟩ := int_cell Tryd.underlying3 e1
  simp at g2
  subst g2
  obtain ⟨rfl, b0⟩ := h0
  obtain ⟨rfl, b1⟩ := h1
  refine ⟨fun j => if j = 0 then F 0 else if j = 1 then F 1 else z2, fun j hj => ?_⟩
  match j, hj with
  | 0, _ => exact ⟨rfl, b0⟩
  | 1, _ => exact ⟨rfl, b1⟩
  | 2, _ => exact ⟨rfl, b2⟩
set_option maxRecDepth 100000 in
theorem buckets_of_trod {H : Type} {enc : TypeId × Value → H} {W : World} {base : Nat} {v : Value} {d : DataW H} {ps : List MemPlace}
    (hok : Value.okWide Tryd.prog W .any base 23 v) (h : DataW.Trod enc Tryd.prog W 0 (fun _ => true) true 23 v d ps) : ∃ (k : Nat) (F : Nat → Nat → Int), Recs 3 W v k F ∧ ∀ i, i < k → ∀ j, j < 3 → Bd (F i j) := by
  obtain ⟨fuel, hf⟩ := h
  obtain ⟨a, len, cap, rfl⟩ := okWide_slice Tryd.underlying23 hok
  rcases DataW.trod_slice Tryd.underlying23 hf with ⟨hcs, _⟩ | ⟨a', len', cap', elems, rest, n, _, hcs, _, _, hl, hm, hlen, hel, _, _⟩
  · simp [Value.cells] at hcs
    obtain ⟨rfl, rfl, rfl⟩ := hcs
    exact ⟨0, fun _ _ => 0, .inl ⟨_, _, rfl, rfl⟩, fun i hi => absurd hi (by omega)⟩
  · simp [Value.cells] at hcs
    obtain ⟨rfl, rfl, rfl⟩ := hcs
    rcases Nat.eq_zero_or_pos len with h0 | h0
    · subst h0
      exact ⟨0, fun _ _ => 0, .inl ⟨_, _, rfl, rfl⟩, fun i hi => absurd hi (by omega)⟩
    · have each : ∀ i, i < len → ∃ F : Nat → Int, (∀ j, j < 3 → Bd (F j)) ∧ ∀ j, j < 3 → W.cell? ((a'.add (i * 3)).add j) = some (.int .i64 (F j)) := by
        intro i hi
        have h1 := hel i hi
        rw [List.getElem?_eq_getElem (by omega), cellsBkt] at h1
        obtain ⟨cs, hcs, ht⟩ := Option.bind_eq_some_iff.1 h1
        obtain ⟨F, hF2⟩ := bkt_of_cells ht
        obtain ⟨_, _, hcell⟩ := World.cells?_some hcs
        exact ⟨F, fun j hj => (hF2 j hj).2, fun j hj => by rw [hcell j hj]; exact (hF2 j hj).1⟩
      obtain ⟨b, off, sp⟩ := a'
      obtain ⟨F0, _, hc0⟩ := each 0 h0
      obtain rfl : sp = none := by
        have := hc0 0 (by omega)
        rw [show Addr.add ⟨b, off, sp⟩ (0 * 3) = ⟨b, off, sp⟩ from rfl] at this
        exact spot_none this rfl
      obtain ⟨F, hF⟩ := choose_fun len each
      refine ⟨len, F, .inr ⟨b, off, cap, rfl, h0, ⟨by omega, by unfold maxLen at hm; omega⟩, fun i hi j hj => ?_⟩, fun i hi j hj => (hF i hi).1 j hj⟩
      have := (hF i hi).2 j hj
      rw [addr_add, addr_add] at this
      exact this
end Go.Proofs.YtjghgafeoimgiaaDoor

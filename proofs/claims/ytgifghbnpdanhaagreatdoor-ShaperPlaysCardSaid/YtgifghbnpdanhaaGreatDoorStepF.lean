/-
  Steps that come in.
-/
import Derived.Test.YtgifghbnpdanhaaGreatDoorFrameP
import Derived.Test.YtgifghbnpdanhaaGreatDoorTimesB
namespace Go.Proofs.YtgifghbnpdanhaaGreatDoor
open Go.ChangeShapes Go.WideShapes Go.ChangeAt Go.RowKit Go.Deep

/-- T is m ints, one behind the other. -/
def FlatRec (T : TypeId) (m : Nat) : Prop := Tryz.prog.cellsOf T = m ∧ ∀ {H : Type} (enc : TypeId × Value → H) (W : World) (n : Nat) (cs : List Value) (y : DataW H × List MemPlace), DataW.trod enc Tryz.prog W 0 (fun _ => true) true n T cs = some y →
    ∃ F : Nat → Int, cs.length = m ∧ ∀ j, j < m → cs[j]? = some (.int .i64 (F j)) ∧ Bd (F j)
theorem rec_item5 : IntRec 90 5 := ⟨by kernel_rfl, _, Tryz.underlying90, rfl, fun j hj => by
  match j, hj with
  | 0, _ => exact ⟨_, rfl, rfl, rfl⟩
  | 1, _ => exact ⟨_, rfl, rfl, rfl⟩
  | 2, _ => exact ⟨_, rfl, rfl, rfl⟩
  | 3, _ => exact ⟨_, rfl, rfl, rfl⟩
  | 4, _ => exact ⟨_, rfl, rfl, rfl⟩⟩
set_option maxRecDepth 100000 in
theorem rec_step : FlatRec 92 7 := ⟨by kernel_rfl, fun enc W n cs y h => by
  obtain ⟨xs, m', _, _, hcl, hl, hf⟩ := DataW.trod_struct Tryz.underlying92 h
  have hlen : cs.length = 7 := hcl.trans (by kernel_rfl)
  have hxl : xs.length = 3 := hl
  have k5 : Tryz.prog.cellsOf 90 = 5 := by kernel_rfl
  match xs, hxl with
  | [y0, y1, y2], _ =>
    have e0 : DataW.trod enc Tryz.prog W 0 (fun _ => true) true m' 3 ((cs.drop 0).take (Tryz.prog.cellsOf 3)) = some y0 := hf 0 _ rfl
    have e1 : DataW.trod enc Tryz.prog W 0 (fun _ => true) true m' 3 ((cs.drop 1).take (Tryz.prog.cellsOf 3)) = some y1 := hf 1 _ rfl
    have e2 : DataW.trod enc Tryz.prog W 0 (fun _ => true) true m' 90 ((cs.drop 2).take (Tryz.prog.cellsOf 90)) = some y2 := hf 2 _ rfl
    rw [cellsInt] at e0 e1
    rw [k5] at e2
    obtain ⟨z0, h0, b0⟩ := int_cell Tryz.underlying3 e0
    obtain ⟨z1, h1, b1⟩ := int_cell Tryz.underlying3 e1
    obtain ⟨F, hF1, hF2⟩ := rec_of_cells rec_item5 e2
    have g0 : cs[0]? = some (.int .i64 z0) := by
      have : (List.take 1 (List.drop 0 cs))[0]? = some (.int .i64 z0) := by rw [h0]; rfl
      rw [List.getElem?_take_of_lt (by omega), List.getElem?_drop] at this
      simpa using this
    have g1 : cs[1]? = some (.int .i64 z1) := by
      have : (List.take 1 (List.drop 1 cs))[0]? = some (.int .i64 z1) := by rw [h1]; rfl
      rw [List.getElem?_take_of_lt (by omega), List.getElem?_drop] at this
      simpa using this
    refine ⟨fun j => if j = 0 then z0 else if j = 1 then z1 else F (j - 2), hlen, fun j hj => ?_⟩
    by_cases j0 : j = 0
    · subst j0
      exact ⟨g0, b0⟩
    · by_cases j1 : j = 1
      · subst j1
        exact ⟨g1, b1⟩
      · simp only [if_neg j0, if_neg j1]
        have h2 := (hF2 (j - 2) (by omega)).1
        rw [List.getElem?_take_of_lt (by omega), List.getElem?_drop] at h2
        exact ⟨by rw [← h2]; congr 1; omega, (hF2 (j - 2) (by omega)).2⟩⟩
set_option maxRecDepth 100000 in
/-- A slice of records of ints, as its cells. -/
theorem frecs_of_cells {H : Type} {enc : TypeId × Value → H} {W : World} {n m : Nat} {t T : TypeId} {v : Value} {y : DataW H × List MemPlace} (hu : Tryz.prog.underlying t = some (.slice T)) (hT : FlatRec T m) (h0m : 0 < m)
    (hv : ∃ a len cap, v = .slice a len cap) (h : DataW.trod enc Tryz.prog W 0 (fun _ => true) true n t v.cells.toList = some y) : ∃ (k : Nat) (F : Nat → Nat → Int), Recs m W v k F ∧ ∀ i, i < k → ∀ j, j < m → Bd (F i j) := by
  obtain ⟨a, len, cap, rfl⟩ := hv
  rcases DataW.trod_slice hu h with ⟨hcs, _⟩ | ⟨a', len', cap', elems, rest, n, _, hcs, _, _, hl, hm, hlen, hel, _, _⟩
  · simp [Value.cells] at hcs
    obtain ⟨rfl, rfl, rfl⟩ := hcs
    exact ⟨0, fun _ _ => 0, .inl ⟨_, _, rfl, rfl⟩, fun i hi => absurd hi (by omega)⟩
  · simp [Value.cells] at hcs
    obtain ⟨rfl, rfl, rfl⟩ := hcs
    rcases Nat.eq_zero_or_pos len with h0 | h0
    · subst h0
      exact ⟨0, fun _ _ => 0, .inl ⟨_, _, rfl, rfl⟩, fun i hi => absurd hi (by omega)⟩
    · have each : ∀ i, i < len → ∃ F : Nat → Int, (∀ j, j < m → Bd (F j)) ∧ ∀ j, j < m → W.cell? ((a'.add (i * m)).add j) = some (.int .i64 (F j)) := by
        intro i hi
        have h1 := hel i hi
        rw [List.getElem?_eq_getElem (by omega), hT.1] at h1
        obtain ⟨cs, hcs, ht⟩ := Option.bind_eq_some_iff.1 h1
        obtain ⟨F, hF1, hF2⟩ := hT.2 _ _ _ _ _ ht
        obtain ⟨_, _, hcell⟩ := World.cells?_some hcs
        exact ⟨F, fun j hj => (hF2 j hj).2, fun j hj => by rw [hcell j hj]; exact (hF2 j hj).1⟩
      obtain ⟨b, off, sp⟩ := a'
      obtain ⟨F0, _, hc0⟩ := each 0 h0
      obtain rfl : sp = none := by
        have := hc0 0 h0m
        rw [show Addr.add ⟨b, off, sp⟩ (0 * m) = ⟨b, off, sp⟩ from by rw [Nat.zero_mul]; rfl] at this
        exact spot_none this rfl
      obtain ⟨F, hF⟩ := choose_fun len each
      refine ⟨len, F, .inr ⟨b, off, cap, rfl, h0, ⟨by omega, by unfold maxLen at hm; omega⟩, fun i hi j hj => ?_⟩, fun i hi j hj => (hF i hi).1 j hj⟩
      have := (hF i hi).2 j hj
      rw [addr_add, addr_add] at this
      exact this


set_option maxRecDepth 100000 in
theorem steps_of_trod {H : Type} {enc : TypeId × Value → H} {W : World} {base : Nat} {v : Value} {d : DataW H} {ps : List MemPlace}
    (hok : Value.okWide Tryz.prog W .any base 26 v) (h : DataW.Trod enc Tryz.prog W 0 (fun _ => true) true 26 v d ps) : ∃ xs : List Stp, StpIn W v xs := by
  obtain ⟨fuel, hf⟩ := h
  obtain ⟨k, F, hR, _⟩ := frecs_of_cells Tryz.underlying26 rec_step (by omega) (okWide_slice Tryz.underlying26 hok) hf
  obtain ⟨a, cap, rfl, hc⟩ := hR.any
  refine ⟨(List.range k).map (fun i => (⟨F i 0, F i 1, ⟨F i 2, F i 3, F i 4, F i 5, F i 6⟩⟩ : Stp)), a, cap, by simp, fun h0 => ?_⟩
  obtain ⟨b, off, e, hcell⟩ := hc.out (by simpa using h0)
  refine ⟨b, off, e, fun i hi => ?_⟩
  have hi' : i < k := by simpa using hi
  have hg : ((List.range k).map (fun i => (⟨F i 0, F i 1, ⟨F i 2, F i 3, F i 4, F i 5, F i 6⟩⟩ : Stp))).getD i .zero = ⟨F i 0, F i 1, ⟨F i 2, F i 3, F i 4, F i 5, F i 6⟩⟩ := by
    rw [List.getD_eq_getElem?_getD, List.getElem?_map, List.getElem?_range hi']; rfl
  rw [hg]
  exact ⟨hcell i hi' 0 (by omega), hcell i hi' 1 (by omega), hcell i hi' 2 (by omega), hcell i hi' 3 (by omega), hcell i hi' 4 (by omega), hcell i hi' 5 (by omega), hcell i hi' 6 (by omega)⟩
end Go.Proofs.YtgifghbnpdanhaaGreatDoor

/-
  How flows come in.
-/
import Derived.Test.YtfdmmfjheiiiiaaDoorFlowC
import Derived.Test.YtfdmmfjheiiiiaaDoorFrameP
import Derived.SizedLaws
namespace Go.Proofs.YtfdmmfjheiiiiaaDoor
open Go.ChangeShapes Go.WideShapes Go.ChangeAt Go.RowKit Go.Deep

theorem flow_slice {H : Type} {enc : TypeId × Value → H} {W : World} {n : Nat} {t : TypeId} {c : Value} {y : DataW H × List MemPlace} (hu : Tryd.prog.underlying t = some (.slice 3)) (h : DataW.trod enc Tryd.prog W 0 (fun _ => true) true n t [c] = some y) : ∃ xs : List Int, Ints W c xs ∧ ∀ x ∈ xs, Bd x := by
  have hs : ∃ a l cap, c = .slice a l cap := by
    rcases DataW.trod_slice hu h with ⟨hcs, _⟩ | ⟨a', len', cap', elems, rest, n, _, hcs, _⟩
    · simp at hcs
      exact ⟨_, _, _, hcs⟩
    · simp at hcs
      exact ⟨_, _, _, hcs⟩
  obtain ⟨a, len, cap, rfl⟩ := hs
  rcases open_ints hu Tryd.underlying3 cellsInt h with ⟨hcs, _⟩ | ⟨a', len', cap', zs, hcs, _, hl, hm, hz, _, hcell, hwz⟩
  · simp at hcs
    obtain ⟨rfl, rfl, rfl⟩ := hcs
    exact ⟨[], .inl ⟨_, _, rfl, rfl⟩, by simp⟩
  · simp at hcs hz
    obtain ⟨rfl, rfl, rfl⟩ := hcs
    have hlen : (zs.take len).length = len := by simp; omega
    refine ⟨zs.take len, ?_, fun x hx => ?_⟩
    · rcases Nat.eq_zero_or_pos len with h0 | h0
      · subst h0
        exact .inl ⟨_, _, rfl, by simp⟩
      · obtain ⟨b, off, sp⟩ := a'
        have h00 := hcell 0 (by omega)
        obtain rfl : sp = none := spot_none h00 rfl
        refine .inr ⟨b, off, cap, by rw [hlen], by omega, by unfold maxLen at hm; omega, fun i hi => ?_⟩
        rw [hlen] at hi
        have := hcell i (by omega)
        rw [addr_add] at this
        rw [this]
        simp [List.getD_eq_getElem?_getD, hi]
    · have := hwz x (List.mem_of_mem_take hx)
      simp only [Lit.wf, Bool.and_eq_true, decide_eq_true_eq] at this
      exact this

theorem two_of {α : Type} {l : List α} (h : l.length = 2) : ∃ a b, l = [a, b] := by
  match l, h with
  | [a, b], _ => exact ⟨a, b, rfl⟩

set_option maxRecDepth 100000 in
theorem flow_of_cells {H : Type} {enc : TypeId × Value → H} {W : World} {n : Nat} {cs : List Value} {y : DataW H × List MemPlace} (h : DataW.trod enc Tryd.prog W 0 (fun _ => true) true n 46 cs = some y) : ∃ x : Flw, cs = [x.come, x.promise] ∧ x.at W := by
  obtain ⟨xs, m, _, _, hcl, hl, hfs⟩ := DataW.trod_struct Tryd.underlying46 h
  have hlen : cs.length = 2 := hcl.trans (by kernel_rfl)
  have hxl : xs.length = 2 := hl
  obtain ⟨c0, c1, rfl⟩ := two_of hlen
  obtain ⟨y0, y1, rfl⟩ := two_of hxl
  have e0 : DataW.trod enc Tryd.prog W 0 (fun _ => true) true m 28 (([c0, c1].drop 0).take (Tryd.prog.cellsOf 28)) = some y0 := hfs 0 _ rfl
  have e1 : DataW.trod enc Tryd.prog W 0 (fun _ => true) true m 44 (([c0, c1].drop 1).take (Tryd.prog.cellsOf 44)) = some y1 := hfs 1 _ rfl
  have k0 : Tryd.prog.cellsOf 28 = 1 := by kernel_rfl
  have k1 : Tryd.prog.cellsOf 44 = 1 := by kernel_rfl
  rw [k0] at e0
  rw [k1] at e1
  obtain ⟨xs, hx, _⟩ := flow_slice Tryd.underlying28 e0
  obtain ⟨ys, hy, _⟩ := flow_slice Tryd.underlying44 e1
  exact ⟨⟨c0, c1, xs, ys⟩, rfl, hx, hy⟩

set_option maxRecDepth 100000 in
theorem flows_of_trod {H : Type} {enc : TypeId × Value → H} {W : World} {base : Nat} {v : Value} {d : DataW H} {ps : List MemPlace} (hok : Value.okWide Tryd.prog W .any base 22 v) (h : DataW.Trod enc Tryd.prog W 0 (fun _ => true) true 22 v d ps)
    {ts : List TypeId} {ds : List (DataW H)} (hsz : (DataW.weightsEach Tryd.prog ts ds).all (· ≤ reachBytes) = true) {j : Nat} (ht : ts[j]? = some 22) (hd : ds[j]? = some d) :
    ∃ (k : Nat) (F : Nat → Flw), Flows W v k F ∧ k * 48 ≤ 140737488351232 := by
  obtain ⟨fuel, hf⟩ := h
  obtain ⟨a, len, cap, rfl⟩ := okWide_slice Tryd.underlying22 hok
  rcases DataW.trod_slice Tryd.underlying22 hf with ⟨hcs, _⟩ | ⟨a', len', cap', elems, rest, n, _, hcs, hx, _, hl, hm, hlen, hel, _, _⟩
  · simp [Value.cells] at hcs
    obtain ⟨rfl, rfl, rfl⟩ := hcs
    exact ⟨0, fun _ => Flw.zero, ⟨_, _, rfl, by omega, fun i hi => absurd hi (by omega), fun h => absurd h (by omega)⟩, by omega⟩
  · simp [Value.cells] at hcs
    obtain ⟨rfl, rfl, rfl⟩ := hcs
    simp only [Prod.mk.injEq] at hx
    have hb := sized_slice hsz ht (by rw [hd, hx.1]) Tryd.underlying22
    have hby : Tryd.prog.bytesOf 46 = 48 := by kernel_rfl
    rw [hby] at hb
    simp at hb
    have hb' : len * 48 ≤ 140737488351232 := by unfold reachBytes at hb; omega
    rcases Nat.eq_zero_or_pos len with h0 | h0
    · subst h0
      exact ⟨0, fun _ => Flw.zero, ⟨_, _, rfl, by omega, fun i hi => absurd hi (by omega), fun h => absurd h (by omega)⟩, by omega⟩
    · have hc2 : Tryd.prog.cellsOf 46 = 2 := by kernel_rfl
      have each : ∀ i, i < len → ∃ x : Flw, x.at W ∧ W.cell? ((a'.add (i * 2)).add 0) = some x.come ∧ W.cell? ((a'.add (i * 2)).add 1) = some x.promise := by
        intro i hi
        have h1 := hel i hi
        rw [List.getElem?_eq_getElem (by omega), hc2] at h1
        obtain ⟨cs, hcs, ht⟩ := Option.bind_eq_some_iff.1 h1
        obtain ⟨x, rfl, hx2⟩ := flow_of_cells ht
        obtain ⟨_, _, hcell⟩ := World.cells?_some hcs
        refine ⟨x, hx2, ?_, ?_⟩
        · rw [hcell 0 (by omega)]; rfl
        · rw [hcell 1 (by omega)]; rfl
      obtain ⟨b, off, sp⟩ := a'
      obtain ⟨x0, _, hc0, _⟩ := each 0 h0
      obtain rfl : sp = none := by
        rw [show Addr.add ⟨b, off, sp⟩ (0 * 2) = ⟨b, off, sp⟩ from by rw [Nat.zero_mul]; rfl] at hc0
        exact spot_none hc0 rfl
      obtain ⟨F, hF⟩ := choose_fun len each
      refine ⟨len, F, ⟨_, _, rfl, by unfold maxLen at hm; omega, fun i hi => (hF i hi).1, fun _ => ⟨b, off, rfl, fun i hi => ?_⟩⟩, hb'⟩
      have := (hF i hi).2
      rw [addr_add, addr_add, addr_add, Nat.add_zero] at this
      exact this

theorem scCk_zero {F : Nat → Flw} {n : Nat} (h : scCk F n = 0) : (1 ≤ n ∧ n ≤ 8) ∧ ∀ i, i < n → scAt F i = 0 := by
  by_cases hh : n < 1 ∨ 8 < n
  · rw [scAt_four hh] at h; exact absurd h (by decide)
  · rcases scCk_cases (F := F) hh with ⟨_, h1⟩ | ⟨q, h1, h2, h3, h4⟩
    · exact ⟨by omega, h1⟩
    · exact absurd h h4
end Go.Proofs.YtfdmmfjheiiiiaaDoor

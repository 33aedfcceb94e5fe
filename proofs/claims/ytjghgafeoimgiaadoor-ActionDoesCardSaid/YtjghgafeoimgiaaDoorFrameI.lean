/-
  The frame, more: slices of packets that came in; millraceref.Fine.
-/
import Derived.Test.YtjghgafeoimgiaaDoorFrame
import Derived.Test.YtjghgafeoimgiaaDoorItemB
import Derived.Deep.Fields
namespace Go.Proofs.YtjghgafeoimgiaaDoor
open Go.ChangeShapes Go.WideShapes Go.ChangeAt Go.RowKit Go.Deep

/-- Bounds of a packet's numbers. -/
def Itm.bd (x : Itm) : Prop := (-9223372036854775808 ≤ x.t ∧ x.t ≤ 9223372036854775807) ∧ (-9223372036854775808 ≤ x.len ∧ x.len ≤ 9223372036854775807) ∧ (-9223372036854775808 ≤ x.flow ∧ x.flow ≤ 9223372036854775807) ∧ (-9223372036854775808 ≤ x.band ∧ x.band ≤ 9223372036854775807) ∧ (-9223372036854775808 ≤ x.mark ∧ x.mark ≤ 9223372036854775807)

theorem five {α : Type} {l : List α} (h : l.length = 5) : ∃ a b c d e, l = [a, b, c, d, e] := by
  match l, h with
  | [a, b, c, d, e], _ => exact ⟨a, b, c, d, e, rfl⟩

theorem itemFields : ∃ f0 f1 f2 f3 f4 : Field, Tryd.prog.underlying 54 = some (.struct #[f0, f1, f2, f3, f4]) ∧ (f0.offset = 0 ∧ f1.offset = 1 ∧ f2.offset = 2 ∧ f3.offset = 3 ∧ f4.offset = 4) ∧ f0.type = 3 ∧ f1.type = 3 ∧ f2.type = 3 ∧ f3.type = 3 ∧ f4.type = 3 :=
  ⟨_, _, _, _, _, Tryd.underlying54, ⟨rfl, rfl, rfl, rfl, rfl⟩, rfl, rfl, rfl, rfl, rfl⟩
theorem cellsItem : Tryd.prog.cellsOf 54 = 5 := by kernel_rfl

set_option maxRecDepth 100000 in
theorem item_of_cells {H : Type} {enc : TypeId × Value → H} {W : World} {n : Nat} {cs : List Value} {y : DataW H × List MemPlace} (h : DataW.trod enc Tryd.prog W 0 (fun _ => true) true n 54 cs = some y) :
    ∃ x : Itm, cs = [.int .i64 x.t, .int .i64 x.len, .int .i64 x.flow, .int .i64 x.band, .int .i64 x.mark] ∧ x.bd := by
  obtain ⟨f0, f1, f2, f3, f4, hu, ⟨o0, o1, o2, o3, o4⟩, t0, t1, t2, t3, t4⟩ := itemFields
  obtain ⟨xs, m, _, _, hcl, hl, hf⟩ := DataW.trod_struct hu h
  rw [cellsItem] at hcl
  obtain ⟨c0, c1, c2, c3, c4, rfl⟩ := five hcl
  obtain ⟨y0, y1, y2, y3, y4, rfl⟩ := five (hl.trans rfl)
  have e0 := hf 0 f0 rfl
  have e1 := hf 1 f1 rfl
  have e2 := hf 2 f2 rfl
  have e3 := hf 3 f3 rfl
  have e4 := hf 4 f4 rfl
  rw [o0, t0, cellsInt] at e0
  rw [o1, t1, cellsInt] at e1
  rw [o2, t2, cellsInt] at e2
  rw [o3, t3, cellsInt] at e3
  rw [o4, t4, cellsInt] at e4
  obtain ⟨z0, g0, b0⟩ := int_cell Tryd.underlying3 e0
  obtain ⟨z1, g1, b1⟩ := int_cell Tryd.underlying3 e1
  obtain ⟨z2, g2, b2⟩ := int_cell Tryd.underlying3 e2
  obtain ⟨z3, g3, b3⟩ := int_cell Tryd.underlying3 e3
  obtain ⟨z4, g4, b4⟩ := int_cell Tryd.underlying3 e4
  simp at g0 g1 g2 g3 g4
  subst g0 g1 g2 g3 g4
  exact ⟨⟨z0, z1, z2, z3, z4⟩, rfl, b0, b1, b2, b3, b4⟩

theorem choose_list {P : Nat → Itm → Prop} (n : Nat) (h : ∀ i, i < n → ∃ x, P i x) : ∃ l : List Itm, l.length = n ∧ ∀ i, i < n → P i (l.getD i .zero) := by
  induction n with
  | zero => exact ⟨[], rfl, fun i hi => absurd hi (by omega)⟩
  | succ n ih =>
    obtain ⟨l, hl, hp⟩ := ih (fun i hi => h i (by omega))
    obtain ⟨x, hx⟩ := h n (by omega)
    refine ⟨l ++ [x], by simp [hl], fun i hi => ?_⟩
    rcases Nat.lt_or_ge i n with h1 | h1
    · have := hp i h1
      simpa [List.getD_eq_getElem?_getD, List.getElem?_append_left (show i < l.length by omega)] using this
    · obtain rfl : i = n := by omega
      simpa [List.getD_eq_getElem?_getD, ← hl] using hx

set_option maxRecDepth 100000 in
/-- A slice of packets that came in. -/
theorem items_of_trod {H : Type} {enc : TypeId × Value → H} {W : World} {base : Nat} {v : Value} {d : DataW H} {ps : List MemPlace}
    (hok : Value.okWide Tryd.prog W .any base 24 v) (h : DataW.Trod enc Tryd.prog W 0 (fun _ => true) true 24 v d ps) : ∃ l : List Itm, Items W v l ∧ ∀ i, i < l.length → (l.getD i .zero).bd := by
  obtain ⟨a, len, cap, rfl⟩ := okWide_slice Tryd.underlying24 hok
  obtain ⟨fuel, hf⟩ := h
  rcases DataW.trod_slice Tryd.underlying24 hf with ⟨hcs, _⟩ | ⟨a', len', cap', elems, rest, n, _, hcs, _, _, hl, hm, hlen, hel, _, _⟩
  · simp [Value.cells] at hcs
    obtain ⟨rfl, rfl, rfl⟩ := hcs
    exact ⟨[], .inl ⟨_, _, rfl, rfl⟩, fun i hi => absurd hi (by simp)⟩
  · simp [Value.cells] at hcs
    obtain ⟨rfl, rfl, rfl⟩ := hcs
    rcases Nat.eq_zero_or_pos len with h0 | h0
    · subst h0
      exact ⟨[], .inl ⟨_, _, rfl, rfl⟩, fun i hi => absurd hi (by simp)⟩
    · have each : ∀ i, i < len → ∃ x : Itm, x.bd ∧ ∃ cs, W.cells? 0 (a'.add (i * 5)) 5 = some cs ∧ cs = [.int .i64 x.t, .int .i64 x.len, .int .i64 x.flow, .int .i64 x.band, .int .i64 x.mark] := by
        intro i hi
        have h1 := hel i hi
        rw [List.getElem?_eq_getElem (by omega), cellsItem] at h1
        obtain ⟨cs, hcs, ht⟩ := Option.bind_eq_some_iff.1 h1
        obtain ⟨x, hx, hb⟩ := item_of_cells ht
        exact ⟨x, hb, cs, hcs, hx⟩
      obtain ⟨b, off, sp⟩ := a'
      obtain ⟨x0, _, cs0, hc0, hx0⟩ := each 0 h0
      obtain rfl : sp = none := by
        obtain ⟨_, _, hcell⟩ := World.cells?_some hc0
        have := hcell 0 (by omega)
        rw [hx0] at this
        rw [show Addr.add ⟨b, off, sp⟩ (0 * 5) = ⟨b, off, sp⟩ from rfl] at this
        exact spot_none this rfl
      obtain ⟨l, hll, hp⟩ := choose_list len each
      refine ⟨l, .inr ⟨b, off, cap, by rw [hll], by omega, ⟨by omega, by unfold maxLen at hm; omega⟩, fun i hi => ?_⟩, fun i hi => (hp i (by omega)).1⟩
      obtain ⟨_, cs, hcs, hx⟩ := hp i (by omega)
      obtain ⟨_, _, hcell⟩ := World.cells?_some hcs
      rw [addr_add] at hcell
      have q0 := hcell 0 (by omega)
      have q1 := hcell 1 (by omega)
      have q2 := hcell 2 (by omega)
      have q3 := hcell 3 (by omega)
      have q4 := hcell 4 (by omega)
      rw [addr_add, hx] at q0 q1 q2 q3 q4
      exact ⟨q0, q1, q2, q3, q4⟩

theorem gFine : Tryd.prog.globalNamed "millrace/millraceref.Fine" = some 0 := by kernel_rfl
theorem gFineType : (Tryd.prog.globals[0]?).map (·.type) = some 38 := by kernel_rfl
set_option maxRecDepth 100000 in
theorem fine_of_laid {W : World} (h : laidMet Tryd.prog [("millrace/millraceref.Fine", Rows.laid_millrace_millraceref_Fine)] W) : FineIs W := by
  obtain ⟨ps, ⟨g, t, cs, fuel, p, q, hg, ht, hv, htr, _⟩, _⟩ := h
  obtain rfl : 0 = g := Option.some.inj (gFine.symm.trans hg)
  obtain rfl : 38 = t := Option.some.inj (gFineType.symm.trans ht)
  obtain ⟨xs, m, _, hx, hcl, hl, hf⟩ := DataW.trod_struct Tryd.underlying38 htr
  have e0 : DataW.trod (fun _ => ()) Tryd.prog W 0 (fun _ => true) false m 36 ((cs.toList.drop 0).take (Tryd.prog.cellsOf 36)) = xs[0]? := hf 0 _ rfl
  have e1 : DataW.trod (fun _ => ()) Tryd.prog W 0 (fun _ => true) false m 3 ((cs.toList.drop 1).take (Tryd.prog.cellsOf 3)) = xs[1]? := hf 1 _ rfl
  have hlen : cs.toList.length = 2 := hcl.trans (by kernel_rfl)
  have k0 : Tryd.prog.cellsOf 36 = 1 := by kernel_rfl
  rw [k0] at e0
  rw [cellsInt] at e1
  obtain ⟨l⟩ := cs
  match l, hlen with
  | [c0, c1], _ =>
    match xs, hl with
    | [y0, y1], _ =>
      simp only [Prod.mk.injEq] at hx
      obtain ⟨z0, g0, r0, _⟩ := DataW.trod_int Tryd.underlying36 e0
      obtain ⟨z1, g1, r1, _⟩ := DataW.trod_int Tryd.underlying3 e1
      have hx1 := hx.1
      simp only [Rows.laid_millrace_millraceref_Fine, r0, r1, List.map_cons, List.map_nil, DataW.agg.injEq, List.cons.injEq, DataW.lit.injEq, Lit.int.injEq, and_true, true_and] at hx1
      obtain ⟨h0, h1⟩ := hx1
      simp at g0 g1
      refine ⟨?_, ?_⟩
      · have := World.var?_cell gFine hv 0
        simpa [g0, ← h0] using this
      · have := World.var?_cell gFine hv 1
        simpa [g1, ← h1] using this
end Go.Proofs.YtjghgafeoimgiaaDoor

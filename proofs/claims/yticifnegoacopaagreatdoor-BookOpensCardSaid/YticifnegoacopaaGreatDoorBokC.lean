/-
  slices.Grow of nothing, slices.Concat of two: for bytes.
-/
import Derived.Test.YticifnegoacopaaGreatDoorBokQ
import Derived.Lib.AppendZeros
import Derived.Deep.DeepCutAuto
import Derived.Deep.CutBlock
namespace Go.Proofs.YticifnegoacopaaGreatDoor
open Go Go.RowKit

/-- The slice u holds the bytes x. -/
def BytesAt (w : World) (u : Value) (x : ByteArray) : Prop := ∃ a c, u = .slice a x.size c ∧ (x.size = 0 ∨ ∃ ad : Addr, a = some ad ∧ ad.block < w.heap.size ∧ ∀ j v, (Lib.strCells x)[j]? = some v → w.cell? (ad.add j) = some v)
theorem BytesAt.gr {w w' : World} {u : Value} {x : ByteArray} (h : BytesAt w u x) (g : Gr w w') : BytesAt w' u x := by
  obtain ⟨a, c, e, h1⟩ := h
  exact ⟨a, c, e, h1.imp id fun ⟨ad, e2, h3, h2⟩ => ⟨ad, e2, Nat.lt_of_lt_of_le h3 g.size, fun j v hv => g.cell (h2 j v hv)⟩⟩
/-- A slice of bytes of the call's own. -/
def OwnB (w : World) (base : Nat) (v : Value) (d : ByteArray) : Prop := w.ownsRow base 5 1 v d.size (Lib.strCells d)
theorem OwnB.gr {w w' : World} {base : Nat} {v : Value} {d : ByteArray} (h : OwnB w base v d) (k : Gr w w') : OwnB w' base v d := ownsRow_same h fun g hg => by
  rcases h.2 with ⟨e, _⟩ | ⟨g', _, cur, e, _, hh, _⟩
  · rw [e] at hg; cases hg
  · rw [e] at hg
    obtain rfl := Option.some.inj hg
    exact k.block (Array.getElem?_eq_some_iff.1 hh).1
theorem OwnB.age {w : World} {base : Nat} {v : Value} {d : ByteArray} (h : OwnB w base v d) {g : Nat} (hg : v.ownBlock = some g) : base ≤ g := by
  rcases h.2 with ⟨e, _⟩ | ⟨g', _, cur, e, hb, hh, _⟩
  · rw [e] at hg; cases hg
  · rw [e] at hg
    obtain rfl := Option.some.inj hg
    exact hb
theorem OwnB.shape {w : World} {base : Nat} {v : Value} {d : ByteArray} (h : OwnB w base v d) : ∃ a c, v = .slice a d.size c ∧ d.size ≤ c := by
  rcases h.2 with ⟨e, hn⟩ | ⟨g, cap, cur, e, _, _, hc, _⟩
  · exact ⟨none, 0, by rw [e, hn], by omega⟩
  · exact ⟨_, _, e, hc⟩
theorem OwnB.bytes {w : World} {base : Nat} {v : Value} {d : ByteArray} (h : OwnB w base v d) : BytesAt w v d := by
  rcases h.2 with ⟨e, hn⟩ | ⟨g, cap, cur, e, _, hh, hc, _, hcs, ht⟩
  · exact ⟨none, 0, by rw [e, hn], .inl hn⟩
  · refine ⟨_, _, e, .inr ⟨⟨g, 0, none⟩, rfl, (Array.getElem?_eq_some_iff.1 hh).1, fun j v hv => ?_⟩⟩
    have hj : j < d.size := by rw [← Lib.strCells_length]; exact (List.getElem?_eq_some_iff.1 hv).1
    rw [Addr.add_lit, cell_of_row w g _ cur _ (0, 0) hh, Nat.zero_add]
    rw [← ht, List.getElem?_take] at hv
    simpa [hj] using hv
/-- append(v, u...) -/
theorem bytes_app {w : World} {base : Nat} {v u : Value} {d x : ByteArray} (h : OwnB w base v d) (hu : BytesAt w u x) (hd : d.size ≤ 100000) (hx : x.size ≤ 100000) (hn : base ≤ w.heap.size) :
    ∃ v' w', (Builtin.append_ #[25, 25] 25 #[v, u]).run Tryz.prog w = .ok v' w' ∧ OwnB w' base v' (d ++ x) ∧ w.grownBy w' v.ownBlock := by
  obtain ⟨i0, hi, hz0, hz1, hz2⟩ := info_parts info_u8
  obtain ⟨a, c, rfl, hu⟩ := hu
  rcases hu with h0 | ⟨ad, rfl, _, hc⟩
  · obtain ⟨va, vc, rfl, hvc⟩ := h.shape
    have hx0 : d ++ x = d := by
      have : x = ⟨#[]⟩ := by
        apply ByteArray.ext
        exact Array.eq_empty_of_size_eq_zero h0
      rw [this, bapp_nil]
    refine ⟨_, w, ?_, by rw [hx0]; exact h, ⟨rfl, rfl, rfl, Nat.le_refl _, fun _ _ _ => rfl⟩⟩
    rw [h0]
    cases a <;> cases va <;> simp [Builtin.append_, run_underlying Tryz.underlying25, sizeOf, typeInfo, hi, Builtin.lenOf, Builtin.firstCells, hvc, storeCells, loadCells, go_sem]
  · obtain ⟨v', w', h1, h2, h3, _⟩ := run_append_own (P := Tryz.prog) w base 25 25 5 i0 (.int .u8 0) 1 1 Tryz.underlying25 hi hz0 hz1 hz2 rfl (by decide) v d.size (Lib.strCells d) h ad x.size c (Lib.strCells x) (by rw [Lib.strCells_length]; omega) hc (Lib.strCells_oneCell x) (by unfold maxLen; omega) (by omega) hn
    exact ⟨v', w', h1, by unfold OwnB; rw [ByteArray.size_append, ← cells_app]; exact h2, h3⟩

set_option maxRecDepth 100000 in
set_option maxHeartbeats 4000000 in
/-- slices.Grow(nil, n) -/
theorem grow_nil (n : Nat) (hn : n ≤ 100000) (w : World) : Calls Tryz.prog 48 #[.slice none 0 0, .int .i64 (n : Int)] w fun e w' => ∃ v, e = .returned v ∧ OwnB w' w.heap.size v ⟨#[]⟩ ∧ Gr w w' := by
  obtain ⟨i0, hi, hz0, hz1, hz2⟩ := info_parts info_u8
  have n0 : (0 : Int) ≤ (n : Int) := by omega
  have n1 : (n : Int) ≤ 100000 := by omega
  have HI := Lib.hid (And.intro hi (And.intro hz0 (And.intro hz1 hz2)))
  have HN := Lib.hid hn
  clear hi hz0 hz1 hz2 hn
  by_cases h0 : n = 0
  · have HE : Hid (OwnB w w.heap.size (.slice none 0 0) ⟨#[]⟩) := Lib.hid (World.ownsRow_nil w w.heap.size _ 1)
    subst h0
    go_enter Tryz.func48, Tryz.ntmps48
    go_wp2
    go_ret
    exact ⟨_, rfl, HE.out, Gr.refl _⟩
  · have h1 : (0 : Int) < (n : Int) := by omega
    have HR := Lib.hid (Lib.run_append_nil_zeros (P := Tryz.prog) w 25 3 25 5 i0 (.int .u8 0) .i64 .i64 Tryz.underlying25 Tryz.underlying3 HI.out.1 HI.out.2.1 n (by omega) (by have := HI.out.2.2.1; omega) (by omega) (by have := HI.out.2.2.2; rw [this]; omega))
    have HC := Lib.hid (grownCap_ge w n 0 5)
    have HC2 := Lib.hid (grownCap_le_maxLen w n 0 5 (by unfold maxLen; omega))
    have HE : Hid (OwnB (w.drew.alloc (.cells (Builtin.zeroCells (Value.int .u8 0).cells n ++ Builtin.zeroCells (Value.int .u8 0).cells (grownCap w n 0 5 - n)) 5)) w.heap.size (.slice (some ⟨w.heap.size, 0, none⟩) 0 (grownCap w n 0 5)) ⟨#[]⟩) := Lib.hid (by
      refine ⟨rfl, .inr ⟨w.heap.size, _, _, rfl, Nat.le_refl _, heap_alloc_new w.drew _, Nat.zero_le _, HC2.out, ?_, rfl⟩⟩
      have hz1 : (Value.int IntKind.u8 0).cells.size = 1 := rfl
      simp only [Array.size_append, size_zeroCells, hz1]
      have := HC.out
      omega)
    obtain ⟨cap, hcap⟩ : ∃ cap, cap = grownCap w n 0 5 := ⟨_, rfl⟩
    rw [← hcap] at HR HE HC HC2
    have HG : Hid (Gr w (w.drew.alloc (.cells (Builtin.zeroCells (Value.int .u8 0).cells n ++ Builtin.zeroCells (Value.int .u8 0).cells (cap - n)) 5))) := Lib.hid ((Gr.refl w).drew.alloc _)
    obtain ⟨w2, hw2⟩ : ∃ w2, w2 = w.drew.alloc (.cells (Builtin.zeroCells (Value.int .u8 0).cells n ++ Builtin.zeroCells (Value.int .u8 0).cells (cap - n)) 5) := ⟨_, rfl⟩
    rw [← hw2] at HR HE HG
    have hc0 := HC.out
    have hnz : n ≠ 0 := h0
    clear hw2 hcap h0
    go_enter Tryz.func48, Tryz.ntmps48
    go_wp2_with (at_builtin; refine Lib.wpList_append_run _ rfl _ _ _ _ rfl (.slice none 0 0) (.int .i64 (n : Int)) (by rfl) (by rfl) _ _ HR.out ?_)
    go_ret
    exact ⟨_, rfl, HE.out, HG.out⟩
end Go.Proofs.YticifnegoacopaaGreatDoor

/-
  Slices of ints that a call makes and appends to. millracelaw.sameInts; slices of ints once more.
-/
import Derived.Test.YticifnegoacopaaGreatDoorPlain
import Derived.Test.YticifnegoacopaaGreatDoorProg
import Derived.StillTailTactics
import Derived.Deep.RegionLaw
import Derived.Deep.RegionHeld3
namespace Go.Proofs.YticifnegoacopaaGreatDoor
open Go.RowKit
open Go.RowKit Go.Extern.Stop Go.Stop Go.Extern

theorem info_int : (Tryz.prog.info? 3).map (fun i => (i.zero, i.size, i.bytes)) = some (some (.int .i64 0), 1, 8) := by kernel_rfl

/-- v is a slice of the call's own (its block from 'base' on) that holds xs. -/
def OwnInts (w : World) (base : Nat) (v : Value) (xs : List Int) : Prop := w.ownsRow base 3 1 v xs.length (xs.map (Value.int .i64))
/-- w' is w with blocks from 'base' on written, and new ones. -/
def Wrote (base : Nat) (w w' : World) : Prop := ∀ u : World, Gr u w → u.heap.size ≤ base → Gr u w'
theorem Wrote.gr {base : Nat} {w w' u : World} (h : Wrote base w w') (g : Gr u w) (hb : u.heap.size ≤ base) : Gr u w' := h u g hb
theorem OwnInts.nil (w : World) (base : Nat) : OwnInts w base (.slice none 0 0) [] := World.ownsRow_nil w base _ 1
theorem OwnInts.alloc {w : World} {base : Nat} {v : Value} {xs : List Int} (h : OwnInts w base v xs) (o : Obj) : OwnInts (w.alloc o) base v xs := World.ownsRow.alloc h o
theorem OwnInts.drew {w : World} {base : Nat} {v : Value} {xs : List Int} (h : OwnInts w base v xs) : OwnInts w.drew base v xs := h
theorem OwnInts.drewN {w : World} {base : Nat} {v : Value} {xs : List Int} (h : OwnInts w base v xs) (n : Nat) : OwnInts (w.drewN n) base v xs := h
theorem OwnInts.shape {w : World} {base : Nat} {v : Value} {xs : List Int} (h : OwnInts w base v xs) : ∃ a cap, v = .slice a xs.length cap := by
  rcases h.2 with ⟨rfl, h0⟩ | ⟨g, cap, cur, rfl, _⟩
  · exact ⟨none, 0, by rw [h0]⟩
  · exact ⟨_, _, rfl⟩
/-- .. it reads as these ints. -/
theorem OwnInts.ints {w : World} {base : Nat} {v : Value} {xs : List Int} (h : OwnInts w base v xs) (_ : xs.length ≤ 9223372036854775807) : Ints w v xs := by
  have hh := h
  obtain ⟨_, h2⟩ := h
  rcases h2 with ⟨rfl, h0⟩ | ⟨g, cap, cur, rfl, _, _, hcap, hcap2, _⟩
  · exact .inl ⟨_, _, rfl, List.length_eq_zero_iff.1 h0⟩
  · rcases Nat.eq_zero_or_pos xs.length with hz | hz
    · exact .inl ⟨_, _, by rw [hz], List.length_eq_zero_iff.1 hz⟩
    · refine .inr ⟨g, 0, cap, rfl, hz, ⟨hcap, by unfold maxLen at hcap2; omega⟩, fun i hi => ?_⟩
      have hc := World.ownsRow.cells (w := w) hh (g := g) rfl i (.int .i64 (xs.getD i 0)) (by simp [hi, List.getD_eq_getElem?_getD])
      have e2 : Addr.add ⟨g, 0, none⟩ i = ⟨g, 0 + i, none⟩ := by unfold Addr.add; split <;> simp_all
      rw [e2] at hc
      exact hc

/-- append(v, y): one int more. -/
theorem wpList_append_int {ops : Array Oper} {rest : List Oper} {o : Oper} {a : Act} {Q : Exit → Act → World → Prop} {w : World} (hgd : o.guard = none) (s x : Operand) (t : TypeId)
    (ho : o.op = .call { callee := .builtin .append, args := #[s, x], argTypes := #[t, t] }) (ht : Tryz.prog.underlying t = some (.slice 3))
    (base : Nat) (v : Value) (xs : List Int) (y : Int) (hs : a.eval s = v) (hown : OwnInts w base v xs) (ad : Addr) (c : Nat) (hx : a.eval x = .slice (some ad) 1 c)
    (hy : w.cell? ad = some (.int .i64 y)) (hlen : xs.length ≤ 1000000000) (hbase : base ≤ w.heap.size)
    (h : ∀ v' w', OwnInts w' base v' (xs ++ [y]) → Wrote base w w' → wpList Tryz.prog ops Q rest (a.put o.dst v') w') : wpList Tryz.prog ops Q (o :: rest) a w := by
  obtain ⟨i0, hi, hz0, hz1, hz2⟩ := info_parts info_int
  refine wpList_append_own w hgd s x t ho base 3 i0 (.int .i64 0) 1 8 ht hi hz0 hz1 hz2 rfl (by decide) v xs.length (xs.map (Value.int .i64)) hs hown ad 1 c [.int .i64 y] hx rfl ?_ ?_ ?_ ?_ hbase ?_
  · intro j u hj
    match j, hj with
    | 0, hj => simp at hj; subst hj; simpa [Addr.add] using hy
    | j + 1, hj => simp at hj
  · intro u hu; simp at hu; subst hu; rfl
  · unfold maxLen; omega
  · omega
  · intro v' w' hown' hg _
    refine h v' w' ?_ ?_
    · unfold OwnInts; simpa using hown'
    · intro u hu hb
      exact hu.grown hg (fun k hk => Nat.le_trans hb (World.ownsRow.lt hown k hk).1)
/-- append(v, y), as one step of a region that draws its order. -/
theorem step_append_int {ops : Array Oper} {o : Oper} {a : Act} {w : World} {K : Act → World → Prop} {Q : Exit → Act → World → Prop} {E : Prop}
    (hgd : o.guard = none) (s x : Operand) (t : TypeId) (ho : o.op = .call { callee := .builtin .append, args := #[s, x], argTypes := #[t, t] }) (ht : Tryz.prog.underlying t = some (.slice 3))
    (base : Nat) (v : Value) (xs : List Int) (y : Int) (hs : a.eval s = v) (hown : OwnInts w base v xs) (ad : Addr) (c : Nat) (hx : a.eval x = .slice (some ad) 1 c)
    (hy : w.cell? ad = some (.int .i64 y)) (hlen : xs.length ≤ 1000000000) (hbase : base ≤ w.heap.size)
    (h : ∀ v' w', OwnInts w' base v' (xs ++ [y]) → Wrote base w w' → K (a.put o.dst v') w') :
    if Region.wanted o (yielded ops a.tmps) = true then Oper.wp Tryz.prog o a w K Q else E := by
  have hw : Region.wanted o (yielded ops a.tmps) = true := by simp [Region.wanted, hgd]
  rw [if_pos hw]
  obtain ⟨i0, hi, hz0, hz1, hz2⟩ := info_parts info_int
  refine wp_append_own w s x t ho base 3 i0 (.int .i64 0) 1 8 ht hi hz0 hz1 hz2 rfl (by decide) v xs.length (xs.map (Value.int .i64)) hs hown ad 1 c [.int .i64 y] hx rfl ?_ ?_ ?_ ?_ hbase ?_
  · intro j u hj
    match j, hj with
    | 0, hj => simp at hj; subst hj; simpa [Addr.add] using hy
    | j + 1, hj => simp at hj
  · intro u hu; simp at hu; subst hu; rfl
  · unfold maxLen; omega
  · omega
  · intro v' w' hown' hg _
    refine h v' w' ?_ ?_
    · unfold OwnInts; simpa using hown'
    · intro u hu hb
      exact hu.grown hg (fun k hk => Nat.le_trans hb (World.ownsRow.lt hown k hk).1)

/-- f 0, f 1, .. of so many -/
def upTo (f : Nat → Int) (k : Nat) : List Int := (List.range k).map f
theorem upTo_len (f : Nat → Int) (k : Nat) : (upTo f k).length = k := by simp [upTo]
theorem upTo_succ (f : Nat → Int) (k : Nat) : upTo f k ++ [f k] = upTo f (k + 1) := by simp [upTo, List.range_succ]

theorem min_ite (x y : Int) : (if y < x then y else x) = min x y := by omega
theorem max_ite (x y : Int) : (if x < y then y else x) = max x y := by omega

theorem ints_shape {w : World} {v : Value} {xs : List Int} (h : Ints w v xs) : ∃ a cap, v = .slice a xs.length cap := by
  rcases h with ⟨a, cap, rfl, rfl⟩ | ⟨b, off, cap, rfl, _⟩
  · exact ⟨_, _, rfl⟩
  · exact ⟨_, _, rfl⟩

/-- The cells of a slice that is not empty. -/
theorem ints_cells {w : World} {v : Value} {xs : List Int} (h : Ints w v xs) (h0 : 0 < xs.length) : ∃ b off cap, v = .slice (some ⟨b, off, none⟩) xs.length cap ∧ Hid (∀ i, i < xs.length → w.cell? ⟨b, off + i, none⟩ = some (.int .i64 (xs.getD i 0))) := by
  rcases h with ⟨a, cap, rfl, rfl⟩ | ⟨b, off, cap, rfl, _, _, h⟩
  · simp at h0
  · exact ⟨_, _, _, rfl, h⟩

/-- .. with what is known of its capacity. -/
theorem ints_cap {w : World} {v : Value} {xs : List Int} (h : Ints w v xs) (h0 : 0 < xs.length) : ∃ b off cap, v = .slice (some ⟨b, off, none⟩) xs.length cap ∧ xs.length ≤ cap ∧ cap ≤ 9223372036854775807 ∧ Hid (∀ i, i < xs.length → w.cell? ⟨b, off + i, none⟩ = some (.int .i64 (xs.getD i 0))) := by
  rcases h with ⟨a, cap, rfl, rfl⟩ | ⟨b, off, cap, rfl, _, hcap, h⟩
  · simp at h0
  · exact ⟨_, _, _, rfl, hcap.1, hcap.2, h⟩

end Go.Proofs.YticifnegoacopaaGreatDoor

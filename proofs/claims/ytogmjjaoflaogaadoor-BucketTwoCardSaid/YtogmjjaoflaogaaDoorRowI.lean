/-
  Rows of ints; millracelaw.sameInts. (Printed by genrow.py.)
-/
import Derived.Test.YtogmjjaoflaogaaDoorRow
import Derived.Test.YtogmjjaoflaogaaDoorPlain
import Derived.Test.YtogmjjaoflaogaaDoorProg
namespace Go.Proofs.YtogmjjaoflaogaaDoor
open Go.RowKit

theorem info_intE : (Tryd.prog.info? 3).map (fun i => (i.zero, i.size, i.bytes)) = some (some (.int .i64 0), 1, 8) := by kernel_rfl
def isInt (v : Value) : Prop := ∃ x, v = Value.int .i64 x
/-- v is a slice of the call's own that holds xs. -/
def IntRow (w : World) (v : Value) (xs : List Int) : Prop := Row 3 1 isInt w v xs.length (xs.map fun x => Value.int .i64 x)
theorem IntRow.nil (w : World) : IntRow w (.slice none 0 0) [] := Row.nil _ _ _ w
theorem IntRow.shape {w : World} {v : Value} {xs : List Int} (h : IntRow w v xs) : ∃ a cap, v = .slice a xs.length cap := Row.shape h
theorem IntRow.gr {w w' : World} {v : Value} {xs : List Int} (h : IntRow w v xs) (k : Gr w w') : IntRow w' v xs := Row.gr h k
theorem wpList_append_intR {ops : Array Oper} {rest : List Oper} {o : Oper} {a : Act} {Q : Exit → Act → World → Prop} {w : World} (hgd : o.guard = none) (s x : Operand) (t : TypeId)
    (ho : o.op = .call { callee := .builtin .append, args := #[s, x], argTypes := #[t, t] }) (ht : Tryd.prog.underlying t = some (.slice 3)) (v : Value) (xs : List Int) (y : Int) (hs : a.eval s = v) (h : IntRow w v xs) (ad : Addr) (c : Nat) (hx : a.eval x = .slice (some ad) 1 c)
    (hy : w.cell? ad = some (Value.int .i64 y)) (hn : xs.length ≤ 1000000)
    (hK : ∀ v' w', IntRow w' v' (xs ++ [y]) → w.grownBy w' v.ownBlock → (∀ g, v'.ownBlock = some g → v.ownBlock = some g ∨ w.heap.size ≤ g) → wpList Tryd.prog ops Q rest (a.put o.dst v') w') : wpList Tryd.prog ops Q (o :: rest) a w := by
  obtain ⟨i0, hi, hz0, hz1, hz2⟩ := info_parts info_intE
  refine wpList_append_row hgd s x t ho i0 (.int .i64 0) 8 ht hi hz0 hz1 hz2 rfl ?_ hs h ad c hx [Value.int .i64 y] rfl ?_ ?_ ?_ hn (by decide) ?_
  · intro u hu
    simp [Value.cells] at hu
    exact ⟨_, hu⟩
  · intro j u hj
    match j, hj with
    | 0, hj => simp at hj; subst hj; simpa [Addr.add] using hy
    | j + 1, hj => simp at hj
  · intro u hu; simp at hu; subst hu; rfl
  · intro u hu; simp at hu; exact ⟨_, hu⟩
  · intro v' w' h1 h2 h3
    exact hK v' w' (by unfold IntRow; simpa using h1) h2 h3
theorem IntRow.ints {w : World} {v : Value} {xs : List Int} (h : IntRow w v xs) : Ints w v xs := by
  rcases Nat.eq_zero_or_pos xs.length with h0 | h0
  · obtain ⟨a, cap, rfl⟩ := h.shape
    exact .inl ⟨a, cap, by rw [h0], List.length_eq_zero_iff.1 h0⟩
  · obtain ⟨g, off, cap, rfl, h1, h2, h3⟩ := Row.cells h h0
    exact .inr ⟨g, off, cap, rfl, h0, ⟨h1, by unfold maxLen at h2; omega⟩, fun i hi => h3 i _ (by simp [hi, List.getD_eq_getElem?_getD])⟩
end Go.Proofs.YtogmjjaoflaogaaDoor

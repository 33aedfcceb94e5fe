/-
  Rows of bools; millracelaw.sameBools. (Printed by genrow.py.)
-/
import Derived.Test.YtogmjjaoflaogaaDoorRow
import Derived.Test.YtogmjjaoflaogaaDoorPlain
import Derived.Test.YtogmjjaoflaogaaDoorProg
namespace Go.Proofs.YtogmjjaoflaogaaDoor
open Go.RowKit

theorem info_boolE : (Tryd.prog.info? 4).map (fun i => (i.zero, i.size, i.bytes)) = some (some (.bool false), 1, 1) := by kernel_rfl
def isBool (v : Value) : Prop := ∃ x, v = Value.bool x
/-- v is a slice of the call's own that holds xs. -/
def BoolRow (w : World) (v : Value) (xs : List Bool) : Prop := Row 4 1 isBool w v xs.length (xs.map fun x => Value.bool x)
theorem BoolRow.nil (w : World) : BoolRow w (.slice none 0 0) [] := Row.nil _ _ _ w
theorem BoolRow.shape {w : World} {v : Value} {xs : List Bool} (h : BoolRow w v xs) : ∃ a cap, v = .slice a xs.length cap := Row.shape h
theorem BoolRow.gr {w w' : World} {v : Value} {xs : List Bool} (h : BoolRow w v xs) (k : Gr w w') : BoolRow w' v xs := Row.gr h k
theorem wpList_append_boolR {ops : Array Oper} {rest : List Oper} {o : Oper} {a : Act} {Q : Exit → Act → World → Prop} {w : World} (hgd : o.guard = none) (s x : Operand) (t : TypeId)
    (ho : o.op = .call { callee := .builtin .append, args := #[s, x], argTypes := #[t, t] }) (ht : Tryd.prog.underlying t = some (.slice 4)) (v : Value) (xs : List Bool) (y : Bool) (hs : a.eval s = v) (h : BoolRow w v xs) (ad : Addr) (c : Nat) (hx : a.eval x = .slice (some ad) 1 c)
    (hy : w.cell? ad = some (Value.bool y)) (hn : xs.length ≤ 1000000)
    (hK : ∀ v' w', BoolRow w' v' (xs ++ [y]) → w.grownBy w' v.ownBlock → (∀ g, v'.ownBlock = some g → v.ownBlock = some g ∨ w.heap.size ≤ g) → wpList Tryd.prog ops Q rest (a.put o.dst v') w') : wpList Tryd.prog ops Q (o :: rest) a w := by
  obtain ⟨i0, hi, hz0, hz1, hz2⟩ := info_parts info_boolE
  refine wpList_append_row hgd s x t ho i0 (.bool false) 1 ht hi hz0 hz1 hz2 rfl ?_ hs h ad c hx [Value.bool y] rfl ?_ ?_ ?_ hn (by decide) ?_
  · intro u hu
    simp [Value.cells] at hu
    exact ⟨_, hu⟩
  · intro j u hj
    match j, hj with
    | 0, hj => simp at hj; subst hj; simpa [Addr.add] using hy
    | j + 1, hj => simp at hj
  · intro u hu; simp at hu; subst hu; rfl
  · intro u hu; simp at hu; exact ⟨_, hu⟩
  · intro v' w' h1 h2 h3
    exact hK v' w' (by unfold BoolRow; simpa using h1) h2 h3
/-- v is a slice that holds the bools xs. -/
def Bools (w : World) (v : Value) (xs : List Bool) : Prop :=
  (∃ a cap, v = .slice a 0 cap ∧ xs = []) ∨
    ∃ b off cap, v = .slice (some ⟨b, off, none⟩) xs.length cap ∧ 0 < xs.length ∧ (xs.length ≤ cap ∧ cap ≤ 9223372036854775807) ∧ ∀ i, i < xs.length → w.cell? ⟨b, off + i, none⟩ = some (.bool (xs.getD i false))
theorem Bools.gr {w w' : World} {v : Value} {xs : List Bool} (h : Bools w v xs) (g : Gr w w') : Bools w' v xs := by
  rcases h with h | ⟨b, off, cap, h1, h2, h3, h4⟩
  · exact .inl h
  · exact .inr ⟨b, off, cap, h1, h2, h3, fun i hi => g.cell (h4 i hi)⟩
theorem BoolRow.bools {w : World} {v : Value} {xs : List Bool} (h : BoolRow w v xs) : Bools w v xs := by
  rcases Nat.eq_zero_or_pos xs.length with h0 | h0
  · obtain ⟨a, cap, rfl⟩ := h.shape
    exact .inl ⟨a, cap, by rw [h0], List.length_eq_zero_iff.1 h0⟩
  · obtain ⟨g, off, cap, rfl, h1, h2, h3⟩ := Row.cells h h0
    exact .inr ⟨g, off, cap, rfl, h0, ⟨h1, by unfold maxLen at h2; omega⟩, fun i hi => h3 i _ (by simp [hi, List.getD_eq_getElem?_getD])⟩
theorem bools_any {w : World} {v : Value} {xs : List Bool} (h : Bools w v xs) : ∃ a cap, v = .slice a xs.length cap ∧ xs.length ≤ 9223372036854775807 ∧ Hid (0 < xs.length → ∃ b off, a = some ⟨b, off, none⟩ ∧ ∀ i, i < xs.length → w.cell? ⟨b, off + i, none⟩ = some (.bool (xs.getD i false))) := by
  rcases h with ⟨a, cap, rfl, rfl⟩ | ⟨b, off, cap, rfl, h0, h1, h2⟩
  · exact ⟨a, cap, rfl, by simp, fun h => absurd h (by simp)⟩
  · exact ⟨_, _, rfl, by omega, fun _ => ⟨b, off, rfl, h2⟩⟩

set_option maxHeartbeats 1000000 in
theorem sameBools_slice (a a' : Option Addr) (cap cap' : Nat) (xs : List Bool) (n : Nat) (w : World) (hm : n ≤ 9223372036854775807)
    (hx : Hid (0 < n → ∃ b off, a = some ⟨b, off, none⟩ ∧ ∀ i, i < n → w.cell? ⟨b, off + i, none⟩ = some (.bool (xs.getD i false)))) (hy : Hid (0 < n → ∃ b off, a' = some ⟨b, off, none⟩ ∧ ∀ i, i < n → w.cell? ⟨b, off + i, none⟩ = some (.bool (xs.getD i false)))) :
    Calls Tryd.prog 14 #[.slice a n cap, .slice a' n cap'] w fun e w' => e = .returned (.bool true) ∧ Gr w w' := by
  go_enter Tryd.func14, Tryd.ntmps14
  go_wp2
  go_loopw [5] (fun i wr => ∃ k : Nat, k ≤ n ∧ i = .int .i64 k ∧ Hid (Gr w wr)) (fun i _ => n - (intOf i).toNat)
  case atStart => exact ⟨0, Nat.zero_le _, rfl, Gr.refl _⟩
  case round =>
    obtain ⟨k, hk, rfl, HG⟩ := hrel
    by_cases hlt : k < n
    · obtain ⟨b, off, rfl, hc1⟩ := hx.out (by omega)
      obtain ⟨b', off', rfl, hc2⟩ := hy.out (by omega)
      have c1 := HG.out.cell (hc1 k hlt)
      have c2 := HG.out.cell (hc2 k hlt)
      clear hc1 hc2
      generalize xs.getD k false = x at c1 c2
      go_wp2
      go_quiet (fail)
      go_wp2
      go_roundw
      case rel => exact ⟨k + 1, by omega, by go_num, HG.out.drewN _⟩
      case measure => simp [intOf]; omega
    · go_wp2
      go_ret
      exact ⟨rfl, HG.out⟩
/-- sameBools at two slices that hold the same. -/
theorem sameBools_any {v u : Value} {xs : List Bool} (w : World) (hx : Bools w v xs) (hy : Bools w u xs) :
    Calls Tryd.prog 14 #[v, u] w fun e w' => e = .returned (.bool true) ∧ Gr w w' := by
  obtain ⟨a, cap, rfl, hm, h1⟩ := bools_any hx
  obtain ⟨a', cap', rfl, _, h2⟩ := bools_any hy
  exact sameBools_slice a a' cap cap' xs _ w hm h1 h2
end Go.Proofs.YtogmjjaoflaogaaDoor

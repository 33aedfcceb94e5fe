/-
  sced.due: by when each cell of a flow is promised.
-/
import Derived.Test.YtfdmmfjheiiiiaaDoorSmC
import Derived.Test.YtfdmmfjheiiiiaaDoorFlowB
import Derived.Test.YtfdmmfjheiiiiaaDoorCurveL
import Derived.Laws.CopyOwn
namespace Go.Proofs.YtfdmmfjheiiiiaaDoor
open Go.RowKit Go.Extern.Stop Go.Stop Go.Extern

/-- What comes, as far as m ticks. -/
def padL (cs : List Int) (m : Nat) : List Int := fnList (fun i => cs.getD i 0) m
theorem padL_len (cs : List Int) (m : Nat) : (padL cs m).length = m := fnList_len _ _
theorem padL_getD (cs : List Int) {m i : Nat} (h : i < m) : (padL cs m).getD i 0 = cs.getD i 0 := fnList_getD (fun i => cs.getD i 0) h
/-- By when the k-th cell is promised. -/
def dueF (cs ps : List Int) (T k : Nat) : Int := firstUp (serveAt (padL cs (T + 1)) ps) ((k : Int) + 1) (T + 1)
/-- How many cells come ahead of tick t. -/
def cumN (cs : List Int) (t : Nat) : Nat := (sumTo cs t).toNat
theorem upTo_getD (f : Nat → Int) {n i : Nat} (h : i < n) : (upTo f n).getD i 0 = f i := by simp [upTo, h]

set_option maxRecDepth 100000 in
/-- copy of numbers to the head of an own block. -/
theorem wpList_copy_ints {w : World} {ops : Array Oper} {rest : List Oper} {o : Oper} {a : Act} {Q : Exit → Act → World → Prop} (hgd : o.guard = none) (d s : Operand)
    (ho : o.op = .call { callee := .builtin .copy, args := #[d, s], argTypes := #[28, 28] }) (g m : Nat) (f0 : Nat → Int) (hb : Blk .i64 3 w g m f0) (sp : Option Addr) (n cap : Nat) (xs : List Int) (hx : Ints w (.slice sp n cap) xs) (hxn : xs.length = n)
    (hd : a.eval d = .slice (some ⟨g, 0, none⟩) m m) (hs : a.eval s = .slice sp n cap) (hn : n ≤ m)
    (hK : ∀ w', Blk .i64 3 w' g m (fun i => if i < n then xs.getD i 0 else f0 i) → (∀ u, Gr u w → u.heap.size ≤ g → Gr u w') → wpList Tryd.prog ops Q rest (a.put o.dst (goInt n)) w') : wpList Tryd.prog ops Q (o :: rest) a w := by
  have hu := Tryd.underlying28
  have hsz : (Tryd.prog.info? 3).map (·.size) = some 1 := by kernel_rfl
  rcases Nat.eq_zero_or_pos n with h0 | h0
  · subst h0
    refine wpList_copy_nothing hgd d s _ _ ho 3 hu hsz _ sp m m 0 cap hd hs (by simp) (hK w (hb.congr fun i _ => by simp) (fun u hu _ => hu))
  · rcases hx with ⟨a', cap', e, e2⟩ | ⟨b, off, cap', e, _, _, h4⟩
    · subst e2; simp at hxn; omega
    · injection e with e1 e2 e3
      subst e1
      obtain ⟨cur, k1, k2, k3⟩ := hb
      have hl : ((List.range n).map fun i => Value.int .i64 (xs.getD i 0)).length = n := by simp
      refine wpList_copy_own hgd d s _ _ ho 3 hu hsz g 0 m m ⟨b, off, none⟩ n cap hd hs cur 3 k1 ((List.range n).map fun i => Value.int .i64 (xs.getD i 0)) (by rw [hl]; simp [Nat.min_def]; omega) (fun j v hj => ?_) (by rw [hl]; omega) (fun v hv => ?_) ?_
      · rcases Nat.lt_or_ge j n with h5 | h5
        · simp only [List.getElem?_map, List.getElem?_range h5, Option.map_some] at hj
          rw [← Option.some.inj hj, Addr.add_lit]
          exact h4 j (by rw [hxn]; exact h5)
        · rw [List.getElem?_eq_none (by rw [hl]; exact h5)] at hj
          cases hj
      · simp at hv
        obtain ⟨i, _, rfl⟩ := hv
        rfl
      · rw [hl]
        refine hK _ ⟨_, setRow_heap w g _ _ _ _ k1, ?_, fun i hi => ?_⟩ fun u hu hug => below_setRow hu hug _
        · simp; omega
        · simp only [List.take_zero, List.nil_append, List.getElem?_toArray, Nat.zero_add]
          by_cases h5 : i < n
          · rw [List.getElem?_append_left (by rw [hl]; exact h5), List.getElem?_map, List.getElem?_range h5, if_pos h5]; rfl
          · rw [List.getElem?_append_right (by rw [hl]; omega), hl, List.getElem?_drop, Array.getElem?_toList, if_neg h5]
            rw [show n + (i - n) = i by omega, k3 i hi]
end Go.Proofs.YtfdmmfjheiiiiaaDoor

/-
  Rows of packets that the call made.
-/
import Derived.Test.YtofhmbbodoedjaaDoorItemB
import Derived.Test.YtofhmbbodoedjaaDoorRowN
namespace Go.Proofs.YtofhmbbodoedjaaDoor
open Go Go.RowKit

theorem itInfo : (Tryd.prog.info? 42).map (fun i => (i.zero, i.size, i.bytes)) = some (some (.agg #[.int .i64 0, .int .i64 0, .int .i64 0, .int .i64 0, .int .i64 0]), 5, 40) := by kernel_rfl
def icells (x : Itm) : List Value := [.int .i64 x.t, .int .i64 x.len, .int .i64 x.flow, .int .i64 x.band, .int .i64 x.mark]
def iflat (L : List Itm) : List Value := L.flatMap icells
theorem iflat_app (L M : List Itm) : iflat (L ++ M) = iflat L ++ iflat M := by simp [iflat]
theorem iflat_one (x : Itm) : iflat [x] = icells x := by simp [iflat]
theorem iflat_get : ∀ (L : List Itm) (i j : Nat), i < L.length → j < 5 → (iflat L)[i * 5 + j]? = (icells (L.getD i .zero))[j]?
  | [], i, j, h, _ => by simp at h
  | p :: l, 0, j, _, h => by
    show (icells p ++ iflat l)[0 * 5 + j]? = _
    rw [Nat.zero_mul, Nat.zero_add, List.getElem?_append_left (by simpa [icells] using h)]
    rfl
  | p :: l, i + 1, j, h, hj => by
    show (icells p ++ iflat l)[(i + 1) * 5 + j]? = _
    rw [List.getElem?_append_right (by simp [icells]; omega), show (i + 1) * 5 + j - (icells p).length = i * 5 + j from by simp [icells]; omega, iflat_get l i j (by simpa using h) hj]
    rfl
theorem icells_one (x : Itm) : ∀ u ∈ icells x, u.oneCell' = true ∧ isInt u := by
  intro u hu
  simp [icells] at hu
  rcases hu with rfl | rfl | rfl | rfl | rfl <;> exact ⟨rfl, ⟨_, rfl⟩⟩
theorem izero_int : ∀ u ∈ (Value.agg #[.int .i64 0, .int .i64 0, .int .i64 0, .int .i64 0, .int .i64 0]).cells.toList, isInt u := by
  intro u hu
  simp [Value.cells] at hu
  subst hu
  exact ⟨_, rfl⟩
/-- v is a slice of packets of the call's own. -/
def IRow (w : World) (v : Value) (L : List Itm) : Prop := Row 42 5 isInt w v L.length (iflat L)
theorem IRow.nil (w : World) : IRow w (.slice none 0 0) [] := Row.nil _ _ _ _
theorem IRow.gr {w w' : World} {v : Value} {L : List Itm} (h : IRow w v L) (g : Gr w w') : IRow w' v L := Row.gr h g
theorem IRow.items {w : World} {v : Value} {L : List Itm} (h : IRow w v L) : Items w v L := by
  rcases Nat.eq_zero_or_pos L.length with e | e
  · obtain ⟨a, cap, rfl⟩ := Row.shape h
    refine .inl ⟨a, cap, by rw [e], List.length_eq_zero_iff.1 e⟩
  · obtain ⟨g, off, cap, rfl, h1, h2, h3⟩ := Row.cells h e
    refine .inr ⟨g, off, cap, rfl, e, ⟨h1, by unfold maxLen at h2; omega⟩, fun i hi => ?_⟩
    have key : ∀ j, j < 5 → ∀ u, (icells (L.getD i .zero))[j]? = some u → w.cell? ⟨g, off + i * 5 + j, none⟩ = some u := fun j hj u hu => by
      rw [Nat.add_assoc]
      exact h3 (i * 5 + j) u (by rw [iflat_get L i j hi hj]; exact hu)
    exact ⟨key 0 (by omega) _ rfl, key 1 (by omega) _ rfl, key 2 (by omega) _ rfl, key 3 (by omega) _ rfl, key 4 (by omega) _ rfl⟩
theorem inew {w : World} {g o : Nat} {x : Itm} (h : ItemAt w g o x) : ∀ (j : Nat) (u : Value), (icells x)[j]? = some u → w.cell? (Addr.add ⟨g, o, none⟩ j) = some u
  | 0, u, e => by rw [← e]; exact h.1
  | 1, u, e => by rw [← e]; exact h.2
  | 2, u, e => by rw [← e]; exact h.3
  | 3, u, e => by rw [← e]; exact h.4
  | 4, u, e => by rw [← e]; exact h.5
  | j + 5, u, e => by simp [icells] at e
/-- One more. -/
theorem IRow.app {w : World} {v : Value} {L : List Itm} {g c : Nat} {x : Itm} (h : IRow w v L) (h0 : ItemAt w g 0 x) (hn : L.length ≤ 999999) :
    ∃ v' w', (Builtin.append_ #[22, 22] 22 #[v, .slice (some ⟨g, 0, none⟩) 1 c]).run Tryd.prog w = .ok v' w' ∧ IRow w' v' (L ++ [x]) ∧ w.grownBy w' v.ownBlock ∧ (∀ g, v'.ownBlock = some g → v.ownBlock = some g ∨ w.heap.size ≤ g) ∧ IRow w' v L := by
  obtain ⟨i0, hi, hz0, hz1, hz2⟩ := info_parts itInfo
  obtain ⟨v', w', k1, k2, k3, k4, k5⟩ := Row.appendN (P := Tryd.prog) 22 22 i0 (.agg #[.int .i64 0, .int .i64 0, .int .i64 0, .int .i64 0, .int .i64 0]) 40 Tryd.underlying22 hi hz0 hz1 hz2 rfl izero_int h ⟨g, 0, none⟩ c 1 (by omega) (icells x) rfl (inew h0) (fun u hu => (icells_one x u hu).1) (fun u hu => (icells_one x u hu).2) (by omega) (by decide)
  exact ⟨v', w', k1, by unfold IRow; rw [List.length_append, iflat_app, iflat_one]; exact k2, k3, k4, k5⟩
/-- The same, with no room behind it. -/
theorem IRow.shut {w : World} {a : Option Addr} {n c : Nat} {L : List Itm} (h : IRow w (.slice a n c) L) : n = L.length ∧ IRow w (.slice a n n) L := by
  obtain ⟨hl, h1⟩ := h
  rcases h1 with ⟨e, hn⟩ | ⟨g, off, cap, cur, e, hh, k1, k2, k3, k4, k5⟩
  · injection e with e1 e2 e3
    subst e1 e2
    exact ⟨hn.symm, hl, .inl ⟨rfl, hn⟩⟩
  · injection e with e1 e2 e3
    subst e1 e2 e3
    exact ⟨rfl, hl, .inr ⟨g, off, L.length, cur, rfl, hh, Nat.le_refl _, Nat.le_trans k1 k2, Nat.le_trans (Nat.add_le_add_left (Nat.mul_le_mul_right 5 k1) off) k3, k4, k5⟩⟩
end Go.Proofs.YtofhmbbodoedjaaDoor

/-
  append of any row of packets.
-/
import Derived.Test.YtgifghbnpdanhaaGreatDoorLst
namespace Go.Proofs.YtgifghbnpdanhaaGreatDoor
open Go.RowKit Go.Extern.Stop Go.Stop Go.Extern

theorem run_append_empty {P : Program} {w : World} (t ty e : TypeId) (i : TypeInfo) (ht : P.underlying t = some (.slice e)) (hi : P.info? e = some i) (base a : Option Addr) (n cap c : Nat) (hn : n ≤ cap) :
    (Builtin.append_ #[t, t] ty #[.slice base n cap, .slice a 0 c]).run P w = .ok (.slice base n cap) w := by
  cases a <;> cases base <;> simp [Builtin.append_, run_underlying ht, sizeOf, typeInfo, hi, Builtin.lenOf, Builtin.firstCells, hn, storeCells, loadCells, go_sem]
/-- append of any row. -/
theorem wpList_append_any {P : Program} {E : TypeId} {w : World} {v u : Value} {xs ys : List Hel} {ops : Array Oper} {rest : List Oper} {o : Oper} {a : Act} {Q : Exit → Act → World → Prop} (hgd : o.guard = none) (s x : Operand) (t : TypeId)
    (ho : o.op = .call { callee := .builtin .append, args := #[s, x], argTypes := #[t, t] }) (i : TypeInfo) (z : Value) (ht : P.underlying t = some (.slice E)) (hi : P.info? E = some i) (hz : i.zero = some z) (hsize : i.size = 6) (hby : i.bytes = 48) (hzs : z.cells.size = 6) (hKz : ∀ u ∈ z.cells.toList, isInt u)
    (hs : a.eval s = v) (h : RowH E w v xs) (hx : a.eval x = u) (hu : RowH E w u ys) (hn : xs.length + ys.length ≤ 1000000)
    (hK : ∀ v' w', RowH E w' v' (xs ++ ys) → w.grownBy w' v.ownBlock → (∀ g, v'.ownBlock = some g → v.ownBlock = some g ∨ w.heap.size ≤ g) → wpList P ops Q rest (a.put o.dst v') w') : wpList P ops Q (o :: rest) a w := by
  cases ys with
  | nil =>
    obtain ⟨ua, uc, rfl⟩ := hu.shape
    obtain ⟨va, vc, hv, hvc, _⟩ := h.any
    subst hv
    have hr := run_append_empty (P := P) (w := w) t o.type E i ht hi va ua xs.length vc uc hvc
    refine wpList_plain hgd fun _ hK' => ?_
    unfold Oper.wp
    simp [execOp, ho, resolve, invoke, builtin, hs, hx, hr, Result.andThen]
    exact hK' _ _ (hK _ _ (by rw [List.append_nil]; exact h) ⟨rfl, rfl, rfl, Nat.le_refl _, fun _ _ _ => rfl⟩ (fun g hg => .inl hg))
  | cons y ys =>
    rcases hu.2 with ⟨h1, h2⟩ | ⟨g, off, cap, cur, h1, h2⟩
    · simp at h2
    · have hall := RowH.all (by rw [h1] at hu; exact hu)
      rw [h1] at hx
      exact wpList_append_rowH hgd s x t ho i z ht hi hz hsize hby hzs hKz hs h ⟨g, off, none⟩ cap (y :: ys) hx (by simp) hall hn (fun v' w' k1 k2 k3 _ => hK v' w' k1 k2 k3)
/-- append of any row, at its run; the old row stands. -/
theorem RowH.appAny {P : Program} {E : TypeId} {w : World} {v u : Value} {xs ys : List Hel} (t ty : TypeId) (i : TypeInfo) (z : Value) (ht : P.underlying t = some (.slice E)) (hi : P.info? E = some i) (hz : i.zero = some z) (hsize : i.size = 6) (hby : i.bytes = 48) (hzs : z.cells.size = 6) (hKz : ∀ u ∈ z.cells.toList, isInt u)
    (h : RowH E w v xs) (hu : RowH E w u ys) (hn : xs.length + ys.length ≤ 1000000) :
    ∃ v' w', (Builtin.append_ #[t, t] ty #[v, u]).run P w = .ok v' w' ∧ RowH E w' v' (xs ++ ys) ∧ w.grownBy w' v.ownBlock ∧ (∀ g, v'.ownBlock = some g → v.ownBlock = some g ∨ w.heap.size ≤ g) ∧ RowH E w' v xs := by
  cases ys with
  | nil =>
    obtain ⟨ua, uc, rfl⟩ := hu.shape
    obtain ⟨va, vc, hv, hvc, _⟩ := h.any
    subst hv
    exact ⟨_, _, run_append_empty t ty E i ht hi va ua xs.length vc uc hvc, by rw [List.append_nil]; exact h, ⟨rfl, rfl, rfl, Nat.le_refl _, fun _ _ _ => rfl⟩, fun g hg => .inl hg, h⟩
  | cons y ys =>
    rcases hu.2 with ⟨h1, h2⟩ | ⟨g, off, cap, cur, h1, h2⟩
    · simp at h2
    · have hall := RowH.all (by rw [h1] at hu; exact hu)
      rw [h1]
      exact RowH.app t ty i z ht hi hz hsize hby hzs hKz h ⟨g, off, none⟩ cap (ys := y :: ys) (by simp) hall hn
end Go.Proofs.YtgifghbnpdanhaaGreatDoor

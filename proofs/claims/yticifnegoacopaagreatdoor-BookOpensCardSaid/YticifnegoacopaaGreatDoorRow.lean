/-
  Rows: slices of the call's own, at any place of their block, all of whose block's cells are of one kind. No program is named here. Rows of ints; millracelaw.sameInts. (Printed by genrow.py.)
-/
import Derived.Test.YticifnegoacopaaGreatDoorBase
import Derived.ArgAppend
import Derived.OwnWalk
import Derived.Test.YticifnegoacopaaGreatDoorPlain
import Derived.Test.YticifnegoacopaaGreatDoorProg
namespace Go.Proofs.YticifnegoacopaaGreatDoor
open Go.RowKit

/-- v is a slice of n elements (size cells each, of type E): the cells xs; its block holds nothing but cells that K has. -/
def Row (E : TypeId) (size : Nat) (K : Value → Prop) (w : World) (v : Value) (n : Nat) (xs : List Value) : Prop :=
  xs.length = n * size ∧ ((v = .slice none 0 0 ∧ n = 0) ∨
    ∃ g off cap cur, v = .slice (some ⟨g, off, none⟩) n cap ∧ w.heap[g]? = some (.cells cur E (0, 0)) ∧ n ≤ cap ∧ cap ≤ maxLen ∧ off + cap * size ≤ cur.size ∧ (∀ (i : Nat) (u : Value), cur[i]? = some u → K u) ∧ ∀ j, j < n * size → cur[off + j]? = xs[j]?)
section
variable {E : TypeId} {size : Nat} {K : Value → Prop} {w w' : World} {v : Value} {n : Nat} {xs : List Value}
theorem Row.nil (E : TypeId) (size : Nat) (K : Value → Prop) (w : World) : Row E size K w (.slice none 0 0) 0 [] := ⟨by simp, .inl ⟨rfl, rfl⟩⟩
theorem Row.shape (h : Row E size K w v n xs) : ∃ a cap, v = .slice a n cap := by
  rcases h.2 with ⟨rfl, rfl⟩ | ⟨g, off, cap, cur, rfl, _⟩
  · exact ⟨_, _, rfl⟩
  · exact ⟨_, _, rfl⟩
theorem Row.lt (h : Row E size K w v n xs) {g : Nat} (hg : v.ownBlock = some g) : g < w.heap.size := by
  rcases h.2 with ⟨rfl, _⟩ | ⟨g', off, cap, cur, rfl, hh, _⟩
  · simp [Value.ownBlock] at hg
  · simp [Value.ownBlock] at hg
    subst hg
    exact (Array.getElem?_eq_some_iff.1 hh).1
theorem Row.same (h : Row E size K w v n xs) (hk : ∀ g, v.ownBlock = some g → w'.heap[g]? = w.heap[g]?) : Row E size K w' v n xs := by
  refine ⟨h.1, ?_⟩
  rcases h.2 with h0 | ⟨g, off, cap, cur, rfl, hh, rest⟩
  · exact .inl h0
  · exact .inr ⟨g, off, cap, cur, rfl, (hk g rfl).trans hh, rest⟩
theorem Row.gr (h : Row E size K w v n xs) (k : Gr w w') : Row E size K w' v n xs := h.same fun _ hg => k.block (h.lt hg)
theorem Row.grown {row : Option Nat} (h : Row E size K w v n xs) (k : w.grownBy w' row) (hne : ∀ g, v.ownBlock = some g → row ≠ some g) : Row E size K w' v n xs :=
  h.same fun g hg => k.block g (h.lt hg) (fun e => hne g hg e.symm)
theorem Row.setCell (h : Row E size K w v n xs) {p : Addr} (u : Value) (hne : v.ownBlock ≠ some p.block) : Row E size K (w.setCell p u) v n xs :=
  h.same fun g hg => Below.heap_setCell _ _ _ _ (fun e => hne (by rw [hg, e]))
/-- the cells, where there are some -/
theorem Row.cells (h : Row E size K w v n xs) (h0 : 0 < n) : ∃ g off cap, v = .slice (some ⟨g, off, none⟩) n cap ∧ n ≤ cap ∧ cap ≤ maxLen ∧ ∀ j u, xs[j]? = some u → w.cell? ⟨g, off + j, none⟩ = some u := by
  obtain ⟨hl, h⟩ := h
  rcases h with ⟨_, rfl⟩ | ⟨g, off, cap, cur, rfl, hh, h1, h2, h3, h4, h5⟩
  · omega
  · refine ⟨g, off, cap, rfl, h1, h2, fun j u hu => ?_⟩
    have hj : j < n * size := by
      rw [← hl]
      exact (List.getElem?_eq_some_iff.1 hu).1
    rw [cell_of_row w g (off + j) cur E (0, 0) hh, h5 j hj]
    exact hu
/-- a cell of another kind lies elsewhere -/
theorem Row.ne (h : Row E size K w v n xs) {q i : Nat} {u : Value} (hc : w.cell? ⟨q, i, none⟩ = some u) (hu : ¬ K u) : v.ownBlock ≠ some q := by
  rcases h.2 with ⟨rfl, _⟩ | ⟨g, off, cap, cur, rfl, hh, h1, h2, h3, h4, h5⟩
  · simp [Value.ownBlock]
  · intro e
    simp [Value.ownBlock] at e
    subst e
    rw [cell_of_row w g i cur E (0, 0) hh] at hc
    exact hu (h4 _ _ hc)
theorem gr_grown {w w' u : World} {row : Option Nat} (h : w.grownBy w' row) (g : Gr u w) (hr : ∀ k, row = some k → u.heap.size ≤ k) : Gr u w' := g.grown h hr
theorem setCells_heap (g : Nat) (T : TypeId) : ∀ (vs : List Value) (o : Nat) (w : World) (cur : Array Value), w.heap[g]? = some (.cells cur T (0, 0)) → o + vs.length ≤ cur.size →
    (∃ cur', (w.setCells g o vs).heap[g]? = some (.cells cur' T (0, 0)) ∧ cur'.size = cur.size ∧ ∀ i, cur'[i]? = if o ≤ i ∧ i < o + vs.length then vs[i - o]? else cur[i]?) ∧ w.grownBy (w.setCells g o vs) (some g)
  | [], o, w, cur, h, _ => ⟨⟨cur, h, rfl, fun i => by simp; omega⟩, ⟨rfl, rfl, rfl, Nat.le_refl _, fun _ _ _ => rfl⟩⟩
  | x :: r, o, w, cur, h, hs => by
    simp only [List.length_cons] at hs
    have h1 : (w.setCell ⟨g, o, none⟩ x).heap[g]? = some (.cells (cur.setIfInBounds o x) T (0, 0)) := by simp [World.setCell, Array.getElem?_modify, h]
    obtain ⟨⟨cur', a1, a2, a3⟩, b⟩ := setCells_heap g T r (o + 1) (w.setCell ⟨g, o, none⟩ x) (cur.setIfInBounds o x) h1 (by simp; omega)
    refine ⟨⟨cur', a1, by rw [a2]; simp, fun i => ?_⟩, ?_⟩
    · rw [a3 i]
      simp only [List.length_cons]
      by_cases e : i = o
      · subst e
        rw [if_neg (by omega), if_pos (by omega)]
        simp [show i < cur.size by omega]
      · by_cases e2 : o + 1 ≤ i ∧ i < o + 1 + r.length
        · rw [if_pos e2, if_pos (by omega)]
          obtain ⟨j, rfl⟩ : ∃ j, i = o + 1 + j := ⟨i - (o + 1), by omega⟩
          rw [show o + 1 + j - (o + 1) = j by omega, show o + 1 + j - o = j + 1 by omega]
          rfl
        · rw [if_neg e2, if_neg (by omega)]
          simp [Ne.symm e]
    · exact ⟨b.os, b.tape, b.output, by simpa [World.setCells] using b.size, fun k hk hne => (b.block k (by simpa using hk) hne).trans (Below.heap_setCell _ _ _ _ (fun e => hne (by rw [e])))⟩

/-- append of one element. -/
theorem Row.append {P : Program} (t ty : TypeId) (i : TypeInfo) (z : Value) (bytes : Nat) (ht : P.underlying t = some (.slice E)) (hi : P.info? E = some i) (hz : i.zero = some z) (hsize : i.size = size) (hby : i.bytes = bytes) (hzs : z.cells.size = size) (hKz : ∀ u ∈ z.cells.toList, K u)
    (h : Row E size K w v n xs) (ad : Addr) (c : Nat) (news : List Value) (hl : news.length = size) (hnews : ∀ j u, news[j]? = some u → w.cell? (ad.add j) = some u) (h1 : ∀ u ∈ news, u.oneCell' = true) (hKn : ∀ u ∈ news, K u) (hn : n ≤ 1000000) (hb : bytes ≤ 1000) :
    ∃ v' w', (Builtin.append_ #[t, t] ty #[v, .slice (some ad) 1 c]).run P w = .ok v' w' ∧ Row E size K w' v' (n + 1) (xs ++ news) ∧ w.grownBy w' v.ownBlock ∧ ∀ g, v'.ownBlock = some g → v.ownBlock = some g ∨ w.heap.size ≤ g := by
  subst hsize
  subst hby
  have hnb : (n + 1) * i.bytes ≤ 1000001 * 1000 := Nat.mul_le_mul (by omega) hb
  obtain ⟨hxl, h⟩ := h
  have hlen : (xs ++ news).length = (n + 1) * i.size := by rw [List.length_append, hxl, hl, Nat.add_mul, Nat.one_mul]
  have hmk : ∀ m : Nat, n + 1 ≤ m → ∀ (j : Nat) (u : Value), ((xs.toArray ++ news.toArray ++ Builtin.zeroCells z.cells (m - (n + 1)))[j]? = some u → (∀ u ∈ xs, K u) → K u) := by
    intro m _ j u hu hx
    have hm := Array.mem_of_getElem? hu
    rcases Array.mem_append.1 hm with hm | hm
    · rcases Array.mem_append.1 hm with hm | hm
      · exact hx u (by simpa using hm)
      · exact hKn u (by simpa using hm)
    · simp [Builtin.zeroCells] at hm
      obtain ⟨l, hl2, rfl⟩ := hm
      have hpos : 0 < z.cells.size := by
        rcases Nat.eq_zero_or_pos z.cells.size with e | e
        · rw [e] at hl2; simp at hl2
        · exact e
      have hlt := Nat.mod_lt l hpos
      rw [getElem!_pos z.cells (l % z.cells.size) hlt]
      exact hKz _ (by simp)
  rcases h with ⟨rfl, rfl⟩ | ⟨g, off, cap, cur, rfl, hh, g1, g2, g3, g4, g5⟩
  · have hx0 : xs = [] := List.eq_nil_of_length_eq_zero (by simpa using hxl)
    subst hx0
    refine ⟨_, _, run_append_nil w t ty E i z ht hi hz ad 1 c news (by simpa using hl) hnews (by omega) (by omega) (by omega), ⟨hlen, .inr ⟨w.heap.size, 0, _, _, rfl, heap_alloc_new w.drew _, grownCap_ge w 1 0 E, grownCap_le_maxLen w 1 0 E (by unfold maxLen; omega), ?_, ?_, ?_⟩⟩, ⟨rfl, rfl, rfl, by simp, fun k hk _ => Below.heap_alloc _ _ _ (by simpa using hk)⟩, fun g hg => ?_⟩
    · have := grownCap_ge w 1 0 E
      simp only [Array.size_append, List.size_toArray, size_zeroCells, hzs, hl, Nat.zero_add]
      have e : grownCap w 1 0 E = 1 + (grownCap w 1 0 E - 1) := by omega
      have e2 : grownCap w 1 0 E * i.size = (1 + (grownCap w 1 0 E - 1)) * i.size := by rw [← e]
      rw [e2, Nat.add_mul, Nat.one_mul]
      exact Nat.le_refl _
    · intro j u hu
      have := hmk (grownCap w 1 0 E) (grownCap_ge w 1 0 E) j u
      exact this (by simpa using hu) (by simp)
    · intro j hj
      simp only [Nat.zero_add, Nat.one_mul] at hj ⊢
      rw [Array.getElem?_append_left (by simp [hl]; exact hj)]
      simp
    · simp [Value.ownBlock] at hg
      exact .inr (by omega)
  · have hx : ∀ u ∈ xs, K u := by
      intro u hu
      obtain ⟨j, hj, rfl⟩ := List.mem_iff_getElem.1 hu
      have := g5 j (by rw [← hxl]; exact hj)
      rw [List.getElem?_eq_getElem hj] at this
      exact g4 _ _ this
    by_cases hr : n + 1 ≤ cap
    · have hfit : off + n * i.size + news.length ≤ cur.size := by
        have : (n + 1) * i.size ≤ cap * i.size := Nat.mul_le_mul_right _ hr
        rw [Nat.add_mul, Nat.one_mul] at this
        omega
      obtain ⟨⟨cur', a1, a2, a3⟩, b⟩ := setCells_heap g E news (off + n * i.size) w cur hh hfit
      refine ⟨_, _, run_append_room_cells (P := P) w t ty E i ht hi g off n cap ad 1 c news (by simpa using hl) hnews h1 hr (fun j hj => ?_) (fun j hj => ?_), ⟨hlen, .inr ⟨g, off, cap, cur', rfl, a1, hr, g2, by omega, ?_, ?_⟩⟩, b, fun g' hg => .inl hg⟩
      · rw [cell_of_row w g _ cur E (0, 0) hh, Array.getElem?_eq_getElem (by omega)]
        rfl
      · simp [World.frozen?, hh]
      · intro k u hu
        rw [a3 k] at hu
        split at hu
        · exact hKn u (List.mem_of_getElem? hu)
        · exact g4 k u hu
      · intro j hj
        rw [Nat.add_mul, Nat.one_mul] at hj
        rw [a3]
        by_cases e : j < n * i.size
        · rw [if_neg (by omega), g5 j e, List.getElem?_append_left (by omega)]
        · rw [if_pos (by omega), List.getElem?_append_right (by omega), hxl]
          congr 1
          omega
    · refine ⟨_, _, run_append_grow (P := P) w t ty E i z ht hi hz ⟨g, off, none⟩ n cap xs hxl (fun j u hj => ?_) ad 1 c news (by simpa using hl) hnews (by omega) (by omega) (growslice_fits (by omega) (by omega)), ⟨hlen, .inr ⟨w.heap.size, 0, _, _, rfl, heap_alloc_new w.drew _, grownCap_ge w (n + 1) cap E, grownCap_le_maxLen w (n + 1) cap E (by unfold maxLen; omega), ?_, ?_, ?_⟩⟩, ⟨rfl, rfl, rfl, by simp, fun k hk _ => Below.heap_alloc _ _ _ (by simpa using hk)⟩, fun g' hg => ?_⟩
      · have hj' : j < n * i.size := by rw [← hxl]; exact (List.getElem?_eq_some_iff.1 hj).1
        rw [Addr.add_lit, cell_of_row w g _ cur E (0, 0) hh, g5 j hj']
        exact hj
      · have := grownCap_ge w (n + 1) cap E
        simp only [Array.size_append, List.size_toArray, size_zeroCells, hzs, hl, hxl, Nat.zero_add]
        have e : grownCap w (n + 1) cap E = n + 1 + (grownCap w (n + 1) cap E - (n + 1)) := by omega
        have e2 : grownCap w (n + 1) cap E * i.size = (n + 1 + (grownCap w (n + 1) cap E - (n + 1))) * i.size := by rw [← e]
        rw [e2, Nat.add_mul, Nat.add_mul, Nat.one_mul]
        exact Nat.le_refl _
      · intro j u hu
        exact hmk _ (grownCap_ge w (n + 1) cap E) j u hu hx
      · intro j hj
        rw [Nat.zero_add]
        rw [Array.getElem?_append_left (by simp only [Array.size_append, List.size_toArray]; rw [← List.length_append, hlen]; exact hj)]
        simp
      · simp [Value.ownBlock] at hg
        exact .inr (by omega)
/-- append of one element, at the walk. -/
theorem wp_append_row {P : Program} {o : Oper} {a : Act} {Kx : Act → World → Prop} {Q : Exit → Act → World → Prop} (s x : Operand) (t : TypeId)
    (ho : o.op = .call { callee := .builtin .append, args := #[s, x], argTypes := #[t, t] }) (i : TypeInfo) (z : Value) (bytes : Nat) (ht : P.underlying t = some (.slice E)) (hi : P.info? E = some i) (hz : i.zero = some z) (hsize : i.size = size) (hby : i.bytes = bytes) (hzs : z.cells.size = size) (hKz : ∀ u ∈ z.cells.toList, K u)
    (hs : a.eval s = v) (h : Row E size K w v n xs) (ad : Addr) (c : Nat) (hx : a.eval x = .slice (some ad) 1 c) (news : List Value) (hl : news.length = size) (hnews : ∀ j u, news[j]? = some u → w.cell? (ad.add j) = some u) (h1 : ∀ u ∈ news, u.oneCell' = true) (hKn : ∀ u ∈ news, K u) (hn : n ≤ 1000000) (hb : bytes ≤ 1000)
    (hK : ∀ v' w', Row E size K w' v' (n + 1) (xs ++ news) → w.grownBy w' v.ownBlock → (∀ g, v'.ownBlock = some g → v.ownBlock = some g ∨ w.heap.size ≤ g) → Kx (a.put o.dst v') w') : Oper.wp P o a w Kx Q := by
  obtain ⟨v', w', hr, h2, h3, h4⟩ := h.append (P := P) t o.type i z bytes ht hi hz hsize hby hzs hKz ad c news hl hnews h1 hKn hn hb
  unfold Oper.wp
  simp [execOp, ho, resolve, invoke, builtin, hs, hx, hr, Result.andThen]
  exact hK v' w' h2 h3 h4
theorem wpList_append_row {P : Program} {ops : Array Oper} {rest : List Oper} {o : Oper} {a : Act} {Q : Exit → Act → World → Prop} (hgd : o.guard = none) (s x : Operand) (t : TypeId)
    (ho : o.op = .call { callee := .builtin .append, args := #[s, x], argTypes := #[t, t] }) (i : TypeInfo) (z : Value) (bytes : Nat) (ht : P.underlying t = some (.slice E)) (hi : P.info? E = some i) (hz : i.zero = some z) (hsize : i.size = size) (hby : i.bytes = bytes) (hzs : z.cells.size = size) (hKz : ∀ u ∈ z.cells.toList, K u)
    (hs : a.eval s = v) (h : Row E size K w v n xs) (ad : Addr) (c : Nat) (hx : a.eval x = .slice (some ad) 1 c) (news : List Value) (hl : news.length = size) (hnews : ∀ j u, news[j]? = some u → w.cell? (ad.add j) = some u) (h1 : ∀ u ∈ news, u.oneCell' = true) (hKn : ∀ u ∈ news, K u) (hn : n ≤ 1000000) (hb : bytes ≤ 1000)
    (hK : ∀ v' w', Row E size K w' v' (n + 1) (xs ++ news) → w.grownBy w' v.ownBlock → (∀ g, v'.ownBlock = some g → v.ownBlock = some g ∨ w.heap.size ≤ g) → wpList P ops Q rest (a.put o.dst v') w') : wpList P ops Q (o :: rest) a w :=
  wpList_plain hgd fun _ hK' => wp_append_row s x t ho i z bytes ht hi hz hsize hby hzs hKz hs h ad c hx news hl hnews h1 hKn hn hb fun v' w' h2 h3 h4 => hK' _ _ (hK v' w' h2 h3 h4)
end

theorem info_intE : (Tryz.prog.info? 3).map (fun i => (i.zero, i.size, i.bytes)) = some (some (.int .i64 0), 1, 8) := by kernel_rfl
def isInt (v : Value) : Prop := ∃ x, v = Value.int .i64 x
/-- v is a slice of the call's own that holds xs. -/
def IntRow (w : World) (v : Value) (xs : List Int) : Prop := Row 3 1 isInt w v xs.length (xs.map fun x => Value.int .i64 x)
theorem IntRow.nil (w : World) : IntRow w (.slice none 0 0) [] := Row.nil _ _ _ w
theorem IntRow.shape {w : World} {v : Value} {xs : List Int} (h : IntRow w v xs) : ∃ a cap, v = .slice a xs.length cap := Row.shape h
theorem IntRow.gr {w w' : World} {v : Value} {xs : List Int} (h : IntRow w v xs) (k : Gr w w') : IntRow w' v xs := Row.gr h k
theorem wpList_append_intR {ops : Array Oper} {rest : List Oper} {o : Oper} {a : Act} {Q : Exit → Act → World → Prop} {w : World} (hgd : o.guard = none) (s x : Operand) (t : TypeId)
    (ho : o.op = .call { callee := .builtin .append, args := #[s, x], argTypes := #[t, t] }) (ht : Tryz.prog.underlying t = some (.slice 3)) (v : Value) (xs : List Int) (y : Int) (hs : a.eval s = v) (h : IntRow w v xs) (ad : Addr) (c : Nat) (hx : a.eval x = .slice (some ad) 1 c)
    (hy : w.cell? ad = some (Value.int .i64 y)) (hn : xs.length ≤ 1000000)
    (hK : ∀ v' w', IntRow w' v' (xs ++ [y]) → w.grownBy w' v.ownBlock → (∀ g, v'.ownBlock = some g → v.ownBlock = some g ∨ w.heap.size ≤ g) → wpList Tryz.prog ops Q rest (a.put o.dst v') w') : wpList Tryz.prog ops Q (o :: rest) a w := by
  obtain ⟨i0, hi, hz0, hz1, hz2⟩ := info_parts info_intE
  refine wpList_append_row hgd s x t ho i0 (.int .i64 0) 8 ht hi hz0 hz1 hz2 rfl ?_ hs h ad c hx [Value.int .i64 y] rfl ?_ ?_ ?_ hn (by decide) ?_
  · intro u hu
    simp [Value.cells] at hu
    exact ⟨_, hu⟩
  · intro j u hj
    match j, hj with
    | 0, hj => simp at hj; subst hj; simpa [Addr.add] using hy
    | j + 1, hj => simp at hj
  · intro u hu; simp at hu; subst hu; rfl
  · intro u hu; simp at hu; exact ⟨_, hu⟩
  · intro v' w' h1 h2 h3
    exact hK v' w' (by unfold IntRow; simpa using h1) h2 h3
theorem IntRow.ints {w : World} {v : Value} {xs : List Int} (h : IntRow w v xs) : Ints w v xs := by
  rcases Nat.eq_zero_or_pos xs.length with h0 | h0
  · obtain ⟨a, cap, rfl⟩ := h.shape
    exact .inl ⟨a, cap, by rw [h0], List.length_eq_zero_iff.1 h0⟩
  · obtain ⟨g, off, cap, rfl, h1, h2, h3⟩ := Row.cells h h0
    exact .inr ⟨g, off, cap, rfl, h0, ⟨h1, by unfold maxLen at h2; omega⟩, fun i hi => h3 i _ (by simp [hi, List.getD_eq_getElem?_getD])⟩
end Go.Proofs.YticifnegoacopaaGreatDoor

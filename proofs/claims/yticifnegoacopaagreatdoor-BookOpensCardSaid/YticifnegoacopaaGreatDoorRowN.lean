/-
  What is saved; rows: several at once appended; parts of rows. No program is named here.
-/
import Derived.Test.YticifnegoacopaaGreatDoorRow
namespace Go.Proofs.YticifnegoacopaaGreatDoor
open Go.RowKit

/-- All blocks but those of B are as they were. -/
structure Sav (B : Nat → Prop) (w w' : World) : Prop where
  os : w'.os = w.os
  tape : w'.tape = w.tape
  output : w'.output = w.output
  size : w.heap.size ≤ w'.heap.size
  block : ∀ k, k < w.heap.size → ¬ B k → w'.heap[k]? = w.heap[k]?
section
variable {B B' : Nat → Prop} {w w' u : World}
theorem Sav.refl (B : Nat → Prop) (w : World) : Sav B w w := ⟨rfl, rfl, rfl, Nat.le_refl _, fun _ _ _ => rfl⟩
theorem Sav.of_gr (h : Gr w w') : Sav B w w' := ⟨h.os, h.tape, h.output, h.size, fun _ hk _ => h.block hk⟩
theorem Sav.of_grown {row : Option Nat} (h : w.grownBy w' row) (hB : ∀ g, row = some g → B g) : Sav B w w' :=
  ⟨h.os, h.tape, h.output, h.size, fun k hk hb => h.block k hk (fun e => hb (hB k e.symm))⟩
theorem Sav.trans {a b c : World} (h : Sav B a b) (k : Sav B' b c) (hB : ∀ q, B' q → B q ∨ a.heap.size ≤ q) : Sav B a c :=
  ⟨k.os.trans h.os, k.tape.trans h.tape, k.output.trans h.output, Nat.le_trans h.size k.size, fun q hq hb => (k.block q (Nat.lt_of_lt_of_le hq h.size) (fun h2 => by
    rcases hB q h2 with h3 | h3
    · exact hb h3
    · omega)).trans (h.block q hq hb)⟩
theorem Sav.then {a b c : World} (h : Sav B a b) (k : Sav B b c) : Sav B a c := h.trans k fun _ hq => .inl hq
theorem Sav.gr (g : Gr u w) (k : Sav B w w') (hB : ∀ q, B q → u.heap.size ≤ q) : Gr u w' :=
  ⟨k.os.trans g.os, k.tape.trans g.tape, k.output.trans g.output, Nat.le_trans g.size k.size, fun q hq => (k.block q (Nat.lt_of_lt_of_le hq g.size) (fun h => by have := hB q h; omega)).trans (g.block hq)⟩
theorem Sav.cell (k : Sav B w w') {p : Addr} {v : Value} (hc : w.cell? p = some v) (hp : ¬ B p.block) : w'.cell? p = some v :=
  (World.cell?_of_block (a := p) (k.block _ (cell_lt hc) hp)).trans hc
theorem Sav.frozen (k : Sav B w w') {p : Addr} {b : Bool} (hl : p.block < w.heap.size) (hc : w.frozen? p = b) (hp : ¬ B p.block) : w'.frozen? p = b :=
  (World.frozen?_of_block (a := p) (k.block _ hl hp)).trans hc
theorem Sav.mono (k : Sav B w w') (hB : ∀ q, B q → B' q) : Sav B' w w' := ⟨k.os, k.tape, k.output, k.size, fun q hq hb => k.block q hq fun h => hb (hB q h)⟩
theorem Sav.setCell {p : Addr} (hp : B p.block) (v : Value) : Sav B w (w.setCell p v) :=
  ⟨rfl, rfl, rfl, by simp, fun q _ hb => Below.heap_setCell _ _ _ _ (fun e => hb (by rw [e]; exact hp))⟩
theorem Sav.set (p o : Nat) (v : Value) : Sav (fun q => q = p) w (w.setCell ⟨p, o, none⟩ v) := Sav.setCell (B := fun q => q = p) (p := ⟨p, o, none⟩) rfl v
end
section
variable {E : TypeId} {size : Nat} {K : Value → Prop} {w w' : World} {v : Value} {n : Nat} {xs : List Value} {B : Nat → Prop}
theorem Row.sav (h : Row E size K w v n xs) (k : Sav B w w') (hv : ∀ g, v.ownBlock = some g → ¬ B g) : Row E size K w' v n xs := Row.same h fun g hg => k.block g (Row.lt h hg) (hv g hg)
theorem Row.appendN {P : Program} (t ty : TypeId) (i : TypeInfo) (z : Value) (bytes : Nat) (ht : P.underlying t = some (.slice E)) (hi : P.info? E = some i) (hz : i.zero = some z) (hsize : i.size = size) (hby : i.bytes = bytes) (hzs : z.cells.size = size) (hKz : ∀ u ∈ z.cells.toList, K u)
    (h : Row E size K w v n xs) (ad : Addr) (c m : Nat) (hm : 0 < m) (news : List Value) (hl : news.length = m * size) (hnews : ∀ j u, news[j]? = some u → w.cell? (ad.add j) = some u) (h1 : ∀ u ∈ news, u.oneCell' = true) (hKn : ∀ u ∈ news, K u) (hn : n + m ≤ 1000000) (hb : bytes ≤ 1000) :
    ∃ v' w', (Builtin.append_ #[t, t] ty #[v, .slice (some ad) m c]).run P w = .ok v' w' ∧ Row E size K w' v' (n + m) (xs ++ news) ∧ w.grownBy w' v.ownBlock ∧ (∀ g, v'.ownBlock = some g → v.ownBlock = some g ∨ w.heap.size ≤ g) ∧ Row E size K w' v n xs := by
  have hold := h
  subst hsize
  subst hby
  have hnb : (n + m) * i.bytes ≤ 1000000 * 1000 := Nat.mul_le_mul (by omega) hb
  have hnb2 : m * i.bytes ≤ 1000000 * 1000 := Nat.mul_le_mul (by omega) hb
  obtain ⟨hxl, h⟩ := h
  have hlen : (xs ++ news).length = (n + m) * i.size := by rw [List.length_append, hxl, hl, Nat.add_mul]
  have hmk : ∀ k : Nat, n + m ≤ k → ∀ (j : Nat) (u : Value), ((xs.toArray ++ news.toArray ++ Builtin.zeroCells z.cells (k - (n + m)))[j]? = some u → (∀ u ∈ xs, K u) → K u) := by
    intro k _ j u hu hx
    have hm := Array.mem_of_getElem? hu
    rcases Array.mem_append.1 hm with hm | hm
    · rcases Array.mem_append.1 hm with hm | hm
      · exact hx u (by simpa using hm)
      · exact hKn u (by simpa using hm)
    · simp [Builtin.zeroCells] at hm
      obtain ⟨l, hl2, rfl⟩ := hm
      have hpos : 0 < z.cells.size := by
        rcases Nat.eq_zero_or_pos z.cells.size with e | e
        · rw [e] at hl2; simp at hl2
        · exact e
      have hlt := Nat.mod_lt l hpos
      rw [getElem!_pos z.cells (l % z.cells.size) hlt]
      exact hKz _ (by simp)
  rcases h with ⟨rfl, rfl⟩ | ⟨g, off, cap, cur, rfl, hh, g1, g2, g3, g4, g5⟩
  · have hx0 : xs = [] := List.eq_nil_of_length_eq_zero (by simpa using hxl)
    subst hx0
    refine ⟨_, _, run_append_nil w t ty E i z ht hi hz ad m c news hl hnews (by omega) (by omega) (by omega), ⟨hlen, .inr ⟨w.heap.size, 0, _, _, by rw [Nat.zero_add], heap_alloc_new w.drew _, by rw [Nat.zero_add]; exact grownCap_ge w m 0 E, grownCap_le_maxLen w m 0 E (by unfold maxLen; omega), ?_, ?_, ?_⟩⟩, ⟨rfl, rfl, rfl, by simp, fun k hk _ => Below.heap_alloc _ _ _ (by simpa using hk)⟩, fun g hg => ?_, Row.nil _ _ _ _⟩
    · have := grownCap_ge w m 0 E
      simp only [Array.size_append, List.size_toArray, size_zeroCells, hzs, hl, Nat.zero_add]
      have e : grownCap w m 0 E = m + (grownCap w m 0 E - m) := by omega
      have e2 : grownCap w m 0 E * i.size = (m + (grownCap w m 0 E - m)) * i.size := by rw [← e]
      rw [e2, Nat.add_mul]
      exact Nat.le_refl _
    · intro j u hu
      have := hmk (grownCap w m 0 E) (by rw [Nat.zero_add]; exact grownCap_ge w m 0 E) j u
      exact this (by simpa using hu) (by simp)
    · intro j hj
      simp only [Nat.zero_add] at hj ⊢
      rw [Array.getElem?_append_left (by simp [hl]; exact hj)]
      simp
    · simp [Value.ownBlock] at hg
      exact .inr (by omega)
  · have hx : ∀ u ∈ xs, K u := by
      intro u hu
      obtain ⟨j, hj, rfl⟩ := List.mem_iff_getElem.1 hu
      have := g5 j (by rw [← hxl]; exact hj)
      rw [List.getElem?_eq_getElem hj] at this
      exact g4 _ _ this
    by_cases hr : n + m ≤ cap
    · have hfit : off + n * i.size + news.length ≤ cur.size := by
        have : (n + m) * i.size ≤ cap * i.size := Nat.mul_le_mul_right _ hr
        rw [Nat.add_mul] at this
        omega
      obtain ⟨⟨cur', a1, a2, a3⟩, b⟩ := setCells_heap g E news (off + n * i.size) w cur hh hfit
      refine ⟨_, _, run_append_room_cells (P := P) w t ty E i ht hi g off n cap ad m c news hl hnews h1 hr (fun j hj => ?_) (fun j hj => ?_), ⟨hlen, .inr ⟨g, off, cap, cur', rfl, a1, hr, g2, by omega, ?_, ?_⟩⟩, b, fun g' hg => .inl hg, hxl, .inr ⟨g, off, cap, cur', rfl, a1, g1, g2, by omega, ?_, fun j hj => by rw [a3, if_neg (by omega)]; exact g5 j hj⟩⟩
      · rw [cell_of_row w g _ cur E (0, 0) hh, Array.getElem?_eq_getElem (by omega)]
        rfl
      · simp [World.frozen?, hh]
      · intro k u hu
        rw [a3 k] at hu
        split at hu
        · exact hKn u (List.mem_of_getElem? hu)
        · exact g4 k u hu
      rotate_left
      · intro k u hu
        rw [a3 k] at hu
        split at hu
        · exact hKn u (List.mem_of_getElem? hu)
        · exact g4 k u hu
      · intro j hj
        rw [Nat.add_mul] at hj
        rw [a3]
        by_cases e : j < n * i.size
        · rw [if_neg (by omega), g5 j e, List.getElem?_append_left (by omega)]
        · rw [if_pos (by omega), List.getElem?_append_right (by omega), hxl]
          congr 1
          omega
    · refine ⟨_, _, run_append_grow (P := P) w t ty E i z ht hi hz ⟨g, off, none⟩ n cap xs hxl (fun j u hj => ?_) ad m c news hl hnews (by omega) (by omega) (growslice_fits (by omega) (by omega)), ⟨hlen, .inr ⟨w.heap.size, 0, _, _, rfl, heap_alloc_new w.drew _, grownCap_ge w (n + m) cap E, grownCap_le_maxLen w (n + m) cap E (by unfold maxLen; omega), ?_, ?_, ?_⟩⟩, ⟨rfl, rfl, rfl, by simp, fun k hk _ => Below.heap_alloc _ _ _ (by simpa using hk)⟩, fun g' hg => ?_, hold.gr (((Gr.refl w).drew).alloc _)⟩
      · have hj' : j < n * i.size := by rw [← hxl]; exact (List.getElem?_eq_some_iff.1 hj).1
        rw [Addr.add_lit, cell_of_row w g _ cur E (0, 0) hh, g5 j hj']
        exact hj
      · have := grownCap_ge w (n + m) cap E
        simp only [Array.size_append, List.size_toArray, size_zeroCells, hzs, hl, hxl, Nat.zero_add]
        have e : grownCap w (n + m) cap E = n + m + (grownCap w (n + m) cap E - (n + m)) := by omega
        have e2 : grownCap w (n + m) cap E * i.size = (n + m + (grownCap w (n + m) cap E - (n + m))) * i.size := by rw [← e]
        rw [e2, Nat.add_mul, Nat.add_mul]
        exact Nat.le_refl _
      · intro j u hu
        exact hmk _ (grownCap_ge w (n + m) cap E) j u hu hx
      · intro j hj
        rw [Nat.zero_add]
        rw [Array.getElem?_append_left (by simp only [Array.size_append, List.size_toArray]; rw [← List.length_append, hlen]; exact hj)]
        simp
      · simp [Value.ownBlock] at hg
        exact .inr (by omega)
/-- append of nothing. -/
theorem Row.append0 {P : Program} (t ty : TypeId) (i : TypeInfo) (ht : P.underlying t = some (.slice E)) (hi : P.info? E = some i) (g off cap : Nat) (ad : Addr) (c : Nat) (hn : n ≤ cap) :
    (Builtin.append_ #[t, t] ty #[.slice (some ⟨g, off, none⟩) n cap, .slice (some ad) 0 c]).run P w = .ok (.slice (some ⟨g, off, none⟩) n cap) w :=
  run_append_room_cells (P := P) w t ty E i ht hi g off n cap ad 0 c [] (by simp) (fun j u h => by simp at h) (fun u h => by simp at h) (by omega) (fun j h => by simp at h) (fun j h => by simp at h)
/-- all but the first -/
theorem Row.tail {g off cap : Nat} (h : Row E size K w (.slice (some ⟨g, off, none⟩) (n + 1) cap) (n + 1) xs) : Row E size K w (.slice (some ⟨g, off + size, none⟩) n (cap - 1)) n (xs.drop size) := by
  obtain ⟨h1, h2⟩ := h
  rw [Nat.add_mul, Nat.one_mul] at h1
  refine ⟨by rw [List.length_drop]; omega, .inr ?_⟩
  rcases h2 with ⟨h3, _⟩ | ⟨g', off', cap', cur, h3, h4, h5, h6, h7, h8, h9⟩
  · cases h3
  · cases h3
    refine ⟨g, off + size, cap - 1, cur, rfl, h4, by omega, by omega, ?_, h8, fun j hj => ?_⟩
    · have : cap * size = (cap - 1) * size + size := by
        rw [show cap = cap - 1 + 1 by omega, Nat.add_mul, Nat.one_mul]; simp
      omega
    · have := h9 (size + j) (by rw [Nat.add_mul, Nat.one_mul]; omega)
      rw [List.getElem?_drop, ← this]
      congr 1
      omega
/-- all but the last, of a capacity that is no greater -/
theorem Row.init {g off cap cap' : Nat} (h : Row E size K w (.slice (some ⟨g, off, none⟩) (n + 1) cap) (n + 1) xs) (h0 : n ≤ cap') (h1 : cap' ≤ cap) : Row E size K w (.slice (some ⟨g, off, none⟩) n cap') n (xs.take (n * size)) := by
  obtain ⟨hl, h2⟩ := h
  rw [Nat.add_mul, Nat.one_mul] at hl
  refine ⟨by rw [List.length_take]; omega, .inr ?_⟩
  rcases h2 with ⟨h3, _⟩ | ⟨g', off', cap'', cur, h3, h4, h5, h6, h7, h8, h9⟩
  · cases h3
  · cases h3
    refine ⟨g, off, cap', cur, rfl, h4, h0, by omega, ?_, h8, fun j hj => ?_⟩
    · have : cap' * size ≤ cap * size := Nat.mul_le_mul_right _ h1
      omega
    · rw [List.getElem?_take, if_pos hj]
      exact h9 j (by rw [Nat.add_mul, Nat.one_mul]; omega)
end

/-- A packet with its number. -/
structure Hel where
  t : Int
  len : Int
  flow : Int
  band : Int
  mark : Int
  n : Int
def Hel.zero : Hel := ⟨0, 0, 0, 0, 0, 0⟩
def Hel.val (x : Hel) : Value := .agg #[.int .i64 x.t, .int .i64 x.len, .int .i64 x.flow, .int .i64 x.band, .int .i64 x.mark, .int .i64 x.n]
def Hel.cells (x : Hel) : List Value := [.int .i64 x.t, .int .i64 x.len, .int .i64 x.flow, .int .i64 x.band, .int .i64 x.mark, .int .i64 x.n]
def flat (xs : List Hel) : List Value := xs.flatMap Hel.cells
theorem flat_len (xs : List Hel) : (flat xs).length = xs.length * 6 := by
  induction xs with
  | nil => rfl
  | cons x xs ih =>
    have : flat (x :: xs) = x.cells ++ flat xs := rfl
    rw [this, List.length_append, ih, List.length_cons, Nat.add_mul]
    simp [Hel.cells]
    omega
theorem flat_cons (x : Hel) (xs : List Hel) : flat (x :: xs) = x.cells ++ flat xs := rfl
theorem flat_app (xs ys : List Hel) : flat (xs ++ ys) = flat xs ++ flat ys := by simp [flat]
theorem flat_one (x : Hel) : flat [x] = x.cells := by simp [flat]
theorem flat_get (xs : List Hel) : ∀ (i j : Nat), i < xs.length → j < 6 → (flat xs)[i * 6 + j]? = ((xs.getD i .zero).cells)[j]? := by
  induction xs with
  | nil => intro i j hi _; simp at hi
  | cons x xs ih =>
    intro i j hi hj
    rw [flat_cons]
    cases i with
    | zero => rw [Nat.zero_mul, Nat.zero_add, List.getElem?_append_left (by simpa [Hel.cells] using hj)]; rfl
    | succ i =>
      rw [List.getElem?_append_right (by simp [Hel.cells]; omega)]
      have : (i + 1) * 6 + j - x.cells.length = i * 6 + j := by simp [Hel.cells]; omega
      rw [this, ih i j (by simpa using hi) hj]
      rfl
theorem cells_int (x : Hel) : ∀ u ∈ x.cells, u.oneCell' = true ∧ isInt u := by
  intro u hu
  simp only [Hel.cells, List.mem_cons, List.not_mem_nil, or_false] at hu
  rcases hu with rfl | rfl | rfl | rfl | rfl | rfl <;> exact ⟨rfl, _, rfl⟩
theorem flat_int (xs : List Hel) : ∀ u ∈ flat xs, u.oneCell' = true ∧ isInt u := by
  intro u hu
  obtain ⟨x, _, hx⟩ := List.mem_flatMap.1 hu
  exact cells_int x u hx
/-- The six cells of one. -/
structure HelAt (w : World) (b o : Nat) (x : Hel) : Prop where
  c0 : w.cell? ⟨b, o, none⟩ = some (.int .i64 x.t)
  c1 : w.cell? ⟨b, o + 1, none⟩ = some (.int .i64 x.len)
  c2 : w.cell? ⟨b, o + 2, none⟩ = some (.int .i64 x.flow)
  c3 : w.cell? ⟨b, o + 3, none⟩ = some (.int .i64 x.band)
  c4 : w.cell? ⟨b, o + 4, none⟩ = some (.int .i64 x.mark)
  c5 : w.cell? ⟨b, o + 5, none⟩ = some (.int .i64 x.n)
theorem HelAt.sav {w w' : World} {b o : Nat} {x : Hel} {B : Nat → Prop} (h : HelAt w b o x) (k : Sav B w w') (hb : ¬ B b) : HelAt w' b o x :=
  ⟨k.cell h.c0 hb, k.cell h.c1 hb, k.cell h.c2 hb, k.cell h.c3 hb, k.cell h.c4 hb, k.cell h.c5 hb⟩
theorem HelAt.gr {w w' : World} {b o : Nat} {x : Hel} (h : HelAt w b o x) (k : Gr w w') : HelAt w' b o x :=
  ⟨k.cell h.c0, k.cell h.c1, k.cell h.c2, k.cell h.c3, k.cell h.c4, k.cell h.c5⟩
theorem HelAt.news {w : World} {b o : Nat} {x : Hel} (h : HelAt w b o x) : ∀ (j : Nat) (u : Value), x.cells[j]? = some u → w.cell? (Addr.add ⟨b, o, none⟩ j) = some u := by
  intro j u hj
  match j, hj with
  | 0, hj => simp [Hel.cells] at hj; subst hj; exact h.c0
  | 1, hj => simp [Hel.cells] at hj; subst hj; exact h.c1
  | 2, hj => simp [Hel.cells] at hj; subst hj; exact h.c2
  | 3, hj => simp [Hel.cells] at hj; subst hj; exact h.c3
  | 4, hj => simp [Hel.cells] at hj; subst hj; exact h.c4
  | 5, hj => simp [Hel.cells] at hj; subst hj; exact h.c5
  | j + 6, hj => simp [Hel.cells] at hj
/-- .. and they may be written. -/
structure HelRes (w : World) (b : Nat) (x : Hel) : Prop where
  at_ : HelAt w b 0 x
  f0 : w.frozen? ⟨b, 0, none⟩ = false
  f1 : w.frozen? ⟨b, 1, none⟩ = false
  f2 : w.frozen? ⟨b, 2, none⟩ = false
  f3 : w.frozen? ⟨b, 3, none⟩ = false
  f4 : w.frozen? ⟨b, 4, none⟩ = false
  f5 : w.frozen? ⟨b, 5, none⟩ = false
theorem HelRes.gr {w w' : World} {b : Nat} {x : Hel} (h : HelRes w b x) (k : Gr w w') : HelRes w' b x := by
  have hl := cell_lt h.at_.c0
  exact ⟨h.at_.gr k, (k.frozen (p := ⟨b, 0, none⟩) hl).trans h.f0, (k.frozen (p := ⟨b, 1, none⟩) hl).trans h.f1, (k.frozen (p := ⟨b, 2, none⟩) hl).trans h.f2, (k.frozen (p := ⟨b, 3, none⟩) hl).trans h.f3, (k.frozen (p := ⟨b, 4, none⟩) hl).trans h.f4, (k.frozen (p := ⟨b, 5, none⟩) hl).trans h.f5⟩
theorem HelRes.sav {w w' : World} {b : Nat} {x : Hel} {B : Nat → Prop} (h : HelRes w b x) (k : Sav B w w') (hb : ¬ B b) : HelRes w' b x := by
  have hl := cell_lt h.at_.c0
  exact ⟨h.at_.sav k hb, k.frozen (p := ⟨b, 0, none⟩) hl h.f0 hb, k.frozen (p := ⟨b, 1, none⟩) hl h.f1 hb, k.frozen (p := ⟨b, 2, none⟩) hl h.f2 hb, k.frozen (p := ⟨b, 3, none⟩) hl h.f3 hb, k.frozen (p := ⟨b, 4, none⟩) hl h.f4 hb, k.frozen (p := ⟨b, 5, none⟩) hl h.f5 hb⟩
theorem helRes_new (w : World) (z : Hel) {n : Nat} (hn : n = w.heap.size) {T : TypeId} : HelRes (w.alloc (.cells #[.int .i64 z.t, .int .i64 z.len, .int .i64 z.flow, .int .i64 z.band, .int .i64 z.mark, .int .i64 z.n] T)) n z := by
  subst hn
  exact ⟨⟨by simp, by simp, by simp, by simp, by simp, by simp⟩, by simp, by simp, by simp, by simp, by simp, by simp⟩
/-- An own slice of such. -/
def RowH (E : TypeId) (w : World) (v : Value) (xs : List Hel) : Prop := Row E 6 isInt w v xs.length (flat xs)
section
variable {E : TypeId} {w w' : World} {v : Value} {xs ys : List Hel} {x : Hel} {B : Nat → Prop}
theorem RowH.nil (E : TypeId) (w : World) : RowH E w (.slice none 0 0) [] := Row.nil _ _ _ w
theorem RowH.shape (h : RowH E w v xs) : ∃ a cap, v = .slice a xs.length cap := Row.shape h
theorem RowH.gr (h : RowH E w v xs) (k : Gr w w') : RowH E w' v xs := Row.gr h k
theorem RowH.sav (h : RowH E w v xs) (k : Sav B w w') (hv : ∀ g, v.ownBlock = some g → ¬ B g) : RowH E w' v xs := Row.sav h k hv
theorem RowH.lt (h : RowH E w v xs) {g : Nat} (hg : v.ownBlock = some g) : g < w.heap.size := Row.lt h hg
theorem RowH.ne (h : RowH E w v xs) {q i : Nat} {u : Value} (hc : w.cell? ⟨q, i, none⟩ = some u) (hu : ¬ isInt u) : v.ownBlock ≠ some q := Row.ne h hc hu
theorem RowH.any (h : RowH E w v xs) : ∃ a cap, v = .slice a xs.length cap ∧ xs.length ≤ cap ∧ cap ≤ maxLen ∧ Hid (0 < xs.length → ∃ b off, a = some ⟨b, off, none⟩ ∧ ∀ i, i < xs.length → HelAt w b (off + i * 6) (xs.getD i .zero)) := by
  rcases h.2 with ⟨rfl, h0⟩ | ⟨g, off, cap, cur, rfl, hh, g1, g2, g3, g4, g5⟩
  · refine ⟨none, 0, by rw [h0], by omega, by decide, fun hh => absurd hh (by omega)⟩
  · refine ⟨_, cap, rfl, g1, g2, fun _ => ⟨g, off, rfl, fun i hi => ?_⟩⟩
    have hc : ∀ j u, j < 6 → ((xs.getD i .zero).cells)[j]? = some u → w.cell? ⟨g, off + i * 6 + j, none⟩ = some u := by
      intro j u hj hu
      rw [cell_of_row w g _ cur E (0, 0) hh, Nat.add_assoc, g5 (i * 6 + j) (by omega), flat_get xs i j hi hj]
      exact hu
    exact ⟨hc 0 _ (by omega) rfl, hc 1 _ (by omega) rfl, hc 2 _ (by omega) rfl, hc 3 _ (by omega) rfl, hc 4 _ (by omega) rfl, hc 5 _ (by omega) rfl⟩
theorem RowH.tail {g off cap : Nat} (h : RowH E w (.slice (some ⟨g, off, none⟩) (x :: xs).length cap) (x :: xs)) : RowH E w (.slice (some ⟨g, off + 6, none⟩) xs.length (cap - 1)) xs := by
  have := Row.tail (n := xs.length) h
  rwa [flat_cons, show x.cells ++ flat xs = x.cells ++ flat xs from rfl, List.drop_left' (by simp [Hel.cells])] at this
theorem RowH.init {g off cap cap' : Nat} (h : RowH E w (.slice (some ⟨g, off, none⟩) (xs ++ [x]).length cap) (xs ++ [x])) (h0 : xs.length ≤ cap') (h1 : cap' ≤ cap) : RowH E w (.slice (some ⟨g, off, none⟩) xs.length cap') xs := by
  unfold RowH at h
  rw [List.length_append, show [x].length = 1 from rfl] at h
  have := Row.init (n := xs.length) h h0 h1
  rwa [flat_app, List.take_left' (flat_len xs)] at this
/-- append of some more -/
theorem RowH.app {P : Program} (t ty : TypeId) (i : TypeInfo) (z : Value) (ht : P.underlying t = some (.slice E)) (hi : P.info? E = some i) (hz : i.zero = some z) (hsize : i.size = 6) (hby : i.bytes = 48) (hzs : z.cells.size = 6) (hKz : ∀ u ∈ z.cells.toList, isInt u)
    (h : RowH E w v xs) (ad : Addr) (c : Nat) (h0 : 0 < ys.length) (hnews : ∀ j u, (flat ys)[j]? = some u → w.cell? (ad.add j) = some u) (hn : xs.length + ys.length ≤ 1000000) :
    ∃ v' w', (Builtin.append_ #[t, t] ty #[v, .slice (some ad) ys.length c]).run P w = .ok v' w' ∧ RowH E w' v' (xs ++ ys) ∧ w.grownBy w' v.ownBlock ∧ (∀ g, v'.ownBlock = some g → v.ownBlock = some g ∨ w.heap.size ≤ g) ∧ RowH E w' v xs := by
  obtain ⟨v', w', h1, h2, h3, h4, h5⟩ := Row.appendN (P := P) t ty i z 48 ht hi hz hsize hby hzs hKz h ad c ys.length h0 (flat ys) (flat_len ys) hnews (fun u hu => (flat_int ys u hu).1) (fun u hu => (flat_int ys u hu).2) hn (by decide)
  exact ⟨v', w', h1, by unfold RowH; rw [List.length_append, flat_app]; exact h2, h3, h4, h5⟩
theorem wpList_append_rowH {P : Program} {ops : Array Oper} {rest : List Oper} {o : Oper} {a : Act} {Q : Exit → Act → World → Prop} (hgd : o.guard = none) (s x : Operand) (t : TypeId)
    (ho : o.op = .call { callee := .builtin .append, args := #[s, x], argTypes := #[t, t] }) (i : TypeInfo) (z : Value) (ht : P.underlying t = some (.slice E)) (hi : P.info? E = some i) (hz : i.zero = some z) (hsize : i.size = 6) (hby : i.bytes = 48) (hzs : z.cells.size = 6) (hKz : ∀ u ∈ z.cells.toList, isInt u)
    (hs : a.eval s = v) (h : RowH E w v xs) (ad : Addr) (c : Nat) (ys : List Hel) (hx : a.eval x = .slice (some ad) ys.length c) (h0 : 0 < ys.length) (hnews : ∀ j u, (flat ys)[j]? = some u → w.cell? (ad.add j) = some u) (hn : xs.length + ys.length ≤ 1000000)
    (hK : ∀ v' w', RowH E w' v' (xs ++ ys) → w.grownBy w' v.ownBlock → (∀ g, v'.ownBlock = some g → v.ownBlock = some g ∨ w.heap.size ≤ g) → RowH E w' v xs → wpList P ops Q rest (a.put o.dst v') w') : wpList P ops Q (o :: rest) a w := by
  obtain ⟨v', w', hr, h2, h3, h4, h5⟩ := RowH.app (P := P) t o.type i z ht hi hz hsize hby hzs hKz h ad c h0 hnews hn
  refine wpList_plain hgd fun _ hK' => ?_
  unfold Oper.wp
  simp [execOp, ho, resolve, invoke, builtin, hs, hx, hr, Result.andThen]
  exact hK' _ _ (hK v' w' h2 h3 h4 h5)
/-- append of nothing -/
theorem wpList_append_row0 {P : Program} {ops : Array Oper} {rest : List Oper} {o : Oper} {a : Act} {Q : Exit → Act → World → Prop} (hgd : o.guard = none) (s x : Operand) (t : TypeId)
    (ho : o.op = .call { callee := .builtin .append, args := #[s, x], argTypes := #[t, t] }) (i : TypeInfo) (ht : P.underlying t = some (.slice E)) (hi : P.info? E = some i)
    (g off n cap : Nat) (hs : a.eval s = .slice (some ⟨g, off, none⟩) n cap) (hn : n ≤ cap) (ad : Addr) (c : Nat) (hx : a.eval x = .slice (some ad) 0 c)
    (hK : wpList P ops Q rest (a.put o.dst (.slice (some ⟨g, off, none⟩) n cap)) w) : wpList P ops Q (o :: rest) a w := by
  have hr := Row.append0 (P := P) (w := w) (n := n) t o.type i ht hi g off cap ad c hn
  refine wpList_plain hgd fun _ hK' => ?_
  unfold Oper.wp
  simp [execOp, ho, resolve, invoke, builtin, hs, hx, hr, Result.andThen]
  exact hK' _ _ hK
theorem RowH.empty {n : Nat} (hn : n = w.heap.size) : RowH E (w.alloc (.cells #[] E)) (.slice (some ⟨n, 0, none⟩) 0 0) [] := by
  subst hn
  exact ⟨rfl, .inr ⟨w.heap.size, 0, 0, #[], rfl, heap_alloc_new w _, Nat.le_refl _, by decide, by simp, fun i u h => by simp at h, fun j hj => by simp at hj⟩⟩
/-- the cells of all -/
theorem RowH.all {g off cap n : Nat} (h : RowH E w (.slice (some ⟨g, off, none⟩) n cap) xs) : ∀ (j : Nat) (u : Value), (flat xs)[j]? = some u → w.cell? (Addr.add ⟨g, off, none⟩ j) = some u := by
  intro j u hj
  have hl : j < xs.length * 6 := by rw [← flat_len]; exact (List.getElem?_eq_some_iff.1 hj).1
  rcases h.2 with ⟨h1, _⟩ | ⟨g', off', cap', cur, h1, h2, h3, h4, h5, h6, h7⟩
  · cases h1
  · cases h1
    rw [Addr.add_lit, cell_of_row w g _ cur E (0, 0) h2, h7 j hl]
    exact hj
end
end Go.Proofs.YticifnegoacopaaGreatDoor

/-
  A block of the call's own, all of whose cells are numbers of one kind: what it holds is a function of the place.
-/
import Derived.Test.YtgifghbnpdanhaaGreatDoorShaperPlaysPart1
import Derived.Test.YtgifghbnpdanhaaGreatDoorProg
namespace Go.Proofs.YtgifghbnpdanhaaGreatDoor
open Go.RowKit

/-- f with x at i -/
def upd (f : Nat → Int) (i : Nat) (x : Int) : Nat → Int := fun k => if k = i then x else f k
theorem upd_at (f : Nat → Int) (i : Nat) (x : Int) : upd f i x i = x := by simp [upd]
theorem upd_ne (f : Nat → Int) {i k : Nat} (x : Int) (h : k ≠ i) : upd f i x k = f k := by simp [upd, h]

/-- Block g holds the numbers f 0 .. f (n - 1) of kind K (of type T). -/
def Blk (K : IntKind) (T : TypeId) (w : World) (g n : Nat) (f : Nat → Int) : Prop :=
  ∃ cur : Array Value, w.heap[g]? = some (.cells cur T (0, 0)) ∧ cur.size = n ∧ ∀ i, i < n → cur[i]? = some (.int K (f i))
section
variable {K : IntKind} {T : TypeId} {w w' : World} {g n : Nat} {f f' : Nat → Int}
theorem Blk.lt (h : Blk K T w g n f) : g < w.heap.size := by
  obtain ⟨cur, h, _⟩ := h
  rcases Nat.lt_or_ge g w.heap.size with k | k
  · exact k
  · simp [Array.getElem?_eq_none k] at h
theorem Blk.cell (h : Blk K T w g n f) {i : Nat} (hi : i < n) : w.cell? ⟨g, i, none⟩ = some (.int K (f i)) := by
  obtain ⟨cur, h, _, hc⟩ := h
  simp [World.cell?, h, hc i hi]
theorem Blk.free (h : Blk K T w g n f) (i : Nat) : w.frozen? ⟨g, i, none⟩ = false := by
  obtain ⟨cur, h, _⟩ := h
  simp [World.frozen?, h]
theorem Blk.same (h : Blk K T w g n f) (hg : w'.heap[g]? = w.heap[g]?) : Blk K T w' g n f := by
  obtain ⟨cur, h1, h2⟩ := h
  exact ⟨cur, hg.trans h1, h2⟩
theorem Blk.gr (h : Blk K T w g n f) (k : Gr w w') : Blk K T w' g n f := h.same (k.block h.lt)
theorem Blk.congr (h : Blk K T w g n f) (k : ∀ i, i < n → f i = f' i) : Blk K T w g n f' := by
  obtain ⟨cur, h1, h2, h3⟩ := h
  exact ⟨cur, h1, h2, fun i hi => by rw [← k i hi]; exact h3 i hi⟩
theorem Blk.alloc (h : Blk K T w g n f) (o : Obj) : Blk K T (w.alloc o) g n f := h.gr ((Gr.refl w).alloc o)
theorem Blk.drew (h : Blk K T w g n f) : Blk K T w.drew g n f := h
theorem Blk.drewN (h : Blk K T w g n f) (m : Nat) : Blk K T (w.drewN m) g n f := h
theorem Blk.other (h : Blk K T w g n f) {p : Addr} (hp : p.block ≠ g) (u : Value) : Blk K T (w.setCell p u) g n f :=
  h.same (Below.heap_setCell _ _ _ _ (fun e => hp e.symm))
theorem Blk.set (h : Blk K T w g n f) (i : Nat) (x : Int) : Blk K T (w.setCell ⟨g, i, none⟩ (.int K x)) g n (upd f i x) := by
  obtain ⟨cur, h1, h2, h3⟩ := h
  refine ⟨cur.setIfInBounds i (.int K x), ?_, by simp [h2], fun k hk => ?_⟩
  · simp [World.setCell, Array.getElem?_modify, h1]
  · by_cases e : k = i
    · subst e
      rw [upd_at]
      simp [h2, hk]
    · rw [upd_ne _ _ e]
      simp [h3 k hk, Ne.symm e]
/-- all n of f -/
def fnList (f : Nat → Int) (n : Nat) : List Int := (List.range n).map f
theorem fnList_len (f : Nat → Int) (n : Nat) : (fnList f n).length = n := by simp [fnList]
theorem fnList_getD (f : Nat → Int) {n i : Nat} (h : i < n) : (fnList f n).getD i 0 = f i := by simp [fnList, h]
end
theorem Blk.ints {T : TypeId} {w : World} {g n : Nat} {f : Nat → Int} (h : Blk .i64 T w g n f) (hm : n ≤ 9223372036854775807) : Ints w (.slice (some ⟨g, 0, none⟩) n n) (fnList f n) := by
  rcases Nat.eq_zero_or_pos n with h0 | h0
  · subst h0
    exact .inl ⟨_, _, rfl, rfl⟩
  · refine .inr ⟨g, 0, n, by rw [fnList_len], by rw [fnList_len]; exact h0, by rw [fnList_len]; omega, fun i hi => ?_⟩
    rw [fnList_len] at hi
    rw [fnList_getD f hi, Nat.zero_add]
    exact h.cell hi

/-- make([]T, n), n words of zeros. -/
theorem wpList_make_blk {K : IntKind} {T : TypeId} {w : World} {ops : Array Oper} {rest : List Oper} {o : Oper} {a : Act} {Q : Exit → Act → World → Prop} {bytes : Nat}
    (hinfo : (Tryz.prog.info? T).map (fun i => (i.zero, i.size, i.bytes)) = some (some (.int K 0), 1, bytes)) (hg : o.guard = none) (l c : Operand) (t : TypeId) (hop : o.op = Op.makeSlice t l c) (h1 : Tryz.prog.underlying t = some (.slice T))
    (kl kc : IntKind) (L C : Int) (n : Nat) (hl : a.eval l = .int kl L) (hc : a.eval c = .int kc C) (hL : L = (n : Int)) (hC : C = (n : Int)) (b2 : bytes * n ≤ 281474976710656) (b3 : n ≤ 9223372036854775807)
    (hK : ∀ w', Blk K T w' w.heap.size n (fun _ => 0) → (∀ u, Gr u w → Gr u w') → wpList Tryz.prog ops Q rest (a.put o.dst (.slice (some ⟨w.heap.size, 0, none⟩) n n)) w') :
    wpList Tryz.prog ops Q (o :: rest) a w := by
  obtain ⟨i0, hi, hz0, hz1, hz2⟩ := info_parts hinfo
  refine wpList_make_full w hg l c t hop w.heap.size T i0 (.int K 0) 1 h1 hi hz0 hz1 kl kc L C n hl hc hL hC (by rw [hz2]; exact b2) (by unfold maxLen; omega) (Nat.le_refl _) fun w' hown hgr => hK w' ?_ fun u hu => hu.grown hgr (fun k hk => by cases hk)
  obtain ⟨_, h2⟩ := hown
  rcases h2 with ⟨h2, _⟩ | ⟨g, cap, cur, hv, _, hh, _, _, hsz, htk⟩
  · simp at h2
  · simp at hv
    obtain ⟨rfl, rfl⟩ := hv
    have e1 : (Value.int K 0).cells = #[Value.int K 0] := rfl
    rw [e1, toList_madeCells_one, Nat.mul_one, List.take_of_length_le (by simp; omega)] at htk
    refine ⟨cur, hh, by omega, fun i hi => ?_⟩
    rw [← Array.getElem?_toList, htk]
    simp [hi]
end Go.Proofs.YtgifghbnpdanhaaGreatDoor

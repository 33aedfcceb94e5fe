/-
  The program's sorted, walked: a map as pairs in their order.
-/
import Derived.Test.YtcfajegdlaeekaaDoorTopC
import Derived.Test.YtcfajegdlaeekaaDoorTopL
import Derived.Test.YtcfajegdlaeekaaDoorMapR
import Derived.Shelf.SlSortCmp.NoneTotal
namespace Go.Proofs.YtcfajegdlaeekaaDoor
open Go Go.RowKit Go.Shelf Go.Lib Go.Sort Go.Maps

theorem pairInfo : (Tryd.prog.info? 44).map (fun i => (i.zero, i.size, i.bytes)) = some (some (.agg #[.int .i64 0, .int .i64 0]), 2, 16) := by kernel_rfl
theorem cls_enters : ∀ args w, (callFunc 14 args).run Tryd.prog w = .ok (.enter 14 args) w := enters_of Tryd.func14 (by kernel_rfl) rfl
/-- slices.SortFunc of pairs, no key twice. -/
theorem sortFn {f : Int → Int} {w : World} {v : Value} {L : List (Int × Int)} (h : PRow 44 w v L) (hn : (L.map (·.1)).Nodup) (hm : ∀ p, p ∈ L ↔ f p.1 = p.2 ∧ p.2 ≠ 0) (hl : L.length ≤ 1000000) :
    Calls Tryd.prog 13 #[v, .func (.func 14) #[] #[]] w fun e w' => e = .returned (.tuple #[]) ∧ ∃ L', L'.length = L.length ∧ PRow 44 w' v L' ∧ PairsOf f L' ∧ Sav (fun q => v.ownBlock = some q) w w' := by
  by_cases h0 : L = []
  · subst h0
    obtain ⟨a, c, rfl⟩ := h.shape
    have hc := AnyF.slices_SortFunc_none Tryd.sortP a c (.func (.func 14) #[] #[]) w
    change Calls Tryd.prog 13 _ _ _ at hc
    refine hc.mono ?_
    rintro e w' ⟨rfl, rfl⟩
    exact ⟨rfl, [], rfl, h, ⟨List.Pairwise.nil, hm⟩, Sav.refl _ _⟩
  · have hp : 0 < L.length := List.length_pos_iff.2 h0
    obtain ⟨g, off, cap, rfl, _⟩ := Row.cells h hp
    have hc := AnyQ.slices_SortFunc Tryd.sortP 2 Tryd.isAgg44 Tryd.sizeOf44 pcells (fun _ => rfl) (fun x v hv => by simp [pcells] at hv; rcases hv with rfl | rfl <;> rfl) cfP swoP 14 #[] g off cap L.toArray w cls_enters (fun _ _ _ _ x y => cls x y _) h.holds (h.lt rfl) (by simp; omega)
    change Calls Tryd.prog 13 _ _ _ at hc
    refine hc.mono ?_
    rintro e w' ⟨rfl, d, n, os, h1, h2, rfl⟩
    obtain ⟨L', rfl⟩ : ∃ L' : List (Int × Int), d = L'.toArray := ⟨d.toList, by simp⟩
    have hl' : L'.length = L.length := (sorted_pairs h1 h2 hn).2.2
    obtain ⟨k1, k2⟩ := h.sortW hl' n os
    exact ⟨rfl, L', hl', k1, sorted_pairsOf h1 h2 hn hm, k2.mono fun q e => by rw [e]; rfl⟩
/-- A round of 'for k, n := range m': the pairs so far. -/
structure SrtAt (w wr : World) (b r n : Nat) (f : Int → Int) (v : Value) (L : List (Int × Int)) (left : Int → Bool) (cnt : Nat) (E : TypeId) : Prop where
  mp : MapR wr b r n f (has_ f) left cnt
  row : PRow E wr v L
  own : ∀ g, v.ownBlock = some g → w.heap.size ≤ g ∧ g ≠ r
  it : w.heap.size ≤ r
  gr : Gr w wr
  nod : (L.map (·.1)).Nodup
  mem : ∀ p ∈ L, f p.1 = p.2 ∧ p.2 ≠ 0 ∧ left p.1 = false
  all : ∀ k, f k ≠ 0 → left k = true ∨ ∃ p ∈ L, p.1 = k
theorem SrtAt.few {w wr : World} {b r n : Nat} {f : Int → Int} {v : Value} {L : List (Int × Int)} {left : Int → Bool} {cnt : Nat} {E : TypeId} (h : SrtAt w wr b r n f v L left cnt E) : L.length ≤ n := by
  obtain ⟨m, ⟨ks, h1, h2, h3⟩, h4, _⟩ := h.mp.owns.dom
  have := nodup_le h.nod fun k hk => by
    obtain ⟨p, hp, rfl⟩ := List.mem_map.1 hk
    rw [h2]
    have := h.mem p hp
    simp [has_, this.1, this.2.1]
  simp at this
  omega
theorem SrtAt.come {w wr : World} {b r n : Nat} {f : Int → Int} {v : Value} {L : List (Int × Int)} {left : Int → Bool} {cnt : Nat} {E : TypeId} (h : SrtAt w wr b r n f v L left cnt E) {x : Int} (hx : left x = true) : f x ≠ 0 := by
  simpa [has_] using h.mp.come hx
theorem SrtAt.full {w wr : World} {b r n : Nat} {f : Int → Int} {v : Value} {L : List (Int × Int)} {left : Int → Bool} {cnt : Nat} {E : TypeId} (h : SrtAt w wr b r n f v L left cnt E) (hd : ∀ k, left k = false) : ∀ p, p ∈ L ↔ f p.1 = p.2 ∧ p.2 ≠ 0 := fun p => by
  constructor
  · intro hp
    have := h.mem p hp
    exact ⟨this.1, this.2.1⟩
  · rintro ⟨h1, h2⟩
    rcases h.all p.1 (by rw [h1]; exact h2) with h3 | ⟨q, hq, e⟩
    · rw [hd] at h3; cases h3
    · have h4 := (h.mem q hq).1
      have : q = p := Prod.ext e (by rw [← h4, e, h1])
      rw [← this]; exact hq
theorem PRow.one {E : TypeId} {w : World} {v : Value} {L : List (Int × Int)} {p : Int × Int} (h : Row E 2 isInt w v (L.length + 1) (pflat L ++ pcells p)) : PRow E w v (L ++ [p]) := by
  unfold PRow
  rw [List.length_append, pflat_app, pflat_one]
  exact h
theorem pnew (w : World) (x y : Int) (T : TypeId) : ∀ (j : Nat) (u : Value), (pcells (x, y))[j]? = some u → (w.alloc (.cells #[.int .i64 x, .int .i64 y] T)).cell? (Addr.add ⟨w.heap.size, 0, none⟩ j) = some u
  | 0, u, h => by rw [← h]; exact cell_of_row _ _ 0 _ _ _ (heap_alloc_new w _)
  | 1, u, h => by rw [← h]; exact cell_of_row _ _ 1 _ _ _ (heap_alloc_new w _)
  | j + 2, u, h => by simp [pcells] at h
theorem pcells_int (p : Int × Int) : ∀ u ∈ pcells p, u.oneCell' = true ∧ isInt u := fun u hu => pflat_int [p] u (by rw [pflat_one]; exact hu)
theorem zero_int : ∀ u ∈ (Value.agg #[.int .i64 0, .int .i64 0]).cells.toList, isInt u := by
  intro u hu
  simp [Value.cells] at hu
  exact ⟨_, hu⟩
/-- One more pair. -/
theorem SrtAt.more {w wr w1 w2 : World} {b r n : Nat} {f : Int → Int} {v v' : Value} {L : List (Int × Int)} {left : Int → Bool} {cnt cnt' : Nat} {E : TypeId} {x : Int} (h : SrtAt w wr b r n f v L left cnt E) (hx : left x = true) (hfx : f x ≠ 0) (m : MapR w1 b r n f (has_ f) (fI left x false) cnt') (s : Sav (fun q => q = r) wr w1) (hb : b < w.heap.size)
    {o : Obj} (row : Row E 2 isInt w2 v' (L.length + 1) (pflat L ++ pcells (x, f x))) (g : (w1.alloc o).grownBy w2 v.ownBlock) (hv : ∀ g, v'.ownBlock = some g → v.ownBlock = some g ∨ (w1.alloc o).heap.size ≤ g) : SrtAt w w2 b r n f v' (L ++ [(x, f x)]) (fI left x false) cnt' E := by
  have hsz : w.heap.size ≤ w1.heap.size := Nat.le_trans h.gr.size s.size
  have hr1 : r < w1.heap.size := m.lt.2
  have hsv : Sav (fun q => v.ownBlock = some q) w1 w2 := (Sav.of_gr ((Gr.refl w1).alloc o)).then (.of_grown g fun q e => e)
  replace row : PRow E w2 v' (L ++ [(x, f x)]) := PRow.one row
  refine ⟨m.sav hsv (fun e => ?_) (fun e => (h.own r e).2 rfl), row, fun g hg => ?_, h.it, ?_, ?_, fun p hp => ?_, fun k hk => ?_⟩
  · have := (h.own b e).1; omega
  · rcases hv g hg with e | e
    · exact h.own g e
    · have hz : (w1.alloc o).heap.size = w1.heap.size + 1 := by simp
      exact ⟨by omega, fun e2 => by omega⟩
  · exact (h.gr.trans (.refl _) |> fun k => s.gr k fun q e => by rw [e]; exact h.it) |> fun k => hsv.gr k fun q e => (h.own q e).1
  · rw [List.map_append, List.nodup_append]
    refine ⟨h.nod, by simp, fun a ha c hc e => ?_⟩
    simp at hc
    subst hc e
    obtain ⟨p, hp, e⟩ := List.mem_map.1 ha
    have := (h.mem p hp).2.2
    rw [e, hx] at this
    cases this
  · rcases List.mem_append.1 hp with hp | hp
    · have h1 := h.mem p hp
      refine ⟨h1.1, h1.2.1, ?_⟩
      by_cases e : p.1 = x
      · rw [e, fI_at]
      · rw [fI_ne _ _ e]; exact h1.2.2
    · simp at hp
      subst hp
      exact ⟨rfl, hfx, fI_at ..⟩
  · by_cases e : k = x
    · exact .inr ⟨(x, f x), by simp, e.symm⟩
    · rw [fI_ne _ _ e]
      rcases h.all k hk with h1 | ⟨p, hp, h1⟩
      · exact .inl h1
      · exact .inr ⟨p, List.mem_append_left _ hp, h1⟩
end Go.Proofs.YtcfajegdlaeekaaDoor

/-
  A side with a variable's box beside it. append of a slice of ints to an empty one.
-/
import Derived.Test.YtbpofdfehcbppaaDoorPlayC
import Derived.Test.YtbpofdfehcbppaaDoorApp
namespace Go.Proofs.YtbpofdfehcbppaaDoor
open Go.RowKit

section
variable {α β : Type} {M : Mach α} {N0 : Nat} {S : Side M N0 β} {w w' : World} {b b' : β} {a a' : α} {n n' : Nat} {rb : Nat} {val q : Value} {E : TypeId}
/-- A side, and a box that holds a value beside it. -/
def Side.boxed (S : Side M N0 β) (rb : Nat) (val : Value) : Side M N0 β where
  I w b a n := S.I w b a n ∧ w.cell? ⟨rb, 0, none⟩ = some val ∧ N0 ≤ rb ∧ ¬ S.F b rb
  F b g := S.F b g ∨ g = rb
  lo h hg := hg.elim (S.lo h.1) (fun e => by rw [e]; exact h.2.2.1)
  lt h hg := hg.elim (S.lt h.1) (fun e => by rw [e]; exact cell_lt h.2.1)
  sav h k hB := ⟨S.sav h.1 k (fun g hg => ⟨(hB g hg).1, fun e => (hB g hg).2 (.inl e)⟩), k.cell h.2.1 (fun e => (hB _ e).2 (.inr rfl)), h.2.2⟩
theorem Side.Moved.boxed (h : (S.boxed rb val).I w b a n) (k : S.Moved w b w' b' a' n') : (S.boxed rb val).Moved w b w' b' a' n' :=
  ⟨⟨k.inv, k.sav.cell h.2.1 h.2.2.2, h.2.2.1, fun e => (k.new _ e).elim h.2.2.2 (fun h1 => by have := cell_lt h.2.1; simp at this; omega)⟩, k.sav.mono (fun _ => .inl), fun g hg => hg.elim (fun e => (k.new g e).imp .inl id) (fun e => .inl (.inr e))⟩
theorem Acts.boxed (A : Acts S E q) (rb : Nat) (val : Value) : Acts (S.boxed rb val) E q where
  put := by
    obtain ⟨f, r, hm, h⟩ := A.put
    exact ⟨f, r, hm, fun w b a n now x hI g => (h w b a n now x hI.1 g).mono fun e w' ⟨v, b', h1, h2, h3⟩ => ⟨v, b', h1, h2, h3.boxed hI⟩⟩
  take := by
    obtain ⟨f, r, hm, h⟩ := A.take
    exact ⟨f, r, hm, fun w b a n now hI g => (h w b a n now hI.1 g).mono fun e w' ⟨v, b', h1, h2, h3⟩ => ⟨v, b', h1, h2, h3.boxed hI⟩⟩
  when_ := by
    obtain ⟨f, r, hm, h⟩ := A.when_
    exact ⟨f, r, hm, fun w b a n now hI g => (h w b a n now hI.1 g).mono fun e w' ⟨b', h1, h3⟩ => ⟨b', h1, h3.boxed hI⟩⟩
  few h := A.few h.1
  fewPut h g := A.fewPut h.1 g
  fewTake h g := A.fewTake h.1 g
theorem PSide.boxed (A : PSide S q) (rb : Nat) (val : Value) : PSide (S.boxed rb val) q where
  toActs := A.toActs.boxed rb val
  len := by
    obtain ⟨f, r, hm, h⟩ := A.len
    exact ⟨f, r, hm, fun w b a n hI => h w b a n hI.1⟩
  bytes := by
    obtain ⟨f, r, hm, h⟩ := A.bytes
    exact ⟨f, r, hm, fun w b a n hI => h w b a n hI.1⟩
theorem RSide.boxed (A : RSide S q) (rb : Nat) (val : Value) : RSide (S.boxed rb val) q where
  toActs := A.toActs.boxed rb val
  all := by
    obtain ⟨f, r, hm, h⟩ := A.all
    exact ⟨f, r, hm, fun w b a n hI => h w b a n hI.1⟩
end
theorem run_append_nil0 {P : Program} {w : World} (t ty e : TypeId) (i : TypeInfo) (ht : P.underlying t = some (.slice e)) (hi : P.info? e = some i) (g off n cap c : Nat) (hn : n ≤ cap) :
    (Builtin.append_ #[t, t] ty #[.slice (some ⟨g, off, none⟩) n cap, .slice none 0 c]).run P w = .ok (.slice (some ⟨g, off, none⟩) n cap) w := by
  simp [Builtin.append_, run_underlying ht, sizeOf, typeInfo, hi, Builtin.lenOf, Builtin.firstCells, hn, Addr.add_lit, storeCells]
theorem IntRow.empty {w : World} {n : Nat} (hn : n = w.heap.size) : IntRow (w.alloc (.cells #[] 3)) (.slice (some ⟨n, 0, none⟩) 0 0) [] := by
  subst hn
  exact ⟨rfl, .inr ⟨w.heap.size, 0, 0, #[], rfl, heap_alloc_new w _, Nat.le_refl _, by decide, by simp, fun i u h => by simp at h, fun j hj => by simp at hj⟩⟩
/-- append of a slice of ints to nothing. -/
theorem IntRow.app0 {w : World} {g : Nat} {x : Value} {ys : List Int} (h : IntRow w (.slice (some ⟨g, 0, none⟩) 0 0) []) (hx : Ints w x ys) (hn : ys.length ≤ 999990) :
    ∃ v' w', (Builtin.append_ #[42, 42] 42 #[.slice (some ⟨g, 0, none⟩) 0 0, x]).run Tryd.prog w = .ok v' w' ∧ IntRow w' v' ys ∧ Gr w w' ∧ ∀ k, v'.ownBlock = some k → some g = some k ∨ w.heap.size ≤ k := by
  obtain ⟨i0, hi, hz0, hz1, hz2⟩ := info_parts info_intE
  rcases hx with ⟨a, cap, rfl, rfl⟩ | ⟨b, off, cap, rfl, h0, h2, hc⟩
  · cases a with
    | none => exact ⟨_, w, run_append_nil0 _ _ _ i0 Tryd.underlying42 hi g 0 0 0 cap (Nat.le_refl _), h, Gr.refl _, fun k hk => .inl hk⟩
    | some ad => exact ⟨_, w, Row.append0 _ _ i0 Tryd.underlying42 hi g 0 0 ad cap (Nat.le_refl _), h, Gr.refl _, fun k hk => .inl hk⟩
  · have hnews : ∀ (j : Nat) (u : Value), (ys.map fun x => Value.int .i64 x)[j]? = some u → w.cell? (Addr.add ⟨b, off, none⟩ j) = some u := fun j u hj => by
      have hj2 : j < ys.length := by have := (List.getElem?_eq_some_iff.1 hj).1; simpa using this
      have hu : u = .int .i64 (ys.getD j 0) := by
        rw [List.getElem?_map] at hj
        simp [List.getElem?_eq_getElem hj2] at hj
        rw [← hj, List.getD_eq_getElem?_getD, List.getElem?_eq_getElem hj2]; rfl
      rw [Addr.add_lit, hu]
      exact hc j hj2
    obtain ⟨v', w', h1, h2, h3, h4, h5⟩ := Row.appendN (P := Tryd.prog) 42 42 i0 (.int .i64 0) 8 Tryd.underlying42 hi hz0 hz1 hz2 rfl (fun u hu => by simp [Value.cells] at hu; exact ⟨_, hu⟩) h ⟨b, off, none⟩ cap ys.length h0 (ys.map fun x => Value.int .i64 x) (by simp) (hnews) (fun u hu => by
        obtain ⟨z, _, rfl⟩ := List.mem_map.1 hu
        rfl) (fun u hu => by
        obtain ⟨z, _, rfl⟩ := List.mem_map.1 hu
        exact ⟨_, rfl⟩) (by simpa using (by omega : ys.length ≤ 1000000)) (by decide)
    have hgr : Gr w w' := by
      have hr := run_append_grow (P := Tryd.prog) w 42 42 3 i0 (.int .i64 0) Tryd.underlying42 hi hz0 ⟨g, 0, none⟩ 0 0 [] (by simp) (fun j u hj => by simp at hj) ⟨b, off, none⟩ ys.length cap (ys.map fun x => Value.int .i64 x) (by simp [hz1]) hnews (by omega) (by omega) (growslice_fits (by omega) (by rw [hz2]; omega))
      rw [h1] at hr
      injection hr with _ e
      rw [e]
      exact ((Gr.refl w).drew).alloc _
    exact ⟨v', w', h1, by unfold IntRow; simpa using h2, hgr, h4⟩
end Go.Proofs.YtbpofdfehcbppaaDoor

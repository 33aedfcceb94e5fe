/-
  Words for the bucket laws: rows beside what changes; millracelaw.of, many, wrong.
-/
import Derived.Test.YtjghgafeoimgiaaDoorBktN
import Derived.Test.YtjghgafeoimgiaaDoorRow
namespace Go.Proofs.YtjghgafeoimgiaaDoor
open Go.RowKit Go.Extern.Stop Go.Stop Go.Extern

section
variable {E : TypeId} {size : Nat} {K : Value → Prop} {w w' : World} {v : Value} {n : Nat} {xs : List Value}
theorem grown_block {row : Option Nat} (k : w.grownBy w' row) {q : Nat} (hq : q < w.heap.size) (hne : row ≠ some q) : w'.heap[q]? = w.heap[q]? := k.block q hq (Ne.symm hne)
theorem Row.keeps (h : Row E size K w v n xs) (k : w.grownBy w' v.ownBlock) {q i : Nat} {u : Value} (hc : w.cell? ⟨q, i, none⟩ = some u) (hu : ¬ K u) : w'.cell? ⟨q, i, none⟩ = some u :=
  (World.cell?_of_block (a := ⟨q, i, none⟩) (grown_block k (cell_lt hc) (h.ne hc hu))).trans hc
/-- What a Rat's cells aren't. -/
def NoRat (K : Value → Prop) : Prop := (∀ a n c, ¬ K (.slice a n c)) ∧ ∀ x, ¬ K (.int .u32 x)
theorem RatV.row {g T : Nat} {x : Int} (h : RatV w g x T) (hr : Row E size K w v n xs) (hK : NoRat K) (k : w.grownBy w' v.ownBlock) : RatV w' g x T := by
  have hn : ∀ {v' N}, Num w v' N → Num w' v' N := fun {v' N} ⟨n, f, ⟨a, cap, h1, h2, h3, h4⟩, h5, h6⟩ => ⟨n, f, ⟨a, cap, h1, h2, fun h0 => by
    obtain ⟨g, h7, h8⟩ := h3 h0
    exact ⟨g, h7, fun i hi => hr.keeps k (h8 i hi) (hK.2 _)⟩, h4⟩, h5, h6⟩
  have hi : ∀ {q o x}, IntAt w q o x → IntAt w' q o x := fun {q o x} hx => by
    obtain ⟨c0, a, n, c, c1, hN⟩ := hx.open
    have hb := grown_block k (cell_lt c1) (hr.ne c1 (hK.1 _ _ _))
    exact ⟨(World.cell?_of_block (a := ⟨q, o, none⟩) hb).trans c0, _, (World.cell?_of_block (a := ⟨q, o + 1, none⟩) hb).trans c1, hn hN⟩
  obtain ⟨h0, a, d, ⟨h1, h2, h3, h4⟩, h5⟩ := h
  exact ⟨h0, a, d, ⟨hi h1, hi h2, h3, h4⟩, h5⟩
theorem StAt.block {p : Nat} {B : Bkt} {s : BSt} (h : StAt w p B s) (hb : w'.heap[p]? = w.heap[p]?) : StAt w' p B s := by
  have hc : ∀ i, w'.cell? ⟨p, i, none⟩ = w.cell? ⟨p, i, none⟩ := fun i => World.cell?_of_block (a := ⟨p, i, none⟩) hb
  have hf : ∀ i, w'.frozen? ⟨p, i, none⟩ = w.frozen? ⟨p, i, none⟩ := fun i => World.frozen?_of_block (a := ⟨p, i, none⟩) hb
  exact ⟨(hc 0).trans h.c0, (hc 1).trans h.c1, (hc 2).trans h.c2, (hc 3).trans h.c3, (hc 4).trans h.c4, (hf 3).trans h.f3, (hf 4).trans h.f4⟩
theorem FAt.block {p g : Nat} {B : Bkt} {s : BSt} (h : FAt w p B s g) (hb : w'.heap[p]? = w.heap[p]?) (hr : RatV w' g s.x B.t) : FAt w' p B s g := by
  have hc : ∀ i, w'.cell? ⟨p, i, none⟩ = w.cell? ⟨p, i, none⟩ := fun i => World.cell?_of_block (a := ⟨p, i, none⟩) hb
  have hf : ∀ i, w'.frozen? ⟨p, i, none⟩ = w.frozen? ⟨p, i, none⟩ := fun i => World.frozen?_of_block (a := ⟨p, i, none⟩) hb
  exact ⟨(hc 0).trans h.c0, (hc 1).trans h.c1, (hc 2).trans h.c2, (hc 3).trans h.c3, (hc 4).trans h.c4, (hf 3).trans h.f3, (hf 4).trans h.f4, hr⟩
end

/-- An own slice, no older than w, in a world that has all of w. -/
structure Own (w wr : World) (out : Value) : Prop where
  age : ∀ g, out.ownBlock = some g → w.heap.size ≤ g
  gr : Gr w wr
theorem Own.append {w w1 w2 : World} {v v' : Value} (h : Own w w1 v) (k : w1.grownBy w2 v.ownBlock) (hb : ∀ g, v'.ownBlock = some g → v.ownBlock = some g ∨ w1.heap.size ≤ g) : Own w w2 v' :=
  ⟨fun g hg => by
    rcases hb g hg with h1 | h1
    · exact h.age g h1
    · exact Nat.le_trans h.gr.size h1, h.gr.grown k h.age⟩
theorem Own.to {w w1 w2 : World} {v : Value} (h : Own w w1 v) (k : Gr w1 w2) : Own w w2 v := ⟨h.age, h.gr.trans k⟩
theorem Own.only {w w1 w2 : World} {v : Value} {p : Nat} (h : Own w w1 v) (k : Only p 3 w1 w2) (hp : w.heap.size ≤ p) : Own w w2 v := ⟨h.age, k.gr w h.gr hp⟩

/-- The first thing that is wrong, a bucket ahead of packets. -/
noncomputable def wrongC (b t r : Int) (l : List Itm) : Int := if ckB b t r = 0 then listCode l else ckB b t r
noncomputable def wrongP (b t r : Int) (l : List Itm) : Int := if ckB b t r = 0 then listPlace l else -1
set_option maxHeartbeats 1000000 in
theorem of_any (b t r : Int) (w : World) : Calls Tryd.prog 4 #[bktV b t r] w fun e w' => e = .returned (bktV b t r) ∧ Gr w w' := by
  unfold bktV
  go_enter Tryd.func4, Tryd.ntmps4
  go_wp2
  exact bodyPost_ret (v := .agg #[.int .i64 b, .int .i64 t, .int .i64 r]) (by simp [results, Tryd.results4, go_sem]) rfl ⟨rfl, ((Gr.refl w).alloc _).alloc _⟩
structure Cells3 (w : World) (p : Nat) (x y z : Value) : Prop where
  c0 : w.cell? ⟨p, 0, none⟩ = some x
  c1 : w.cell? ⟨p, 1, none⟩ = some y
  c2 : w.cell? ⟨p, 2, none⟩ = some z
theorem Cells3.gr {w w' : World} {p : Nat} {x y z : Value} (h : Cells3 w p x y z) (k : Gr w w') : Cells3 w' p x y z := ⟨k.cell h.c0, k.cell h.c1, k.cell h.c2⟩
structure Cells2 (w : World) (p : Nat) (x y : Value) : Prop where
  c0 : w.cell? ⟨p, 0, none⟩ = some x
  c1 : w.cell? ⟨p, 1, none⟩ = some y
theorem Cells2.gr {w w' : World} {p : Nat} {x y : Value} (h : Cells2 w p x y) (k : Gr w w') : Cells2 w' p x y := ⟨k.cell h.c0, k.cell h.c1⟩
theorem Cells2.only {w w' : World} {p q : Nat} {x y : Value} (h : Cells2 w p x y) (k : Only q 3 w w') (hne : q ≠ p) : Cells2 w' p x y :=
  ⟨(k.cell p 0 (cell_lt h.c0) (.inl (Ne.symm hne))).trans h.c0, (k.cell p 1 (cell_lt h.c1) (.inl (Ne.symm hne))).trans h.c1⟩
theorem firstOf_all {f : Nat → Int} {n : Nat} (h : firstOf f n = 0) : ∀ j, j < n → f j = 0 := by
  induction n with
  | zero => intro j hj; omega
  | succ n ih =>
    rw [firstOf] at h
    by_cases h1 : firstOf f n = 0
    · rw [if_pos h1] at h
      exact okTo_succ (ih h1) h
    · rw [if_neg h1] at h
      exact absurd h h1
theorem list_zero {l : List Itm} (h : listCode l = 0) (hn : l.length ≤ 100) : ∀ j, j < l.length → listAt l j = 0 := by
  unfold listCode at h
  rw [if_neg (by omega)] at h
  exact firstOf_all h
end Go.Proofs.YtjghgafeoimgiaaDoor

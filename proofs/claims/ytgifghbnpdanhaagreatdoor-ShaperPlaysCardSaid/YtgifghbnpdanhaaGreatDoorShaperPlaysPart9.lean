/-
  Words for the bucket laws: rows beside what changes; millracelaw.of, many, wrong.
-/
import Derived.Test.YtgifghbnpdanhaaGreatDoorShaperPlaysPart8
import Derived.Test.YtgifghbnpdanhaaGreatDoorRow
import Derived.Test.YtgifghbnpdanhaaGreatDoorRowN
namespace Go.Proofs.YtgifghbnpdanhaaGreatDoor
open Go.RowKit Go.Extern.Stop Go.Stop Go.Extern

section
variable {E : TypeId} {size : Nat} {K : Value → Prop} {w w' : World} {v : Value} {n : Nat} {xs : List Value}
theorem grown_block {row : Option Nat} (k : w.grownBy w' row) {q : Nat} (hq : q < w.heap.size) (hne : row ≠ some q) : w'.heap[q]? = w.heap[q]? := k.block q hq (Ne.symm hne)
theorem Row.keeps (h : Row E size K w v n xs) (k : w.grownBy w' v.ownBlock) {q i : Nat} {u : Value} (hc : w.cell? ⟨q, i, none⟩ = some u) (hu : ¬ K u) : w'.cell? ⟨q, i, none⟩ = some u :=
  (World.cell?_of_block (a := ⟨q, i, none⟩) (grown_block k (cell_lt hc) (h.ne hc hu))).trans hc
/-- What a Rat's cells aren't. -/
def NoRat (K : Value → Prop) : Prop := (∀ a n c, ¬ K (.slice a n c)) ∧ ∀ x, ¬ K (.int .u32 x)
theorem RatV.row {g T : Nat} {x : Int} (h : RatV w g x T) (hr : Row E size K w v n xs) (hK : NoRat K) (k : w.grownBy w' v.ownBlock) : RatV w' g x T := by
  have hn : ∀ {v' N}, Num w v' N → Num w' v' N := fun {v' N} ⟨n, f, ⟨a, cap, h1, h2, h3, h4⟩, h5, h6⟩ => ⟨n, f, ⟨a, cap, h1, h2, fun h0 => by
    obtain ⟨g, h7, h8⟩ := h3 h0
    exact ⟨g, h7, fun i hi => hr.keeps k (h8 i hi) (hK.2 _)⟩, h4⟩, h5, h6⟩
  have hi : ∀ {q o x}, IntAt w q o x → IntAt w' q o x := fun {q o x} hx => by
    obtain ⟨c0, a, n, c, c1, hN⟩ := hx.open
    have hb := grown_block k (cell_lt c1) (hr.ne c1 (hK.1 _ _ _))
    exact ⟨(World.cell?_of_block (a := ⟨q, o, none⟩) hb).trans c0, _, (World.cell?_of_block (a := ⟨q, o + 1, none⟩) hb).trans c1, hn hN⟩
  obtain ⟨h0, a, d, ⟨h1, h2, h3, h4⟩, h5⟩ := h
  exact ⟨h0, a, d, ⟨hi h1, hi h2, h3, h4⟩, h5⟩
theorem StAt.block {p : Nat} {B : Bkt} {s : BSt} (h : StAt w p B s) (hb : w'.heap[p]? = w.heap[p]?) : StAt w' p B s := by
  have hc : ∀ i, w'.cell? ⟨p, i, none⟩ = w.cell? ⟨p, i, none⟩ := fun i => World.cell?_of_block (a := ⟨p, i, none⟩) hb
  have hf : ∀ i, w'.frozen? ⟨p, i, none⟩ = w.frozen? ⟨p, i, none⟩ := fun i => World.frozen?_of_block (a := ⟨p, i, none⟩) hb
  exact ⟨(hc 0).trans h.c0, (hc 1).trans h.c1, (hc 2).trans h.c2, (hc 3).trans h.c3, (hc 4).trans h.c4, (hf 3).trans h.f3, (hf 4).trans h.f4⟩
theorem FAt.block {p g : Nat} {B : Bkt} {s : BSt} (h : FAt w p B s g) (hb : w'.heap[p]? = w.heap[p]?) (hr : RatV w' g s.x B.t) : FAt w' p B s g := by
  have hc : ∀ i, w'.cell? ⟨p, i, none⟩ = w.cell? ⟨p, i, none⟩ := fun i => World.cell?_of_block (a := ⟨p, i, none⟩) hb
  have hf : ∀ i, w'.frozen? ⟨p, i, none⟩ = w.frozen? ⟨p, i, none⟩ := fun i => World.frozen?_of_block (a := ⟨p, i, none⟩) hb
  exact ⟨(hc 0).trans h.c0, (hc 1).trans h.c1, (hc 2).trans h.c2, (hc 3).trans h.c3, (hc 4).trans h.c4, (hf 3).trans h.f3, (hf 4).trans h.f4, hr⟩
end

/-- An own slice, no older than w, in a world that has all of w. -/
structure Own (w wr : World) (out : Value) : Prop where
  age : ∀ g, out.ownBlock = some g → w.heap.size ≤ g
  gr : Gr w wr
theorem Own.append {w w1 w2 : World} {v v' : Value} (h : Own w w1 v) (k : w1.grownBy w2 v.ownBlock) (hb : ∀ g, v'.ownBlock = some g → v.ownBlock = some g ∨ w1.heap.size ≤ g) : Own w w2 v' :=
  ⟨fun g hg => by
    rcases hb g hg with h1 | h1
    · exact h.age g h1
    · exact Nat.le_trans h.gr.size h1, h.gr.grown k h.age⟩
theorem Own.to {w w1 w2 : World} {v : Value} (h : Own w w1 v) (k : Gr w1 w2) : Own w w2 v := ⟨h.age, h.gr.trans k⟩
theorem Own.only {w w1 w2 : World} {v : Value} {p : Nat} (h : Own w w1 v) (k : Only p 3 w1 w2) (hp : w.heap.size ≤ p) : Own w w2 v := ⟨h.age, k.gr w h.gr hp⟩

/-- The first thing that is wrong, a bucket ahead of packets. -/
noncomputable def wrongC (b t r : Int) (l : List Itm) : Int := if ckB b t r = 0 then listCode l else ckB b t r
noncomputable def wrongP (b t r : Int) (l : List Itm) : Int := if ckB b t r = 0 then listPlace l else -1
set_option maxHeartbeats 1000000 in
theorem of_any (b t r : Int) (w : World) : Calls Tryz.prog 7 #[bktV b t r] w fun e w' => e = .returned (bktV b t r) ∧ Gr w w' := by
  unfold bktV
  go_enter Tryz.func7, Tryz.ntmps7
  go_wp2
  exact bodyPost_ret (v := .agg #[.int .i64 b, .int .i64 t, .int .i64 r]) (by simp [results, Tryz.results7, go_sem]) rfl ⟨rfl, ((Gr.refl w).alloc _).alloc _⟩
structure Cells3 (w : World) (p : Nat) (x y z : Value) : Prop where
  c0 : w.cell? ⟨p, 0, none⟩ = some x
  c1 : w.cell? ⟨p, 1, none⟩ = some y
  c2 : w.cell? ⟨p, 2, none⟩ = some z
theorem Cells3.gr {w w' : World} {p : Nat} {x y z : Value} (h : Cells3 w p x y z) (k : Gr w w') : Cells3 w' p x y z := ⟨k.cell h.c0, k.cell h.c1, k.cell h.c2⟩
structure Cells2 (w : World) (p : Nat) (x y : Value) : Prop where
  c0 : w.cell? ⟨p, 0, none⟩ = some x
  c1 : w.cell? ⟨p, 1, none⟩ = some y
theorem Cells2.gr {w w' : World} {p : Nat} {x y : Value} (h : Cells2 w p x y) (k : Gr w w') : Cells2 w' p x y := ⟨k.cell h.c0, k.cell h.c1⟩
theorem Cells2.only {w w' : World} {p q : Nat} {x y : Value} (h : Cells2 w p x y) (k : Only q 3 w w') (hne : q ≠ p) : Cells2 w' p x y :=
  ⟨(k.cell p 0 (cell_lt h.c0) (.inl (Ne.symm hne))).trans h.c0, (k.cell p 1 (cell_lt h.c1) (.inl (Ne.symm hne))).trans h.c1⟩
theorem firstOf_all {f : Nat → Int} {n : Nat} (h : firstOf f n = 0) : ∀ j, j < n → f j = 0 := by
  induction n with
  | zero => intro j hj; omega
  | succ n ih =>
    rw [firstOf] at h
    by_cases h1 : firstOf f n = 0
    · rw [if_pos h1] at h
      exact okTo_succ (ih h1) h
    · rw [if_neg h1] at h
      exact absurd h h1
theorem list_zero {l : List Itm} (h : listCode l = 0) (hn : l.length ≤ 100) : ∀ j, j < l.length → listAt l j = 0 := by
  unfold listCode at h
  rw [if_neg (by omega)] at h
  exact firstOf_all h
end Go.Proofs.YtgifghbnpdanhaaGreatDoor
/-
  All rationals are kept: by what writes no block in which one lies. The code's State and the reference's Filled, told alike.
-/
namespace Go.Proofs.YtgifghbnpdanhaaGreatDoor
open Go.RowKit

theorem Sav.of_only {p o : Nat} {w w' : World} (h : Only p o w w') : Sav (fun q => q = p) w w' := by
  have g : Gr { w with heap := #[] } w' := h.gr { w with heap := #[] } ⟨rfl, rfl, rfl, Nat.zero_le _, fun k hk => absurd hk (by simp)⟩ (Nat.zero_le _)
  exact ⟨g.os, g.tape, g.output, h.size, fun k hk hb => h.block k hk hb⟩

/-- All rationals are kept. -/
structure KeepC (w w' : World) : Prop where
  rat : ∀ g x T, RatV w g x T → RatV w' g x T
theorem KeepC.refl (w : World) : KeepC w w := ⟨fun _ _ _ h => h⟩
theorem KeepC.trans {a b c : World} (h : KeepC a b) (k : KeepC b c) : KeepC a c := ⟨fun g x T r => k.rat g x T (h.rat g x T r)⟩
theorem KeepC.of_gr {w w' : World} (h : Gr w w') : KeepC w w' := ⟨fun _ _ _ r => r.gr h⟩
theorem KeepC.only {w w' : World} {p : Nat} (hm : Mine w p) (h : Only p 3 w w') : KeepC w w' := ⟨fun _ _ _ r => r.mine hm h⟩
theorem KeepC.row {E : TypeId} {size n : Nat} {K : Value → Prop} {v : Value} {xs : List Value} {w w' : World} (hr : Row E size K w v n xs) (hK : NoRat K) (k : w.grownBy w' v.ownBlock) : KeepC w w' := ⟨fun _ _ _ r => r.row hr hK k⟩
theorem KeepC.set {w : World} {p i : Nat} (u : Value) (h1 : ∀ x, w.cell? ⟨p, i, none⟩ ≠ some (.int .u32 x)) (h2 : ∀ b, w.cell? ⟨p, i, none⟩ ≠ some (.bool b)) (h3 : ∀ o b a n c, o + 1 = i → w.cell? ⟨p, o, none⟩ = some (.bool b) → w.cell? ⟨p, i, none⟩ ≠ some (.slice a n c)) : KeepC w (w.setCell ⟨p, i, none⟩ u) := by
  have hn : ∀ {v' N}, Num w v' N → Num (w.setCell ⟨p, i, none⟩ u) v' N := fun {v' N} ⟨n, f, ⟨a, cap, k1, k2, k3, k4⟩, k5, k6⟩ => ⟨n, f, ⟨a, cap, k1, k2, fun h0 => by
    obtain ⟨g, k7, k8⟩ := k3 h0
    refine ⟨g, k7, fun j hj => ?_⟩
    rw [World.cell?_setCell_other _ _ _ _ (fun e => by
      have e1 := k8 j hj
      rw [← e] at e1
      exact h1 _ e1)]
    exact k8 j hj, k4⟩, k5, k6⟩
  have hi : ∀ {q o x}, IntAt w q o x → IntAt (w.setCell ⟨p, i, none⟩ u) q o x := fun {q o x} hx => by
    obtain ⟨c0, a, n, c, c1, hN⟩ := hx.open
    refine ⟨?_, _, ?_, hn hN⟩
    · rw [World.cell?_setCell_other _ _ _ _ (fun e => by rw [← e] at c0; exact h2 _ c0)]
      exact c0
    · rw [World.cell?_setCell_other _ _ _ _ (fun e => by
        have e1 : p = q ∧ i = o + 1 := by simpa using e
        rw [← e] at c1
        exact h3 o _ a n c e1.2.symm (by rw [e1.1]; exact c0) c1)]
      exact c1
  exact ⟨fun g x T ⟨h0, a, d, ⟨k1, k2, k3, k4⟩, k5⟩ => ⟨h0, a, d, ⟨hi k1, hi k2, k3, k4⟩, k5⟩⟩
theorem KeepC.setInt {w : World} {p i : Nat} {x : Int} (u : Value) (h : w.cell? ⟨p, i, none⟩ = some (.int .i64 x)) : KeepC w (w.setCell ⟨p, i, none⟩ u) :=
  .set u (fun y e => by rw [h] at e; simp at e) (fun b e => by rw [h] at e; simp at e) (fun o b a n c _ _ e => by rw [h] at e; simp at e)
theorem KeepC.setSlice {w : World} {p : Nat} {a b : Option Addr} {n c n' c' : Nat} (u : Value) (h0 : w.cell? ⟨p, 0, none⟩ = some (.slice a n c)) (h : w.cell? ⟨p, 1, none⟩ = some (.slice b n' c')) : KeepC w (w.setCell ⟨p, 1, none⟩ u) :=
  .set u (fun y e => by rw [h] at e; simp at e) (fun b e => by rw [h] at e; simp at e) (fun o b a n c e1 e2 e => by
    obtain rfl : o = 0 := by omega
    rw [h0] at e2
    simp at e2)

/-- What is told of a bucket in memory: the code's State, the reference's Filled. -/
structure BKind where
  at_ : World → Nat → Bkt → BSt → Prop
  mine : ∀ {w p B s}, at_ w p B s → Mine w p
  keep : ∀ {w w' p B s}, at_ w p B s → w'.heap[p]? = w.heap[p]? → KeepC w w' → at_ w' p B s
def stP : BKind := ⟨StAt, fun h => h.mine, fun h hb _ => h.block hb⟩
def stR : BKind := ⟨fun w p B s => ∃ g, FAt w p B s g, fun ⟨_, h⟩ => h.mine, fun ⟨g, h⟩ hb k => ⟨g, h.block hb (k.rat _ _ _ h.rat)⟩⟩
/-- In block g no part of a rational lies (each of its blocks begins with a Bool or a word). -/
def NoRatB (w : World) (g : Nat) : Prop := (∀ b, w.cell? ⟨g, 0, none⟩ ≠ some (.bool b)) ∧ ∀ x, w.cell? ⟨g, 0, none⟩ ≠ some (.int .u32 x)
theorem NoRatB.of_none {w : World} {g : Nat} (h : w.cell? ⟨g, 0, none⟩ = none) : NoRatB w g := ⟨fun b e => (by rw [h] at e; cases e), fun x e => (by rw [h] at e; cases e)⟩
theorem NoRatB.of_cell {w : World} {g : Nat} {v : Value} (h : w.cell? ⟨g, 0, none⟩ = some v) (h1 : ∀ b, v ≠ .bool b) (h2 : ∀ x, v ≠ .int .u32 x) : NoRatB w g :=
  ⟨fun b e => h1 b (Option.some.inj (h.symm.trans e)), fun x e => h2 x (Option.some.inj (h.symm.trans e))⟩
theorem NoRatB.row {E : TypeId} {size n : Nat} {K : Value → Prop} {v : Value} {xs : List Value} {w : World} (hr : Row E size K w v n xs) (h1 : ∀ b, ¬ K (.bool b)) (h2 : ∀ x, ¬ K (.int .u32 x)) {g : Nat} (hg : v.ownBlock = some g) : NoRatB w g :=
  ⟨fun b e => hr.ne e (h1 b) hg, fun x e => hr.ne e (h2 x) hg⟩
theorem KeepC.of_sav {w w' : World} {B : Nat → Prop} (k : Sav B w w') (h : ∀ g, B g → NoRatB w g) : KeepC w w' := by
  have hn : ∀ {v' N}, Num w v' N → Num w' v' N := fun {v' N} ⟨n, f, ⟨a, cap, k1, k2, k3, k4⟩, k5, k6⟩ => ⟨n, f, ⟨a, cap, k1, k2, fun h0 => by
    obtain ⟨g, k7, k8⟩ := k3 h0
    exact ⟨g, k7, fun j hj => k.cell (k8 j hj) (fun e => (h _ e).2 _ (k8 0 h0))⟩, k4⟩, k5, k6⟩
  have hi : ∀ {q o x}, ¬ B q → IntAt w q o x → IntAt w' q o x := fun {q o x} hq hx => by
    obtain ⟨c0, a, n, c, c1, hN⟩ := hx.open
    exact ⟨k.cell c0 hq, _, k.cell c1 hq, hn hN⟩
  refine ⟨fun g x T ⟨h0, a, d, ⟨k1, k2, k3, k4⟩, k5⟩ => ?_⟩
  have hq : ¬ B g := fun e => by
    obtain ⟨c0, _⟩ := k1.open
    exact (h g e).1 _ c0
  exact ⟨h0, a, d, ⟨hi hq k1, hi hq k2, k3, k4⟩, k5⟩
theorem stR_open {w : World} {p : Nat} {B : Bkt} {s : BSt} (h : stR.at_ w p B s) : ∃ g, FAt w p B s g := h
theorem stR_close {w : World} {p g : Nat} {B : Bkt} {s : BSt} (h : FAt w p B s g) : stR.at_ w p B s := ⟨g, h⟩
end Go.Proofs.YtgifghbnpdanhaaGreatDoor

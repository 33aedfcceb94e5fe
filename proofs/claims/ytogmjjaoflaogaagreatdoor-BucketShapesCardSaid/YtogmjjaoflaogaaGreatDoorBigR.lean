/-
  millracebig.Rat: SetFrac.
-/
import Derived.Test.YtogmjjaoflaogaaGreatDoorBigQ
namespace Go.Proofs.YtogmjjaoflaogaaGreatDoor
open Go.RowKit

/-- A Rat's four cells, that may be written. -/
structure RSlot (w : World) (p : Nat) : Prop where
  a : Slot w p 0
  b : Slot w p 2
theorem RSlot.gr {w w' : World} {p : Nat} (h : RSlot w p) (k : Gr w w') : RSlot w' p := ⟨h.a.gr k, h.b.gr k⟩

/-- A whole Int stored. -/
theorem int_store {w : World} {p o : Nat} {x : Int} {a : Option Addr} {n c : Nat} (hs : Slot w p o) (h : Num w (.slice a n c) x.natAbs) :
    Holds ((w.setCell ⟨p, o, none⟩ (.bool (decide (x < 0)))).setCell ⟨p, o + 1, none⟩ (.slice a n c)) p o x ∧ Only p o w ((w.setCell ⟨p, o, none⟩ (.bool (decide (x < 0)))).setCell ⟨p, o + 1, none⟩ (.slice a n c)) := by
  have ho : Only p o w ((w.setCell ⟨p, o, none⟩ (.bool (decide (x < 0)))).setCell ⟨p, o + 1, none⟩ (.slice a n c)) := ⟨fun u hu hp => (hu.setCell hp _).setCell hp _, by simp, fun q i _ ho => by
    rw [World.cell?_setCell_other _ _ _ _ (by simp <;> omega), World.cell?_setCell_other _ _ _ _ (by simp <;> omega)], fun q i _ => by simp, fun q _ hne => (Below.heap_setCell _ _ _ _ hne).trans (Below.heap_setCell _ _ _ _ hne)⟩
  have hs0 := hs
  obtain ⟨h0, ⟨b0, h1⟩, ⟨a1, n1, q1, h2⟩, h3, h4⟩ := hs
  have e0 : ((w.setCell ⟨p, o, none⟩ (.bool (decide (x < 0)))).setCell ⟨p, o + 1, none⟩ (.slice a n c)).cell? ⟨p, o, none⟩ = some (.bool (decide (x < 0))) := by
    rw [World.cell?_setCell_other _ _ _ _ (by simp)]; exact World.cell?_setCell_same _ _ _ (u := .bool b0) h1
  have e1 : ((w.setCell ⟨p, o, none⟩ (.bool (decide (x < 0)))).setCell ⟨p, o + 1, none⟩ (.slice a n c)).cell? ⟨p, o + 1, none⟩ = some (.slice a n c) :=
    World.cell?_setCell_same _ _ _ (u := .slice a1 n1 q1) (by rw [World.cell?_setCell_other _ _ _ _ (by simp)]; exact h2)
  exact ⟨⟨⟨by simpa using h0, ⟨_, e0⟩, ⟨_, _, _, e1⟩, by simpa using h3, by simpa using h4⟩, e0, _, e1, h.only hs0 ho⟩, ho⟩

set_option maxRecDepth 100000 in
set_option maxHeartbeats 8000000 in
theorem setFrac_any (p q r s t : Nat) (x : Int) (y : Nat) (w : World) (hz : RSlot w p) (hx : IntAt w q r x) (hy : IntAt w s t (y : Int)) (hok : NormOk x.natAbs y) :
    Calls Tryz.prog 57 #[.pointer (some ⟨p, 0, none⟩), .pointer (some ⟨q, r, none⟩), .pointer (some ⟨s, t, none⟩)] w fun e w' =>
      e = .returned (.pointer (some ⟨p, 0, none⟩)) ∧ RatAt w' p (x / ((Nat.gcd x.natAbs y : Nat) : Int)) (y / Nat.gcd x.natAbs y) ∧ Kept p w w' := by
  have HX := Lib.hid hx
  have HY := Lib.hid hy
  have HZ := Lib.hid hz
  have HOK := Lib.hid hok
  obtain ⟨_, s', n', c', e1, hN'⟩ := hy.open
  rw [Int.natAbs_natCast] at hN'
  have hp := hN'.pos hok.pos
  obtain ⟨_, _, _, f1, hn', _⟩ := hN'.shape
  simp at f1
  obtain ⟨rfl, rfl, rfl⟩ := f1
  have b2 : ((n' : Int) == 0) = false := by simp; omega
  have b3 : (n' : Int) ≤ 1000000 := by omega
  have HNN := Lib.hid (fun (u : World) (k : Gr u u) => slot_new u rfl)
  have HGA := Lib.hid (fun (u : World) => (Gr.refl u).alloc (.cells #[.bool false, .slice none 0 0] 82))
  have HL := Lib.hid hz.a.lt
  clear hx hy hz hok hN'
  have tok1 := trivial
  go_enter Tryz.func57, Tryz.ntmps57
  go_wp2_with (first
    | (go_at_call 62; have _ := tok1; refine (set_any w.heap.size 0 q r x _ (slot_new w rfl) (HX.out.gr (HGA.out w))).mono ?_; rintro e w1 ⟨rfl, hh, ho⟩; have HH1 := Lib.hid hh; have HG1 := Lib.hid (ho.gr w (HGA.out w) (Nat.le_refl _)); have HS1 := Lib.hid ho.size; clear hh ho tok1; have tok2 := trivial))
  go_at_call 62; refine (set_any w1.heap.size 0 s t y _ (slot_new w1 rfl) (HY.out.gr (HG1.out.trans (HGA.out w1)))).mono ?_; rintro e w2 ⟨rfl, hh, ho⟩; have HG2 := Lib.hid (ho.gr w1 (HGA.out w1) (Nat.le_refl _)); have HH2 := Lib.hid hh; obtain ⟨k0, a1, n1, q1, k1, hk⟩ := (HH1.out.int.gr HG2.out).open; obtain ⟨m0, a2, n2, q2, m1, hm⟩ := hh.int.open; have HK := Lib.hid hk; have HM := Lib.hid hm
  have HZ2 := Lib.hid (HZ.out.gr (HG1.out.trans HG2.out))
  obtain ⟨z0, hz0⟩ := HZ2.out.a.neg
  obtain ⟨z1, z11, z12, hz1⟩ := HZ2.out.a.abs
  obtain ⟨z2, hz2⟩ := HZ2.out.b.neg
  obtain ⟨z3, z31, z32, hz3⟩ := HZ2.out.b.abs
  have hf0 : w2.frozen? ⟨p, 0, none⟩ = false := HZ2.out.a.f0
  have hf1 : w2.frozen? ⟨p, 1, none⟩ = false := HZ2.out.a.f1
  have hf2 : w2.frozen? ⟨p, 2, none⟩ = false := HZ2.out.b.f0
  have hf3 : w2.frozen? ⟨p, 3, none⟩ = false := HZ2.out.b.f1
  have hne : w1.heap.size ≠ p := by have := HL.out; have := HG1.out.size; omega
  rw [decide_eq_false (Int.not_lt.2 (Int.natCast_nonneg y))] at m0
  have y0 : ((w2.setCell ⟨p, 0, none⟩ (.bool (decide (x < 0)))).setCell ⟨p, 1, none⟩ (.slice a1 n1 q1)).cell? ⟨w1.heap.size, 0, none⟩ = some (.bool false) := by
    rw [World.cell?_setCell_other _ _ _ _ (by simp <;> omega), World.cell?_setCell_other _ _ _ _ (by simp <;> omega)]; exact m0
  have y1 : ((w2.setCell ⟨p, 0, none⟩ (.bool (decide (x < 0)))).setCell ⟨p, 1, none⟩ (.slice a1 n1 q1)).cell? ⟨w1.heap.size, 1, none⟩ = some (.slice a2 n2 q2) := by
    rw [World.cell?_setCell_other _ _ _ _ (by simp <;> omega), World.cell?_setCell_other _ _ _ _ (by simp <;> omega)]; exact m1
  have hi1 := int_store HZ2.out.a HK.out
  have s2 := HZ2.out.b.only hi1.2 (.inr (by omega))
  have hi2 := int_store (x := (y : Int)) s2 (HM.out.only HZ2.out.a hi1.2)
  rw [decide_eq_false (Int.not_lt.2 (Int.natCast_nonneg y))] at hi2
  have HI1 := Lib.hid (hi1.1.only s2 hi2.2 (.inr (by omega)))
  have HI2 := Lib.hid hi2.1
  have HKP := Lib.hid ((Kept.of_gr (HG1.out.trans HG2.out)).trans (hi1.2.kept.trans hi2.2.kept))
  clear hh ho tok2 hk hm hi1 hi2 s2 hne
  go_wp2_with (first
    | (go_at_call 71; refine (norm_any p x y _ HI1.out.slot HI2.out.slot HI1.out.int HI2.out.int HOK.out).mono ?_; rintro e w5 ⟨rfl, hr, hk5⟩; have HR := Lib.hid hr; have HK5 := Lib.hid (HKP.out.trans hk5); clear hr hk5))
  go_ret
  exact ⟨rfl, HR.out, HK5.out⟩
end Go.Proofs.YtogmjjaoflaogaaGreatDoor

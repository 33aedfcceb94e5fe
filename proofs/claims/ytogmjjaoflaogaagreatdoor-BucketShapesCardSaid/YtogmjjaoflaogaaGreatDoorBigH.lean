/-
  millracebig.Int: Set, Neg, Mul, Add, Sub, Uint64, Int64.
-/
import Derived.Test.YtogmjjaoflaogaaGreatDoorBigG
import Derived.Deep.RegionWith
namespace Go.Proofs.YtogmjjaoflaogaaGreatDoor
open Go.RowKit

theorem IntAt.open {w : World} {p o : Nat} {x : Int} (h : IntAt w p o x) : w.cell? ⟨p, o, none⟩ = some (.bool (decide (x < 0))) ∧ ∃ a n c, w.cell? ⟨p, o + 1, none⟩ = some (.slice a n c) ∧ Num w (.slice a n c) x.natAbs := by
  obtain ⟨h1, v, h2, h3⟩ := h
  obtain ⟨a, n, c, rfl, _⟩ := h3.shape
  exact ⟨h1, a, n, c, h2, h3⟩
theorem signed_not {a : Int} : signed (!decide (a < 0)) a.natAbs = -a := by unfold signed; by_cases h : a < 0 <;> simp [h] <;> omega

set_option maxRecDepth 100000 in
set_option maxHeartbeats 4000000 in
theorem set_any (p o q r : Nat) (x : Int) (w : World) (hs : Slot w p o) (hx : IntAt w q r x) :
    Calls Tryz.prog 62 #[.pointer (some ⟨p, o, none⟩), .pointer (some ⟨q, r, none⟩)] w (Gave p o x w) := by
  obtain ⟨c0, a, n, c, c1, hN⟩ := hx.open
  have C0 := Lib.hid c0
  have C1 := Lib.hid c1
  have H := Lib.hid hN
  have HS := Lib.hid hs
  have HO := Lib.hid (signed_of (a := x))
  clear hN hs hx
  generalize decide (x < 0) = b at *
  go_enter Tryz.func62, Tryz.ntmps62
  go_wp2
  go_region_with (first
      | (go_at_call 75; refine (twin_any _ (H.out.gr ((Gr.refl w).drew))).mono ?_; rintro e w1 ⟨⟨r', rfl, hr⟩, hg1⟩; have d0 := (((Gr.refl w).drew).trans hg1).cell C0.out; have d1 := (((Gr.refl w).drew).trans hg1).cell C1.out; have HR := Lib.hid hr; have HG1 := Lib.hid hg1; clear hr hg1)
      | (go_at_call 65; refine (give_any p o b _ (HS.out.gr (((Gr.refl w).drew).trans HG1.out)) HR.out).mono ?_; rintro e w2 ⟨rfl, hh, ho⟩; rw [HO.out] at hh; have HH := Lib.hid hh; have HOO := Lib.hid ((Only.of_gr (((Gr.refl w).drew).trans HG1.out)).trans ho); clear hh ho))
  all_goals
    go_wp2
    go_ret
    exact ⟨rfl, HH.out, HOO.out⟩

set_option maxRecDepth 100000 in
set_option maxHeartbeats 4000000 in
theorem neg_any (p o q r : Nat) (x : Int) (w : World) (hs : Slot w p o) (hx : IntAt w q r x) :
    Calls Tryz.prog 69 #[.pointer (some ⟨p, o, none⟩), .pointer (some ⟨q, r, none⟩)] w (Gave p o (-x) w) := by
  obtain ⟨c0, a, n, c, c1, hN⟩ := hx.open
  have C0 := Lib.hid c0
  have C1 := Lib.hid c1
  have H := Lib.hid hN
  have HS := Lib.hid hs
  have HO := Lib.hid (signed_not (a := x))
  clear hN hs hx
  generalize decide (x < 0) = b at *
  generalize hb : (!b) = b' at *
  go_enter Tryz.func69, Tryz.ntmps69
  go_wp2
  go_region_with (first
      | (go_at_call 75; refine (twin_any _ (H.out.gr ((Gr.refl w).drew))).mono ?_; rintro e w1 ⟨⟨r', rfl, hr⟩, hg1⟩; have d0 := (((Gr.refl w).drew).trans hg1).cell C0.out; have d1 := (((Gr.refl w).drew).trans hg1).cell C1.out; have HR := Lib.hid hr; have HG1 := Lib.hid hg1; clear hr hg1)
      | (go_at_call 65; refine (give_any p o b' _ (HS.out.gr (((Gr.refl w).drew).trans HG1.out)) HR.out).mono ?_; rintro e w2 ⟨rfl, hh, ho⟩; rw [HO.out] at hh; have HH := Lib.hid hh; have HOO := Lib.hid ((Only.of_gr (((Gr.refl w).drew).trans HG1.out)).trans ho); clear hh ho))
  all_goals
    go_wp2
    go_ret
    exact ⟨rfl, HH.out, HOO.out⟩
end Go.Proofs.YtogmjjaoflaogaaGreatDoor

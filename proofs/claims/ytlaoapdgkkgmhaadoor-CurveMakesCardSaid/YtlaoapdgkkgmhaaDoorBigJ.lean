/-
  millracebig.Int: Add, z one of the two perhaps.
-/
import Derived.Test.YtlaoapdgkkgmhaaDoorBigI
import Derived.Deep.RegionWith
namespace Go.Proofs.YtlaoapdgkkgmhaaDoor
open Go.RowKit

set_option maxRecDepth 100000 in
set_option maxHeartbeats 8000000 in
theorem iadd_any (p o q r s t : Nat) (x y : Int) (w : World) (hs : Slot w p o) (hx : IntAt w q r x) (hy : IntAt w s t y) (bx : LtB x.natAbs 40) (bY : LtB y.natAbs 40) :
    Calls Tryd.prog 52 #[.pointer (some ⟨p, o, none⟩), .pointer (some ⟨q, r, none⟩), .pointer (some ⟨s, t, none⟩)] w (Gave p o (x + y) w) := by
  obtain ⟨c0, a, n, c, c1, hN⟩ := hx.open
  obtain ⟨e0, a', n', c', e1, hN'⟩ := hy.open
  have H := Lib.hid hN
  have H' := Lib.hid hN'
  have HS := Lib.hid hs
  have HO : Hid (signed (decide (x < 0)) x.natAbs + signed (decide (y < 0)) y.natAbs = x + y) := Lib.hid (by rw [signed_of, signed_of])
  clear hN hs hx hy hN'
  generalize decide (x < 0) = b at *
  generalize decide (y < 0) = b2 at *
  go_enter Tryd.func52, Tryd.ntmps52
  go_wp2
  go_region_with (first
      | (go_at_call 62; refine (sum_any b b2 _ (H.out.gr ((Gr.refl w).drew)) (H'.out.gr ((Gr.refl w).drew)) bx bY).mono ?_; rintro e w1 ⟨⟨b3, r', N, rfl, hr, hsg⟩, hg1⟩; have HG1 := Lib.hid hg1; clear hg1)
      | (go_at_call 46; refine (give_any p o b3 _ (HS.out.gr (((Gr.refl w).drew).trans HG1.out)) hr).mono ?_; rintro e w2 ⟨rfl, hh, ho⟩))
  all_goals
    rw [hsg, HO.out] at hh
    have HH := Lib.hid hh
    have HOO := Lib.hid ((Only.of_gr (((Gr.refl w).drew).trans HG1.out)).trans ho)
    clear hh ho hr hsg
    go_wp2
    go_ret
    exact ⟨rfl, HH.out, HOO.out⟩
end Go.Proofs.YtlaoapdgkkgmhaaDoor

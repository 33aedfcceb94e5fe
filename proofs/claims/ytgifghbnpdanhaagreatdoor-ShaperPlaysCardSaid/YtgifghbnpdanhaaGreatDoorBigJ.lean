/-
  millracebig.Int: Add, z one of the two perhaps. (Printed by gensum.py.) millracebig.Int: Sub, z one of the two perhaps. (Printed by gensum.py.)
-/
import Derived.Test.YtgifghbnpdanhaaGreatDoorRegOps
namespace Go.Proofs.YtgifghbnpdanhaaGreatDoor
open Go.RowKit

set_option maxRecDepth 100000 in
set_option maxHeartbeats 8000000 in
theorem iadd_any (p o q r s t : Nat) (x y : Int) (w : World) (hs : Slot w p o) (hx : IntAt w q r x) (hy : IntAt w s t y) (bx : LtB x.natAbs 40) (bY : LtB y.natAbs 40) :
    Calls Tryz.prog 133 #[.pointer (some ⟨p, o, none⟩), .pointer (some ⟨q, r, none⟩), .pointer (some ⟨s, t, none⟩)] w (Gave p o (x + y) w) := by
  obtain ⟨c0, ad, n, c, c1, hN⟩ := hx.open
  obtain ⟨e0, ad', n', c', e1, hN'⟩ := hy.open
  have H := Lib.hid hN
  have H' := Lib.hid hN'
  have HS := Lib.hid hs
  have HO : Hid (signed (decide (x < 0)) x.natAbs + signed (decide (y < 0)) y.natAbs = x + y) := Lib.hid (by rw [signed_of, signed_of])
  clear hN hs hx hy hN'
  generalize decide (x < 0) = b at *
  generalize decide (y < 0) = b2 at *
  have C0 := Lib.hid c0
  have C1 := Lib.hid c1
  have E0 := Lib.hid e0
  have E1 := Lib.hid e1
  clear c0 c1 e0 e1
  go_enter Tryz.func133, Tryz.ntmps133
  go_wp2
  refine wp_region_gr (n := 20) [Fg.eq (.pointer (some ⟨p, o, none⟩)), Fg.eq (.pointer (some ⟨q, r, none⟩)), Fg.eq (.pointer (some ⟨q, r, none⟩)), Fg.eq (.pointer (some ⟨q, r, none⟩)), Fg.eq (.bool b), Fg.eq (.pointer (some ⟨q, r, none⟩)), Fg.eq (.pointer (some ⟨q, r, none⟩)), Fg.eq (.pointer (some ⟨q, r + 1, none⟩)), Fg.eq (.slice ad n c), Fg.eq (.pointer (some ⟨s, t, none⟩)), Fg.eq (.pointer (some ⟨s, t, none⟩)), Fg.eq (.pointer (some ⟨s, t, none⟩)), Fg.eq (.bool b2), Fg.eq (.pointer (some ⟨s, t, none⟩)), Fg.eq (.pointer (some ⟨s, t, none⟩)), Fg.eq (.pointer (some ⟨s, t + 1, none⟩)), Fg.eq (.slice ad' n' c'), Fg.sum (sumB b b2 x.natAbs y.natAbs) (sumN b b2 x.natAbs y.natAbs), Fg.eq (.bool (sumB b b2 x.natAbs y.natAbs)), Fg.num (sumN b b2 x.natAbs y.natAbs)] [7, 8, 9, 10, 11, 12, 13, 14, 15, 16, 17, 18, 19, 20, 21, 22, 23, 24, 25, 26] (by kernel_rfl) (by kernel_rfl) (by kernel_rfl) ?_ ?_
  · intro L i o a w1 hi ho hA
    have hgr : Gr w w1 := (Gr.refl w).drew.trans hA.gr
    match i, hi with
    | 0, _ =>
      obtain rfl := Option.some.inj ho
      exact gstep_val (r_move rfl (hA.other 0 (by decide))) rfl
    | 1, _ =>
      obtain rfl := Option.some.inj ho
      exact gstep_val (r_move rfl (hA.other 1 (by decide))) rfl
    | 2, _ =>
      obtain rfl := Option.some.inj ho
      exact gstep_val (r_nil rfl (hA.fact 1 (hA.dep 1 (by kernel_rfl) (by decide)))) rfl
    | 3, _ =>
      obtain rfl := Option.some.inj ho
      exact gstep_val (r_int0 rfl (hA.fact 2 (hA.dep 2 (by kernel_rfl) (by decide)))) rfl
    | 4, _ =>
      obtain rfl := Option.some.inj ho
      exact gstep_val (r_loadB rfl (hA.fact 3 (hA.dep 3 (by kernel_rfl) (by decide))) (hgr.cell C0.out)) rfl
    | 5, _ =>
      obtain rfl := Option.some.inj ho
      exact gstep_val (r_move rfl (hA.other 1 (by decide))) rfl
    | 6, _ =>
      obtain rfl := Option.some.inj ho
      exact gstep_val (r_nil rfl (hA.fact 5 (hA.dep 5 (by kernel_rfl) (by decide)))) rfl
    | 7, _ =>
      obtain rfl := Option.some.inj ho
      exact gstep_val (r_int1 rfl (hA.fact 6 (hA.dep 6 (by kernel_rfl) (by decide)))) rfl
    | 8, _ =>
      obtain rfl := Option.some.inj ho
      exact gstep_val (r_loadS rfl (hA.fact 7 (hA.dep 7 (by kernel_rfl) (by decide))) (hgr.cell C1.out)) rfl
    | 9, _ =>
      obtain rfl := Option.some.inj ho
      exact gstep_val (r_move rfl (hA.other 2 (by decide))) rfl
    | 10, _ =>
      obtain rfl := Option.some.inj ho
      exact gstep_val (r_nil rfl (hA.fact 9 (hA.dep 9 (by kernel_rfl) (by decide)))) rfl
    | 11, _ =>
      obtain rfl := Option.some.inj ho
      exact gstep_val (r_int0 rfl (hA.fact 10 (hA.dep 10 (by kernel_rfl) (by decide)))) rfl
    | 12, _ =>
      obtain rfl := Option.some.inj ho
      exact gstep_val (r_loadB rfl (hA.fact 11 (hA.dep 11 (by kernel_rfl) (by decide))) (hgr.cell E0.out)) rfl
    | 13, _ =>
      obtain rfl := Option.some.inj ho
      exact gstep_val (r_move rfl (hA.other 2 (by decide))) rfl
    | 14, _ =>
      obtain rfl := Option.some.inj ho
      exact gstep_val (r_nil rfl (hA.fact 13 (hA.dep 13 (by kernel_rfl) (by decide)))) rfl
    | 15, _ =>
      obtain rfl := Option.some.inj ho
      exact gstep_val (r_int1 rfl (hA.fact 14 (hA.dep 14 (by kernel_rfl) (by decide)))) rfl
    | 16, _ =>
      obtain rfl := Option.some.inj ho
      exact gstep_val (r_loadS rfl (hA.fact 15 (hA.dep 15 (by kernel_rfl) (by decide))) (hgr.cell E1.out)) rfl
    | 17, _ =>
      obtain rfl := Option.some.inj ho
      refine gstep_call (r_call4 rfl rfl cf_sum (hA.fact 4 (hA.dep 4 (by kernel_rfl) (by decide))) (hA.fact 8 (hA.dep 8 (by kernel_rfl) (by decide))) (hA.fact 12 (hA.dep 12 (by kernel_rfl) (by decide))) (hA.fact 16 (hA.dep 16 (by kernel_rfl) (by decide)))) ?_
      refine (sum_any b b2 w1 (H.out.gr hgr) (H'.out.gr hgr) bx bY).mono ?_
      rintro e w2 ⟨⟨r', rfl, hr⟩, hg⟩
      exact ⟨_, rfl, hg, r', rfl, hr⟩
    | 18, _ =>
      obtain rfl := Option.some.inj ho
      obtain ⟨r', hv, _⟩ := (hA.fact 17 (hA.dep 17 (by kernel_rfl) (by decide)))
      exact gstep_val (r_ext0 rfl hv) rfl
    | 19, _ =>
      obtain rfl := Option.some.inj ho
      obtain ⟨r', hv, hn⟩ := (hA.fact 17 (hA.dep 17 (by kernel_rfl) (by decide)))
      exact gstep_val (r_ext1 rfl hv) hn
    | k + 20, hk => exact absurd (show k + 20 < 20 from hk) (by omega)
  · intro vs w1 hg hv
    have HG := Lib.hid ((Gr.refl w).drew.trans hg)
    have v0 : vs 0 = (.pointer (some ⟨p, o, none⟩)) := hv 0 (by omega)
    have v1 : vs 18 = (.bool (sumB b b2 x.natAbs y.natAbs)) := hv 18 (by omega)
    have hn : Num w1 (vs 19) (sumN b b2 x.natAbs y.natAbs) := hv 19 (by omega)
    have HN := Lib.hid hn
    have HSG := Lib.hid (signed_sum b b2 x.natAbs y.natAbs)
    clear hv hg hn
    simp only [putN, List.drop_succ_cons, List.drop_zero, List.getElem?_cons_succ, List.getElem?_cons_zero]
    generalize vs 19 = u2 at *
    generalize vs 18 = u1 at *
    generalize vs 0 = u0 at *
    subst v0 v1
    generalize sumB b b2 x.natAbs y.natAbs = b3 at *
    go_wp2_with (go_at_call 49; refine (give_any p o b3 _ (HS.out.gr HG.out) HN.out).mono ?_; rintro e w3 ⟨rfl, hh, ho⟩; rw [HSG.out, HO.out] at hh; have HH := Lib.hid hh; have HOO := Lib.hid ((Only.of_gr HG.out).trans ho); clear hh ho)
    go_ret
    exact ⟨rfl, HH.out, HOO.out⟩

set_option maxRecDepth 100000 in
set_option maxHeartbeats 8000000 in
theorem isub_any (p o q r s t : Nat) (x y : Int) (w : World) (hs : Slot w p o) (hx : IntAt w q r x) (hy : IntAt w s t y) (bx : LtB x.natAbs 40) (bY : LtB y.natAbs 40) :
    Calls Tryz.prog 127 #[.pointer (some ⟨p, o, none⟩), .pointer (some ⟨q, r, none⟩), .pointer (some ⟨s, t, none⟩)] w (Gave p o (x - y) w) := by
  obtain ⟨c0, ad, n, c, c1, hN⟩ := hx.open
  obtain ⟨e0, ad', n', c', e1, hN'⟩ := hy.open
  have H := Lib.hid hN
  have H' := Lib.hid hN'
  have HS := Lib.hid hs
  have HO : Hid (signed (decide (x < 0)) x.natAbs + signed (!decide (y < 0)) y.natAbs = x - y) := Lib.hid (by rw [signed_of, signed_not]; omega)
  clear hN hs hx hy hN'
  generalize decide (x < 0) = b at *
  generalize decide (y < 0) = b2 at *
  have C0 := Lib.hid c0
  have C1 := Lib.hid c1
  have E0 := Lib.hid e0
  have E1 := Lib.hid e1
  clear c0 c1 e0 e1
  go_enter Tryz.func127, Tryz.ntmps127
  go_wp2
  refine wp_region_gr (n := 21) [Fg.eq (.pointer (some ⟨p, o, none⟩)), Fg.eq (.pointer (some ⟨q, r, none⟩)), Fg.eq (.pointer (some ⟨q, r, none⟩)), Fg.eq (.pointer (some ⟨q, r, none⟩)), Fg.eq (.bool b), Fg.eq (.pointer (some ⟨q, r, none⟩)), Fg.eq (.pointer (some ⟨q, r, none⟩)), Fg.eq (.pointer (some ⟨q, r + 1, none⟩)), Fg.eq (.slice ad n c), Fg.eq (.pointer (some ⟨s, t, none⟩)), Fg.eq (.pointer (some ⟨s, t, none⟩)), Fg.eq (.pointer (some ⟨s, t, none⟩)), Fg.eq (.bool b2), Fg.eq (.bool (!b2)), Fg.eq (.pointer (some ⟨s, t, none⟩)), Fg.eq (.pointer (some ⟨s, t, none⟩)), Fg.eq (.pointer (some ⟨s, t + 1, none⟩)), Fg.eq (.slice ad' n' c'), Fg.sum (sumB b (!b2) x.natAbs y.natAbs) (sumN b (!b2) x.natAbs y.natAbs), Fg.eq (.bool (sumB b (!b2) x.natAbs y.natAbs)), Fg.num (sumN b (!b2) x.natAbs y.natAbs)] [7, 8, 9, 10, 11, 12, 13, 14, 15, 16, 17, 18, 19, 20, 21, 22, 23, 24, 25, 26, 27] (by kernel_rfl) (by kernel_rfl) (by kernel_rfl) ?_ ?_
  · intro L i o a w1 hi ho hA
    have hgr : Gr w w1 := (Gr.refl w).drew.trans hA.gr
    match i, hi with
    | 0, _ =>
      obtain rfl := Option.some.inj ho
      exact gstep_val (r_move rfl (hA.other 0 (by decide))) rfl
    | 1, _ =>
      obtain rfl := Option.some.inj ho
      exact gstep_val (r_move rfl (hA.other 1 (by decide))) rfl
    | 2, _ =>
      obtain rfl := Option.some.inj ho
      exact gstep_val (r_nil rfl (hA.fact 1 (hA.dep 1 (by kernel_rfl) (by decide)))) rfl
    | 3, _ =>
      obtain rfl := Option.some.inj ho
      exact gstep_val (r_int0 rfl (hA.fact 2 (hA.dep 2 (by kernel_rfl) (by decide)))) rfl
    | 4, _ =>
      obtain rfl := Option.some.inj ho
      exact gstep_val (r_loadB rfl (hA.fact 3 (hA.dep 3 (by kernel_rfl) (by decide))) (hgr.cell C0.out)) rfl
    | 5, _ =>
      obtain rfl := Option.some.inj ho
      exact gstep_val (r_move rfl (hA.other 1 (by decide))) rfl
    | 6, _ =>
      obtain rfl := Option.some.inj ho
      exact gstep_val (r_nil rfl (hA.fact 5 (hA.dep 5 (by kernel_rfl) (by decide)))) rfl
    | 7, _ =>
      obtain rfl := Option.some.inj ho
      exact gstep_val (r_int1 rfl (hA.fact 6 (hA.dep 6 (by kernel_rfl) (by decide)))) rfl
    | 8, _ =>
      obtain rfl := Option.some.inj ho
      exact gstep_val (r_loadS rfl (hA.fact 7 (hA.dep 7 (by kernel_rfl) (by decide))) (hgr.cell C1.out)) rfl
    | 9, _ =>
      obtain rfl := Option.some.inj ho
      exact gstep_val (r_move rfl (hA.other 2 (by decide))) rfl
    | 10, _ =>
      obtain rfl := Option.some.inj ho
      exact gstep_val (r_nil rfl (hA.fact 9 (hA.dep 9 (by kernel_rfl) (by decide)))) rfl
    | 11, _ =>
      obtain rfl := Option.some.inj ho
      exact gstep_val (r_int0 rfl (hA.fact 10 (hA.dep 10 (by kernel_rfl) (by decide)))) rfl
    | 12, _ =>
      obtain rfl := Option.some.inj ho
      exact gstep_val (r_loadB rfl (hA.fact 11 (hA.dep 11 (by kernel_rfl) (by decide))) (hgr.cell E0.out)) rfl
    | 13, _ =>
      obtain rfl := Option.some.inj ho
      exact gstep_val (r_not rfl (hA.fact 12 (hA.dep 12 (by kernel_rfl) (by decide)))) rfl
    | 14, _ =>
      obtain rfl := Option.some.inj ho
      exact gstep_val (r_move rfl (hA.other 2 (by decide))) rfl
    | 15, _ =>
      obtain rfl := Option.some.inj ho
      exact gstep_val (r_nil rfl (hA.fact 14 (hA.dep 14 (by kernel_rfl) (by decide)))) rfl
    | 16, _ =>
      obtain rfl := Option.some.inj ho
      exact gstep_val (r_int1 rfl (hA.fact 15 (hA.dep 15 (by kernel_rfl) (by decide)))) rfl
    | 17, _ =>
      obtain rfl := Option.some.inj ho
      exact gstep_val (r_loadS rfl (hA.fact 16 (hA.dep 16 (by kernel_rfl) (by decide))) (hgr.cell E1.out)) rfl
    | 18, _ =>
      obtain rfl := Option.some.inj ho
      refine gstep_call (r_call4 rfl rfl cf_sum (hA.fact 4 (hA.dep 4 (by kernel_rfl) (by decide))) (hA.fact 8 (hA.dep 8 (by kernel_rfl) (by decide))) (hA.fact 13 (hA.dep 13 (by kernel_rfl) (by decide))) (hA.fact 17 (hA.dep 17 (by kernel_rfl) (by decide)))) ?_
      refine (sum_any b (!b2) w1 (H.out.gr hgr) (H'.out.gr hgr) bx bY).mono ?_
      rintro e w2 ⟨⟨r', rfl, hr⟩, hg⟩
      exact ⟨_, rfl, hg, r', rfl, hr⟩
    | 19, _ =>
      obtain rfl := Option.some.inj ho
      obtain ⟨r', hv, _⟩ := (hA.fact 18 (hA.dep 18 (by kernel_rfl) (by decide)))
      exact gstep_val (r_ext0 rfl hv) rfl
    | 20, _ =>
      obtain rfl := Option.some.inj ho
      obtain ⟨r', hv, hn⟩ := (hA.fact 18 (hA.dep 18 (by kernel_rfl) (by decide)))
      exact gstep_val (r_ext1 rfl hv) hn
    | k + 21, hk => exact absurd (show k + 21 < 21 from hk) (by omega)
  · intro vs w1 hg hv
    have HG := Lib.hid ((Gr.refl w).drew.trans hg)
    have v0 : vs 0 = (.pointer (some ⟨p, o, none⟩)) := hv 0 (by omega)
    have v1 : vs 19 = (.bool (sumB b (!b2) x.natAbs y.natAbs)) := hv 19 (by omega)
    have hn : Num w1 (vs 20) (sumN b (!b2) x.natAbs y.natAbs) := hv 20 (by omega)
    have HN := Lib.hid hn
    have HSG := Lib.hid (signed_sum b (!b2) x.natAbs y.natAbs)
    clear hv hg hn
    simp only [putN, List.drop_succ_cons, List.drop_zero, List.getElem?_cons_succ, List.getElem?_cons_zero]
    generalize vs 20 = u2 at *
    generalize vs 19 = u1 at *
    generalize vs 0 = u0 at *
    subst v0 v1
    generalize sumB b (!b2) x.natAbs y.natAbs = b3 at *
    go_wp2_with (go_at_call 49; refine (give_any p o b3 _ (HS.out.gr HG.out) HN.out).mono ?_; rintro e w3 ⟨rfl, hh, ho⟩; rw [HSG.out, HO.out] at hh; have HH := Lib.hid hh; have HOO := Lib.hid ((Only.of_gr HG.out).trans ho); clear hh ho)
    go_ret
    exact ⟨rfl, HH.out, HOO.out⟩
end Go.Proofs.YtgifghbnpdanhaaGreatDoor

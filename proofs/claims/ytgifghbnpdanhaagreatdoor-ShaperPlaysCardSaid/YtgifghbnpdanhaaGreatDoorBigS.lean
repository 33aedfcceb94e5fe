/-
  millracebig.Rat: Mul. (Printed by genrat.py.) millracebig.Rat: Quo. (Printed by genrat.py.)
-/
import Derived.Test.YtgifghbnpdanhaaGreatDoorRegOps
namespace Go.Proofs.YtgifghbnpdanhaaGreatDoor
open Go.RowKit

def rmulK (z px py : Nat) (x y : Int) (dx dy : Nat) (j : Nat) : Fk :=
  [.val (.pointer (some ⟨z, 0, none⟩)),
    .new 0,
    .val (.pointer (some ⟨px, 0, none⟩)),
    .val (.pointer (some ⟨px, 0, none⟩)),
    .val (.pointer (some ⟨px, 0, none⟩)),
    .val (.pointer (some ⟨py, 0, none⟩)),
    .val (.pointer (some ⟨py, 0, none⟩)),
    .val (.pointer (some ⟨py, 0, none⟩)),
    .int 0 (x * y),
    .new 1,
    .val (.pointer (some ⟨px, 0, none⟩)),
    .val (.pointer (some ⟨px, 2, none⟩)),
    .val (.pointer (some ⟨py, 0, none⟩)),
    .val (.pointer (some ⟨py, 2, none⟩)),
    .int 1 ((dx : Int) * (dy : Int))].getD j (.val undef)

theorem rmulK_one {z px py : Nat} {x y : Int} {dx dy : Nat} (t i : Nat) (h : (List.range 15).all (fun j => !((rmulK z px py x y dx dy j).isInt t) || decide (j = i)) = true) (j : Nat) (u : Int) (hj : rmulK z px py x y dx dy j = .int t u) : j = i := by
  rcases Nat.lt_or_ge j 15 with h1 | h1
  · have := List.all_eq_true.1 h j (List.mem_range.2 h1)
    rw [hj] at this
    simpa [Fk.isInt] using this
  · unfold rmulK at hj
    rw [List.getD_eq_getElem?_getD, List.getElem?_eq_none (by simpa using h1)] at hj
    cases hj

set_option maxRecDepth 100000 in
set_option maxHeartbeats 8000000 in
theorem rmul_any (z px py : Nat) (x y : Int) (dx dy : Nat) (w : World) (hz : RSlot w z) (hx : RatAt w px x dx) (hy : RatAt w py y dy) (bx : LtB x.natAbs 40) (bY : LtB y.natAbs 40) (cx : LtB dx 40) (cy : LtB dy 40) (hok : NormOk (x * y).natAbs (dx * dy)) :
    Calls Tryz.prog 125 #[.pointer (some ⟨z, 0, none⟩), .pointer (some ⟨px, 0, none⟩), .pointer (some ⟨py, 0, none⟩)] w fun e w' =>
      e = .returned (.pointer (some ⟨z, 0, none⟩)) ∧ RatAt w' z ((x * y) / ((Nat.gcd (x * y).natAbs (dx * dy) : Nat) : Int)) ((dx * dy) / Nat.gcd (x * y).natAbs (dx * dy)) ∧ Kept z w w' := by
  have HX := Lib.hid hx
  have HY := Lib.hid hy
  have HZ := Lib.hid hz
  have HOK := Lib.hid hok
  have hlx : px < w.heap.size := cell_lt hx.num.1
  have hly : py < w.heap.size := cell_lt hy.num.1
  have cx' : LtB (dx : Int).natAbs 40 := ⟨by rw [Int.natAbs_natCast]; exact cx.lt⟩
  have cy' : LtB (dy : Int).natAbs 40 := ⟨by rw [Int.natAbs_natCast]; exact cy.lt⟩
  clear hx hy hz hok
  go_enter Tryz.func125, Tryz.ntmps125
  go_wp2
  refine wp_region_ds (n := 15)  (F := fun j v w' => Sat w.drew.heap.size v w' (rmulK z px py x y dx dy j)) (C := tagsApart (rmulK z px py x y dx dy)) (ds := [7, 8, 9, 10, 11, 12, 13, 14, 15, 16, 17, 18, 19, 20, 21]) (by kernel_rfl) (by kernel_rfl) (by kernel_rfl) tagsApart_sym tagsApart_irr ?_ ?_
  · intro L i o a w1 hi ho hA
    have hgr : Gr w w1 := (Gr.refl w).drew.trans hA.gr
    match i, hi with
    | 0, _ =>
      obtain rfl := Option.some.inj ho
      exact step_val (u := (.pointer (some ⟨z, 0, none⟩))) hA rfl (r_move rfl (hA.other 0 (by decide)))
    | 1, _ =>
      obtain rfl := Option.some.inj ho
      exact step_alloc (t := 0) hA rfl (r_alloc rfl)
    | 2, _ =>
      obtain rfl := Option.some.inj ho
      exact step_val (u := (.pointer (some ⟨px, 0, none⟩))) hA rfl (r_move rfl (hA.other 1 (by decide)))
    | 3, _ =>
      obtain rfl := Option.some.inj ho
      exact step_val (u := (.pointer (some ⟨px, 0, none⟩))) hA rfl (r_nil rfl (hA.fact 2 (hA.dep 2 (by kernel_rfl) (by decide))))
    | 4, _ =>
      obtain rfl := Option.some.inj ho
      exact step_val (u := (.pointer (some ⟨px, 0, none⟩))) hA rfl (r_rat0 rfl (hA.fact 3 (hA.dep 3 (by kernel_rfl) (by decide))))
    | 5, _ =>
      obtain rfl := Option.some.inj ho
      exact step_val (u := (.pointer (some ⟨py, 0, none⟩))) hA rfl (r_move rfl (hA.other 2 (by decide)))
    | 6, _ =>
      obtain rfl := Option.some.inj ho
      exact step_val (u := (.pointer (some ⟨py, 0, none⟩))) hA rfl (r_nil rfl (hA.fact 5 (hA.dep 5 (by kernel_rfl) (by decide))))
    | 7, _ =>
      obtain rfl := Option.some.inj ho
      exact step_val (u := (.pointer (some ⟨py, 0, none⟩))) hA rfl (r_rat0 rfl (hA.fact 6 (hA.dep 6 (by kernel_rfl) (by decide))))
    | 8, _ =>
      obtain rfl := Option.some.inj ho
      obtain ⟨g, hg, hb, hs⟩ := (hA.fact 1 (hA.dep 1 (by kernel_rfl) (by decide)))
      refine step_call (r_call3 rfl rfl cf_mul hg (hA.fact 4 (hA.dep 4 (by kernel_rfl) (by decide))) (hA.fact 7 (hA.dep 7 (by kernel_rfl) (by decide)))) ?_
      refine (imul_any g 0 px 0 py 0 x y w1 hs (HX.out.gr hgr).num (HY.out.gr hgr).num bx bY (by have := hlx; have hb' : w.heap.size ≤ g := hb; omega) (by have := hly; have hb' : w.heap.size ≤ g := hb; omega)).mono ?_
      intro e w2 h
      obtain ⟨rfl, h2⟩ := h
      exact ⟨_, rfl, to_int hA (t := 0) (d := 1) rfl rfl (hA.dep 1 (by kernel_rfl) (by decide)) hg (rmulK_one 0 8 (by rfl)) ⟨rfl, h2⟩ hb hs⟩
    | 9, _ =>
      obtain rfl := Option.some.inj ho
      exact step_alloc (t := 1) hA rfl (r_alloc rfl)
    | 10, _ =>
      obtain rfl := Option.some.inj ho
      exact step_val (u := (.pointer (some ⟨px, 0, none⟩))) hA rfl (r_move rfl (hA.other 1 (by decide)))
    | 11, _ =>
      obtain rfl := Option.some.inj ho
      refine step_call (r_call1 rfl rfl cf_den (hA.fact 10 (hA.dep 10 (by kernel_rfl) (by decide)))) ?_
      refine (den_any px x dx w1 (HX.out.gr hgr)).mono ?_
      rintro e w2 ⟨rfl, rfl⟩
      exact ⟨_, rfl, to_val hA rfl⟩
    | 12, _ =>
      obtain rfl := Option.some.inj ho
      exact step_val (u := (.pointer (some ⟨py, 0, none⟩))) hA rfl (r_move rfl (hA.other 2 (by decide)))
    | 13, _ =>
      obtain rfl := Option.some.inj ho
      refine step_call (r_call1 rfl rfl cf_den (hA.fact 12 (hA.dep 12 (by kernel_rfl) (by decide)))) ?_
      refine (den_any py y dy w1 (HY.out.gr hgr)).mono ?_
      rintro e w2 ⟨rfl, rfl⟩
      exact ⟨_, rfl, to_val hA rfl⟩
    | 14, _ =>
      obtain rfl := Option.some.inj ho
      obtain ⟨g, hg, hb, hs⟩ := (hA.fact 9 (hA.dep 9 (by kernel_rfl) (by decide)))
      refine step_call (r_call3 rfl rfl cf_mul hg (hA.fact 11 (hA.dep 11 (by kernel_rfl) (by decide))) (hA.fact 13 (hA.dep 13 (by kernel_rfl) (by decide)))) ?_
      refine (imul_any g 0 px 2 py 2 dx dy w1 hs (HX.out.gr hgr).den (HY.out.gr hgr).den cx' cy' (by have := hlx; have hb' : w.heap.size ≤ g := hb; omega) (by have := hly; have hb' : w.heap.size ≤ g := hb; omega)).mono ?_
      intro e w2 h
      obtain ⟨rfl, h2⟩ := h
      exact ⟨_, rfl, to_int hA (t := 1) (d := 9) rfl rfl (hA.dep 9 (by kernel_rfl) (by decide)) hg (rmulK_one 1 14 (by rfl)) ⟨rfl, h2⟩ hb hs⟩
  · intro vs w1 hg hv
    have hgr : Gr w w1 := (Gr.refl w).drew.trans hg
    have v0 : vs 0 = .pointer (some ⟨z, 0, none⟩) := hv 0 (by omega)
    obtain ⟨g1, v1, _, h1⟩ := hv 8 (by omega)
    obtain ⟨g2, v2, _, h2⟩ := hv 14 (by omega)
    have H1 := Lib.hid h1
    have H2 := Lib.hid h2
    have HG := Lib.hid hgr
    clear hv h1 h2 hg hgr
    simp only [putN, List.drop_succ_cons, List.drop_zero, List.getElem?_cons_succ, List.getElem?_cons_zero]
    generalize vs 8 = u1 at *
    generalize vs 14 = u2 at *
    generalize vs 0 = u0 at *
    subst v0 v1 v2
    go_wp2_with (go_at_call 37; refine (setFrac_any z g1 0 g2 0 (x * y) (dx * dy) _ (HZ.out.gr HG.out) H1.out.int (by have := H2.out.int; rw [← Int.natCast_mul] at this; exact this) HOK.out).mono ?_; rintro e w2 ⟨rfl, hr, hk⟩; have HR := Lib.hid hr; have HK := Lib.hid ((Kept.of_gr HG.out).trans hk); clear hr hk)
    go_ret
    exact ⟨rfl, HR.out, HK.out⟩

def rquoK (z px py : Nat) (x y : Int) (dx dy : Nat) (j : Nat) : Fk :=
  [.val (.pointer (some ⟨z, 0, none⟩)),
    .new 0,
    .val (.pointer (some ⟨px, 0, none⟩)),
    .val (.pointer (some ⟨px, 0, none⟩)),
    .val (.pointer (some ⟨px, 0, none⟩)),
    .val (.pointer (some ⟨py, 0, none⟩)),
    .val (.pointer (some ⟨py, 2, none⟩)),
    .int 0 (x * (dy : Int)),
    .new 1,
    .val (.pointer (some ⟨px, 0, none⟩)),
    .val (.pointer (some ⟨px, 2, none⟩)),
    .val (.pointer (some ⟨py, 0, none⟩)),
    .val (.pointer (some ⟨py, 0, none⟩)),
    .val (.pointer (some ⟨py, 0, none⟩)),
    .int 1 ((dx : Int) * y)].getD j (.val undef)

theorem rquoK_one {z px py : Nat} {x y : Int} {dx dy : Nat} (t i : Nat) (h : (List.range 15).all (fun j => !((rquoK z px py x y dx dy j).isInt t) || decide (j = i)) = true) (j : Nat) (u : Int) (hj : rquoK z px py x y dx dy j = .int t u) : j = i := by
  rcases Nat.lt_or_ge j 15 with h1 | h1
  · have := List.all_eq_true.1 h j (List.mem_range.2 h1)
    rw [hj] at this
    simpa [Fk.isInt] using this
  · unfold rquoK at hj
    rw [List.getD_eq_getElem?_getD, List.getElem?_eq_none (by simpa using h1)] at hj
    cases hj

set_option maxRecDepth 100000 in
set_option maxHeartbeats 8000000 in
theorem rquo_any (z px py : Nat) (x y : Int) (dx dy yn : Nat) (hyn : y = (yn : Int)) (w : World) (hz : RSlot w z) (hx : RatAt w px x dx) (hy : RatAt w py y dy) (bx : LtB x.natAbs 40) (bY : LtB y.natAbs 40) (cx : LtB dx 40) (cy : LtB dy 40) (hok : NormOk (x * (dy : Int)).natAbs (dx * yn)) :
    Calls Tryz.prog 122 #[.pointer (some ⟨z, 0, none⟩), .pointer (some ⟨px, 0, none⟩), .pointer (some ⟨py, 0, none⟩)] w fun e w' =>
      e = .returned (.pointer (some ⟨z, 0, none⟩)) ∧ RatAt w' z ((x * (dy : Int)) / ((Nat.gcd (x * (dy : Int)).natAbs (dx * yn) : Nat) : Int)) ((dx * yn) / Nat.gcd (x * (dy : Int)).natAbs (dx * yn)) ∧ Kept z w w' := by
  have HX := Lib.hid hx
  have HY := Lib.hid hy
  have HZ := Lib.hid hz
  have HYN := Lib.hid hyn
  have HOK := Lib.hid hok
  have hlx : px < w.heap.size := cell_lt hx.num.1
  have hly : py < w.heap.size := cell_lt hy.num.1
  have cx' : LtB (dx : Int).natAbs 40 := ⟨by rw [Int.natAbs_natCast]; exact cx.lt⟩
  have cy' : LtB (dy : Int).natAbs 40 := ⟨by rw [Int.natAbs_natCast]; exact cy.lt⟩
  clear hx hy hz hok hyn
  go_enter Tryz.func122, Tryz.ntmps122
  go_wp2
  refine wp_region_ds (n := 15)  (F := fun j v w' => Sat w.drew.heap.size v w' (rquoK z px py x y dx dy j)) (C := tagsApart (rquoK z px py x y dx dy)) (ds := [7, 8, 9, 10, 11, 12, 13, 14, 15, 16, 17, 18, 19, 20, 21]) (by kernel_rfl) (by kernel_rfl) (by kernel_rfl) tagsApart_sym tagsApart_irr ?_ ?_
  · intro L i o a w1 hi ho hA
    have hgr : Gr w w1 := (Gr.refl w).drew.trans hA.gr
    match i, hi with
    | 0, _ =>
      obtain rfl := Option.some.inj ho
      exact step_val (u := (.pointer (some ⟨z, 0, none⟩))) hA rfl (r_move rfl (hA.other 0 (by decide)))
    | 1, _ =>
      obtain rfl := Option.some.inj ho
      exact step_alloc (t := 0) hA rfl (r_alloc rfl)
    | 2, _ =>
      obtain rfl := Option.some.inj ho
      exact step_val (u := (.pointer (some ⟨px, 0, none⟩))) hA rfl (r_move rfl (hA.other 1 (by decide)))
    | 3, _ =>
      obtain rfl := Option.some.inj ho
      exact step_val (u := (.pointer (some ⟨px, 0, none⟩))) hA rfl (r_nil rfl (hA.fact 2 (hA.dep 2 (by kernel_rfl) (by decide))))
    | 4, _ =>
      obtain rfl := Option.some.inj ho
      exact step_val (u := (.pointer (some ⟨px, 0, none⟩))) hA rfl (r_rat0 rfl (hA.fact 3 (hA.dep 3 (by kernel_rfl) (by decide))))
    | 5, _ =>
      obtain rfl := Option.some.inj ho
      exact step_val (u := (.pointer (some ⟨py, 0, none⟩))) hA rfl (r_move rfl (hA.other 2 (by decide)))
    | 6, _ =>
      obtain rfl := Option.some.inj ho
      refine step_call (r_call1 rfl rfl cf_den (hA.fact 5 (hA.dep 5 (by kernel_rfl) (by decide)))) ?_
      refine (den_any py y dy w1 (HY.out.gr hgr)).mono ?_
      rintro e w2 ⟨rfl, rfl⟩
      exact ⟨_, rfl, to_val hA rfl⟩
    | 7, _ =>
      obtain rfl := Option.some.inj ho
      obtain ⟨g, hg, hb, hs⟩ := (hA.fact 1 (hA.dep 1 (by kernel_rfl) (by decide)))
      refine step_call (r_call3 rfl rfl cf_mul hg (hA.fact 4 (hA.dep 4 (by kernel_rfl) (by decide))) (hA.fact 6 (hA.dep 6 (by kernel_rfl) (by decide)))) ?_
      refine (imul_any g 0 px 0 py 2 x dy w1 hs (HX.out.gr hgr).num (HY.out.gr hgr).den bx cy' (by have := hlx; have hb' : w.heap.size ≤ g := hb; omega) (by have := hly; have hb' : w.heap.size ≤ g := hb; omega)).mono ?_
      intro e w2 h
      obtain ⟨rfl, h2⟩ := h
      exact ⟨_, rfl, to_int hA (t := 0) (d := 1) rfl rfl (hA.dep 1 (by kernel_rfl) (by decide)) hg (rquoK_one 0 7 (by rfl)) ⟨rfl, h2⟩ hb hs⟩
    | 8, _ =>
      obtain rfl := Option.some.inj ho
      exact step_alloc (t := 1) hA rfl (r_alloc rfl)
    | 9, _ =>
      obtain rfl := Option.some.inj ho
      exact step_val (u := (.pointer (some ⟨px, 0, none⟩))) hA rfl (r_move rfl (hA.other 1 (by decide)))
    | 10, _ =>
      obtain rfl := Option.some.inj ho
      refine step_call (r_call1 rfl rfl cf_den (hA.fact 9 (hA.dep 9 (by kernel_rfl) (by decide)))) ?_
      refine (den_any px x dx w1 (HX.out.gr hgr)).mono ?_
      rintro e w2 ⟨rfl, rfl⟩
      exact ⟨_, rfl, to_val hA rfl⟩
    | 11, _ =>
      obtain rfl := Option.some.inj ho
      exact step_val (u := (.pointer (some ⟨py, 0, none⟩))) hA rfl (r_move rfl (hA.other 2 (by decide)))
    | 12, _ =>
      obtain rfl := Option.some.inj ho
      exact step_val (u := (.pointer (some ⟨py, 0, none⟩))) hA rfl (r_nil rfl (hA.fact 11 (hA.dep 11 (by kernel_rfl) (by decide))))
    | 13, _ =>
      obtain rfl := Option.some.inj ho
      exact step_val (u := (.pointer (some ⟨py, 0, none⟩))) hA rfl (r_rat0 rfl (hA.fact 12 (hA.dep 12 (by kernel_rfl) (by decide))))
    | 14, _ =>
      obtain rfl := Option.some.inj ho
      obtain ⟨g, hg, hb, hs⟩ := (hA.fact 8 (hA.dep 8 (by kernel_rfl) (by decide)))
      refine step_call (r_call3 rfl rfl cf_mul hg (hA.fact 10 (hA.dep 10 (by kernel_rfl) (by decide))) (hA.fact 13 (hA.dep 13 (by kernel_rfl) (by decide)))) ?_
      refine (imul_any g 0 px 2 py 0 dx y w1 hs (HX.out.gr hgr).den (HY.out.gr hgr).num cx' bY (by have := hlx; have hb' : w.heap.size ≤ g := hb; omega) (by have := hly; have hb' : w.heap.size ≤ g := hb; omega)).mono ?_
      intro e w2 h
      obtain ⟨rfl, h2⟩ := h
      exact ⟨_, rfl, to_int hA (t := 1) (d := 8) rfl rfl (hA.dep 8 (by kernel_rfl) (by decide)) hg (rquoK_one 1 14 (by rfl)) ⟨rfl, h2⟩ hb hs⟩
  · intro vs w1 hg hv
    have hgr : Gr w w1 := (Gr.refl w).drew.trans hg
    have v0 : vs 0 = .pointer (some ⟨z, 0, none⟩) := hv 0 (by omega)
    obtain ⟨g1, v1, _, h1⟩ := hv 7 (by omega)
    obtain ⟨g2, v2, _, h2⟩ := hv 14 (by omega)
    have H1 := Lib.hid h1
    have H2 := Lib.hid h2
    have HG := Lib.hid hgr
    clear hv h1 h2 hg hgr
    simp only [putN, List.drop_succ_cons, List.drop_zero, List.getElem?_cons_succ, List.getElem?_cons_zero]
    generalize vs 7 = u1 at *
    generalize vs 14 = u2 at *
    generalize vs 0 = u0 at *
    subst v0 v1 v2
    go_wp2_with (go_at_call 37; refine (setFrac_any z g1 0 g2 0 (x * (dy : Int)) (dx * yn) _ (HZ.out.gr HG.out) H1.out.int (by have := H2.out.int; rw [HYN.out, ← Int.natCast_mul] at this; exact this) HOK.out).mono ?_; rintro e w2 ⟨rfl, hr, hk⟩; have HR := Lib.hid hr; have HK := Lib.hid ((Kept.of_gr HG.out).trans hk); clear hr hk)
    go_ret
    exact ⟨rfl, HR.out, HK.out⟩
end Go.Proofs.YtgifghbnpdanhaaGreatDoor

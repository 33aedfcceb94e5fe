/-
  millracebig.Rat: Add. (Printed by gensum.py.) millracebig.Rat: Sub. (Printed by gensum.py.)
-/
import Derived.Test.YtgifghbnpdanhaaGreatDoorRegOps
import Derived.Test.YtgifghbnpdanhaaGreatDoorBigJ
namespace Go.Proofs.YtgifghbnpdanhaaGreatDoor
open Go.RowKit

def raddK (px : Nat) (py : Nat) (x : Int) (y : Int) (dx : Nat) (dy : Nat) (j : Nat) : Fk :=
  [.new 0,
    .new 1,
    .val (.pointer (some ⟨px, 0, none⟩)),
    .val (.pointer (some ⟨px, 0, none⟩)),
    .val (.pointer (some ⟨px, 0, none⟩)),
    .val (.pointer (some ⟨py, 0, none⟩)),
    .val (.pointer (some ⟨py, 2, none⟩)),
    .int 1 (x * (dy : Int)),
    .new 2,
    .val (.pointer (some ⟨py, 0, none⟩)),
    .val (.pointer (some ⟨py, 0, none⟩)),
    .val (.pointer (some ⟨py, 0, none⟩)),
    .val (.pointer (some ⟨px, 0, none⟩)),
    .val (.pointer (some ⟨px, 2, none⟩)),
    .int 2 (y * (dx : Int))].getD j (.val undef)
theorem raddK_one {px : Nat} {py : Nat} {x : Int} {y : Int} {dx : Nat} {dy : Nat} (t i : Nat) (h : (List.range 15).all (fun j => !((raddK px py x y dx dy j).isInt t) || decide (j = i)) = true) (j : Nat) (u : Int) (hj : raddK px py x y dx dy j = .int t u) : j = i := by
  rcases Nat.lt_or_ge j 15 with h1 | h1
  · have := List.all_eq_true.1 h j (List.mem_range.2 h1)
    rw [hj] at this
    simpa [Fk.isInt] using this
  · unfold raddK at hj
    rw [List.getD_eq_getElem?_getD, List.getElem?_eq_none (by simpa using h1)] at hj
    cases hj

set_option maxRecDepth 100000 in
set_option maxHeartbeats 8000000 in
theorem radd_any (z px py : Nat) (x y : Int) (dx dy : Nat) (w : World) (hz : RSlot w z) (hx : RatAt w px x dx) (hy : RatAt w py y dy) (bx : LtB x.natAbs 40) (bY : LtB y.natAbs 40) (cx : LtB dx 40) (cy : LtB dy 40) (e1 : LtB (x * (dy : Int)).natAbs 40) (e2 : LtB (y * (dx : Int)).natAbs 40) (hok : NormOk (x * (dy : Int) + y * (dx : Int)).natAbs (dx * dy)) :
    Calls Tryz.prog 124 #[.pointer (some ⟨z, 0, none⟩), .pointer (some ⟨px, 0, none⟩), .pointer (some ⟨py, 0, none⟩)] w fun e w' =>
      e = .returned (.pointer (some ⟨z, 0, none⟩)) ∧ RatAt w' z ((x * (dy : Int) + y * (dx : Int)) / ((Nat.gcd (x * (dy : Int) + y * (dx : Int)).natAbs (dx * dy) : Nat) : Int)) ((dx * dy) / Nat.gcd (x * (dy : Int) + y * (dx : Int)).natAbs (dx * dy)) ∧ Kept z w w' := by
  have HZ := Lib.hid hz
  have HOK := Lib.hid hok
  have HX := Lib.hid hx
  have HY := Lib.hid hy
  have hlx : px < w.heap.size := cell_lt hx.num.1
  have hly : py < w.heap.size := cell_lt hy.num.1
  have cx' : LtB (dx : Int).natAbs 40 := ⟨by rw [Int.natAbs_natCast]; exact cx.lt⟩
  have cy' : LtB (dy : Int).natAbs 40 := ⟨by rw [Int.natAbs_natCast]; exact cy.lt⟩
  clear hx hy hz hok
  go_enter Tryz.func124, Tryz.ntmps124
  go_wp2
  refine wp_region_ds (n := 15) (F := fun j v w' => Sat w.drew.heap.size v w' (raddK px py x y dx dy j)) (C := tagsApart (raddK px py x y dx dy)) (ds := [8, 9, 10, 11, 12, 13, 14, 15, 16, 17, 18, 19, 20, 21, 22]) (by kernel_rfl) (by kernel_rfl) (by kernel_rfl) tagsApart_sym tagsApart_irr ?_ ?_
  · intro L i o a w1 hi ho hA
    have hgr : Gr w w1 := (Gr.refl w).drew.trans hA.gr
    match i, hi with
    | 0, _ =>
      obtain rfl := Option.some.inj ho
      exact step_alloc (t := 0) hA rfl (r_alloc rfl)
    | 1, _ =>
      obtain rfl := Option.some.inj ho
      exact step_alloc (t := 1) hA rfl (r_alloc rfl)
    | 2, _ =>
      obtain rfl := Option.some.inj ho
      exact step_val (u := (.pointer (some ⟨px, 0, none⟩))) hA rfl (r_move rfl (hA.other 1 (by decide)))
    | 3, _ =>
      obtain rfl := Option.some.inj ho
      exact step_val (u := (.pointer (some ⟨px, 0, none⟩))) hA rfl (r_nil rfl (hA.fact 2 (hA.dep 2 (by kernel_rfl) (by decide))))
    | 4, _ =>
      obtain rfl := Option.some.inj ho
      exact step_val (u := (.pointer (some ⟨px, 0, none⟩))) hA rfl (r_rat0 rfl (hA.fact 3 (hA.dep 3 (by kernel_rfl) (by decide))))
    | 5, _ =>
      obtain rfl := Option.some.inj ho
      exact step_val (u := (.pointer (some ⟨py, 0, none⟩))) hA rfl (r_move rfl (hA.other 2 (by decide)))
    | 6, _ =>
      obtain rfl := Option.some.inj ho
      refine step_call (r_call1 rfl rfl cf_den (hA.fact 5 (hA.dep 5 (by kernel_rfl) (by decide)))) ?_
      refine (den_any py y dy w1 (HY.out.gr hgr)).mono ?_
      rintro e w2 ⟨rfl, rfl⟩
      exact ⟨_, rfl, to_val hA rfl⟩
    | 7, _ =>
      obtain rfl := Option.some.inj ho
      obtain ⟨g, hg, hb, hs⟩ := (hA.fact 1 (hA.dep 1 (by kernel_rfl) (by decide)))
      refine step_call (r_call3 rfl rfl cf_mul hg (hA.fact 4 (hA.dep 4 (by kernel_rfl) (by decide))) (hA.fact 6 (hA.dep 6 (by kernel_rfl) (by decide)))) ?_
      refine (imul_any g 0 px 0 py 2 x dy w1 hs (HX.out.gr hgr).num (HY.out.gr hgr).den bx cy' (by have := hlx; have hb' : w.heap.size ≤ g := hb; omega) (by have := hly; have hb' : w.heap.size ≤ g := hb; omega)).mono ?_
      intro e w2 h
      obtain ⟨rfl, h2⟩ := h
      exact ⟨_, rfl, to_int hA (t := 1) (d := 1) rfl rfl (hA.dep 1 (by kernel_rfl) (by decide)) hg (raddK_one 1 7 (by rfl)) ⟨rfl, h2⟩ hb hs⟩
    | 8, _ =>
      obtain rfl := Option.some.inj ho
      exact step_alloc (t := 2) hA rfl (r_alloc rfl)
    | 9, _ =>
      obtain rfl := Option.some.inj ho
      exact step_val (u := (.pointer (some ⟨py, 0, none⟩))) hA rfl (r_move rfl (hA.other 2 (by decide)))
    | 10, _ =>
      obtain rfl := Option.some.inj ho
      exact step_val (u := (.pointer (some ⟨py, 0, none⟩))) hA rfl (r_nil rfl (hA.fact 9 (hA.dep 9 (by kernel_rfl) (by decide))))
    | 11, _ =>
      obtain rfl := Option.some.inj ho
      exact step_val (u := (.pointer (some ⟨py, 0, none⟩))) hA rfl (r_rat0 rfl (hA.fact 10 (hA.dep 10 (by kernel_rfl) (by decide))))
    | 12, _ =>
      obtain rfl := Option.some.inj ho
      exact step_val (u := (.pointer (some ⟨px, 0, none⟩))) hA rfl (r_move rfl (hA.other 1 (by decide)))
    | 13, _ =>
      obtain rfl := Option.some.inj ho
      refine step_call (r_call1 rfl rfl cf_den (hA.fact 12 (hA.dep 12 (by kernel_rfl) (by decide)))) ?_
      refine (den_any px x dx w1 (HX.out.gr hgr)).mono ?_
      rintro e w2 ⟨rfl, rfl⟩
      exact ⟨_, rfl, to_val hA rfl⟩
    | 14, _ =>
      obtain rfl := Option.some.inj ho
      obtain ⟨g, hg, hb, hs⟩ := (hA.fact 8 (hA.dep 8 (by kernel_rfl) (by decide)))
      refine step_call (r_call3 rfl rfl cf_mul hg (hA.fact 11 (hA.dep 11 (by kernel_rfl) (by decide))) (hA.fact 13 (hA.dep 13 (by kernel_rfl) (by decide)))) ?_
      refine (imul_any g 0 py 0 px 2 y dx w1 hs (HY.out.gr hgr).num (HX.out.gr hgr).den bY cx' (by have := hly; have hb' : w.heap.size ≤ g := hb; omega) (by have := hlx; have hb' : w.heap.size ≤ g := hb; omega)).mono ?_
      intro e w2 h
      obtain ⟨rfl, h2⟩ := h
      exact ⟨_, rfl, to_int hA (t := 2) (d := 8) rfl rfl (hA.dep 8 (by kernel_rfl) (by decide)) hg (raddK_one 2 14 (by rfl)) ⟨rfl, h2⟩ hb hs⟩
  · intro vs w1 hg hv
    have hgr : Gr w w1 := (Gr.refl w).drew.trans hg
    obtain ⟨g0, v0, b0, h0⟩ := hv 0 (by omega)
    obtain ⟨g1, v1, _, h1⟩ := hv 7 (by omega)
    obtain ⟨g2, v2, _, h2⟩ := hv 14 (by omega)
    have H0 := Lib.hid h0
    have H1 := Lib.hid h1
    have H2 := Lib.hid h2
    have HG := Lib.hid hgr
    have HB := Lib.hid (show w.heap.size ≤ g0 from b0)
    clear hv h0 h1 h2 hg hgr b0
    simp only [putN, List.drop_succ_cons, List.drop_zero, List.getElem?_cons_succ, List.getElem?_cons_zero]
    generalize vs 7 = u1 at *
    generalize vs 14 = u2 at *
    generalize vs 0 = u0 at *
    subst v0 v1 v2
    go_wp2_with (first
      | (go_at_call 133; refine (iadd_any g0 0 g1 0 g2 0 (x * (dy : Int)) (y * (dx : Int)) _ H0.out H1.out.int H2.out.int e1 e2).mono ?_; rintro e w2 ⟨rfl, hh, ho⟩; have HN := Lib.hid hh.int; have HG2 := Lib.hid (ho.gr w HG.out HB.out); have HGA := Lib.hid ((Gr.refl w2).alloc (.cells #[.bool false, .slice none 0 0] 140)); have HSN := Lib.hid (slot_new w2 rfl); have HNE := Lib.hid (show px ≠ w2.heap.size ∧ py ≠ w2.heap.size from by have := HG2.out.size; omega); clear hh ho; have tok1 := trivial)
      | (go_at_call 116; have _ := tok1; refine (den_any px x dx _ (HX.out.gr (HG2.out.trans HGA.out))).mono ?_; rintro e w3 ⟨rfl, rfl⟩; clear tok1; have tok2 := trivial)
      | (go_at_call 116; have _ := tok2; refine (den_any py y dy _ (HY.out.gr (HG2.out.trans HGA.out))).mono ?_; rintro e w3 ⟨rfl, rfl⟩; clear tok2)
      | (go_at_call 118; refine (imul_any w2.heap.size 0 px 2 py 2 dx dy _ HSN.out (HX.out.gr (HG2.out.trans HGA.out)).den (HY.out.gr (HG2.out.trans HGA.out)).den cx' cy' HNE.out.1 HNE.out.2).mono ?_; rintro e w3 ⟨rfl, hh, ho⟩; have HD := Lib.hid hh.int; have HG3 := Lib.hid (ho.gr w2 HGA.out (Nat.le_refl _)); clear hh ho)
      | (go_at_call 37; refine (setFrac_any z g0 0 w2.heap.size 0 (x * (dy : Int) + y * (dx : Int)) (dx * dy) _ (HZ.out.gr (HG2.out.trans HG3.out)) (HN.out.gr HG3.out) (by have := HD.out; rw [← Int.natCast_mul] at this; exact this) HOK.out).mono ?_; rintro e w4 ⟨rfl, hr, hk⟩; have HR := Lib.hid hr; have HK := Lib.hid ((Kept.of_gr (HG2.out.trans HG3.out)).trans hk); clear hr hk))
    go_ret
    exact ⟨rfl, HR.out, HK.out⟩

def rsubK (px : Nat) (py : Nat) (x : Int) (y : Int) (dx : Nat) (dy : Nat) (j : Nat) : Fk :=
  [.new 0,
    .new 1,
    .val (.pointer (some ⟨px, 0, none⟩)),
    .val (.pointer (some ⟨px, 0, none⟩)),
    .val (.pointer (some ⟨px, 0, none⟩)),
    .val (.pointer (some ⟨py, 0, none⟩)),
    .val (.pointer (some ⟨py, 2, none⟩)),
    .int 1 (x * (dy : Int)),
    .new 2,
    .val (.pointer (some ⟨py, 0, none⟩)),
    .val (.pointer (some ⟨py, 0, none⟩)),
    .val (.pointer (some ⟨py, 0, none⟩)),
    .val (.pointer (some ⟨px, 0, none⟩)),
    .val (.pointer (some ⟨px, 2, none⟩)),
    .int 2 (y * (dx : Int))].getD j (.val undef)
theorem rsubK_one {px : Nat} {py : Nat} {x : Int} {y : Int} {dx : Nat} {dy : Nat} (t i : Nat) (h : (List.range 15).all (fun j => !((rsubK px py x y dx dy j).isInt t) || decide (j = i)) = true) (j : Nat) (u : Int) (hj : rsubK px py x y dx dy j = .int t u) : j = i := by
  rcases Nat.lt_or_ge j 15 with h1 | h1
  · have := List.all_eq_true.1 h j (List.mem_range.2 h1)
    rw [hj] at this
    simpa [Fk.isInt] using this
  · unfold rsubK at hj
    rw [List.getD_eq_getElem?_getD, List.getElem?_eq_none (by simpa using h1)] at hj
    cases hj

set_option maxRecDepth 100000 in
set_option maxHeartbeats 8000000 in
theorem rsub_any (z px py : Nat) (x y : Int) (dx dy : Nat) (w : World) (hz : RSlot w z) (hx : RatAt w px x dx) (hy : RatAt w py y dy) (bx : LtB x.natAbs 40) (bY : LtB y.natAbs 40) (cx : LtB dx 40) (cy : LtB dy 40) (e1 : LtB (x * (dy : Int)).natAbs 40) (e2 : LtB (y * (dx : Int)).natAbs 40) (hok : NormOk (x * (dy : Int) - y * (dx : Int)).natAbs (dx * dy)) :
    Calls Tryz.prog 119 #[.pointer (some ⟨z, 0, none⟩), .pointer (some ⟨px, 0, none⟩), .pointer (some ⟨py, 0, none⟩)] w fun e w' =>
      e = .returned (.pointer (some ⟨z, 0, none⟩)) ∧ RatAt w' z ((x * (dy : Int) - y * (dx : Int)) / ((Nat.gcd (x * (dy : Int) - y * (dx : Int)).natAbs (dx * dy) : Nat) : Int)) ((dx * dy) / Nat.gcd (x * (dy : Int) - y * (dx : Int)).natAbs (dx * dy)) ∧ Kept z w w' := by
  have HZ := Lib.hid hz
  have HOK := Lib.hid hok
  have HX := Lib.hid hx
  have HY := Lib.hid hy
  have hlx : px < w.heap.size := cell_lt hx.num.1
  have hly : py < w.heap.size := cell_lt hy.num.1
  have cx' : LtB (dx : Int).natAbs 40 := ⟨by rw [Int.natAbs_natCast]; exact cx.lt⟩
  have cy' : LtB (dy : Int).natAbs 40 := ⟨by rw [Int.natAbs_natCast]; exact cy.lt⟩
  clear hx hy hz hok
  go_enter Tryz.func119, Tryz.ntmps119
  go_wp2
  refine wp_region_ds (n := 15) (F := fun j v w' => Sat w.drew.heap.size v w' (rsubK px py x y dx dy j)) (C := tagsApart (rsubK px py x y dx dy)) (ds := [8, 9, 10, 11, 12, 13, 14, 15, 16, 17, 18, 19, 20, 21, 22]) (by kernel_rfl) (by kernel_rfl) (by kernel_rfl) tagsApart_sym tagsApart_irr ?_ ?_
  · intro L i o a w1 hi ho hA
    have hgr : Gr w w1 := (Gr.refl w).drew.trans hA.gr
    match i, hi with
    | 0, _ =>
      obtain rfl := Option.some.inj ho
      exact step_alloc (t := 0) hA rfl (r_alloc rfl)
    | 1, _ =>
      obtain rfl := Option.some.inj ho
      exact step_alloc (t := 1) hA rfl (r_alloc rfl)
    | 2, _ =>
      obtain rfl := Option.some.inj ho
      exact step_val (u := (.pointer (some ⟨px, 0, none⟩))) hA rfl (r_move rfl (hA.other 1 (by decide)))
    | 3, _ =>
      obtain rfl := Option.some.inj ho
      exact step_val (u := (.pointer (some ⟨px, 0, none⟩))) hA rfl (r_nil rfl (hA.fact 2 (hA.dep 2 (by kernel_rfl) (by decide))))
    | 4, _ =>
      obtain rfl := Option.some.inj ho
      exact step_val (u := (.pointer (some ⟨px, 0, none⟩))) hA rfl (r_rat0 rfl (hA.fact 3 (hA.dep 3 (by kernel_rfl) (by decide))))
    | 5, _ =>
      obtain rfl := Option.some.inj ho
      exact step_val (u := (.pointer (some ⟨py, 0, none⟩))) hA rfl (r_move rfl (hA.other 2 (by decide)))
    | 6, _ =>
      obtain rfl := Option.some.inj ho
      refine step_call (r_call1 rfl rfl cf_den (hA.fact 5 (hA.dep 5 (by kernel_rfl) (by decide)))) ?_
      refine (den_any py y dy w1 (HY.out.gr hgr)).mono ?_
      rintro e w2 ⟨rfl, rfl⟩
      exact ⟨_, rfl, to_val hA rfl⟩
    | 7, _ =>
      obtain rfl := Option.some.inj ho
      obtain ⟨g, hg, hb, hs⟩ := (hA.fact 1 (hA.dep 1 (by kernel_rfl) (by decide)))
      refine step_call (r_call3 rfl rfl cf_mul hg (hA.fact 4 (hA.dep 4 (by kernel_rfl) (by decide))) (hA.fact 6 (hA.dep 6 (by kernel_rfl) (by decide)))) ?_
      refine (imul_any g 0 px 0 py 2 x dy w1 hs (HX.out.gr hgr).num (HY.out.gr hgr).den bx cy' (by have := hlx; have hb' : w.heap.size ≤ g := hb; omega) (by have := hly; have hb' : w.heap.size ≤ g := hb; omega)).mono ?_
      intro e w2 h
      obtain ⟨rfl, h2⟩ := h
      exact ⟨_, rfl, to_int hA (t := 1) (d := 1) rfl rfl (hA.dep 1 (by kernel_rfl) (by decide)) hg (rsubK_one 1 7 (by rfl)) ⟨rfl, h2⟩ hb hs⟩
    | 8, _ =>
      obtain rfl := Option.some.inj ho
      exact step_alloc (t := 2) hA rfl (r_alloc rfl)
    | 9, _ =>
      obtain rfl := Option.some.inj ho
      exact step_val (u := (.pointer (some ⟨py, 0, none⟩))) hA rfl (r_move rfl (hA.other 2 (by decide)))
    | 10, _ =>
      obtain rfl := Option.some.inj ho
      exact step_val (u := (.pointer (some ⟨py, 0, none⟩))) hA rfl (r_nil rfl (hA.fact 9 (hA.dep 9 (by kernel_rfl) (by decide))))
    | 11, _ =>
      obtain rfl := Option.some.inj ho
      exact step_val (u := (.pointer (some ⟨py, 0, none⟩))) hA rfl (r_rat0 rfl (hA.fact 10 (hA.dep 10 (by kernel_rfl) (by decide))))
    | 12, _ =>
      obtain rfl := Option.some.inj ho
      exact step_val (u := (.pointer (some ⟨px, 0, none⟩))) hA rfl (r_move rfl (hA.other 1 (by decide)))
    | 13, _ =>
      obtain rfl := Option.some.inj ho
      refine step_call (r_call1 rfl rfl cf_den (hA.fact 12 (hA.dep 12 (by kernel_rfl) (by decide)))) ?_
      refine (den_any px x dx w1 (HX.out.gr hgr)).mono ?_
      rintro e w2 ⟨rfl, rfl⟩
      exact ⟨_, rfl, to_val hA rfl⟩
    | 14, _ =>
      obtain rfl := Option.some.inj ho
      obtain ⟨g, hg, hb, hs⟩ := (hA.fact 8 (hA.dep 8 (by kernel_rfl) (by decide)))
      refine step_call (r_call3 rfl rfl cf_mul hg (hA.fact 11 (hA.dep 11 (by kernel_rfl) (by decide))) (hA.fact 13 (hA.dep 13 (by kernel_rfl) (by decide)))) ?_
      refine (imul_any g 0 py 0 px 2 y dx w1 hs (HY.out.gr hgr).num (HX.out.gr hgr).den bY cx' (by have := hly; have hb' : w.heap.size ≤ g := hb; omega) (by have := hlx; have hb' : w.heap.size ≤ g := hb; omega)).mono ?_
      intro e w2 h
      obtain ⟨rfl, h2⟩ := h
      exact ⟨_, rfl, to_int hA (t := 2) (d := 8) rfl rfl (hA.dep 8 (by kernel_rfl) (by decide)) hg (rsubK_one 2 14 (by rfl)) ⟨rfl, h2⟩ hb hs⟩
  · intro vs w1 hg hv
    have hgr : Gr w w1 := (Gr.refl w).drew.trans hg
    obtain ⟨g0, v0, b0, h0⟩ := hv 0 (by omega)
    obtain ⟨g1, v1, _, h1⟩ := hv 7 (by omega)
    obtain ⟨g2, v2, _, h2⟩ := hv 14 (by omega)
    have H0 := Lib.hid h0
    have H1 := Lib.hid h1
    have H2 := Lib.hid h2
    have HG := Lib.hid hgr
    have HB := Lib.hid (show w.heap.size ≤ g0 from b0)
    clear hv h0 h1 h2 hg hgr b0
    simp only [putN, List.drop_succ_cons, List.drop_zero, List.getElem?_cons_succ, List.getElem?_cons_zero]
    generalize vs 7 = u1 at *
    generalize vs 14 = u2 at *
    generalize vs 0 = u0 at *
    subst v0 v1 v2
    go_wp2_with (first
      | (go_at_call 127; refine (isub_any g0 0 g1 0 g2 0 (x * (dy : Int)) (y * (dx : Int)) _ H0.out H1.out.int H2.out.int e1 e2).mono ?_; rintro e w2 ⟨rfl, hh, ho⟩; have HN := Lib.hid hh.int; have HG2 := Lib.hid (ho.gr w HG.out HB.out); have HGA := Lib.hid ((Gr.refl w2).alloc (.cells #[.bool false, .slice none 0 0] 140)); have HSN := Lib.hid (slot_new w2 rfl); have HNE := Lib.hid (show px ≠ w2.heap.size ∧ py ≠ w2.heap.size from by have := HG2.out.size; omega); clear hh ho; have tok1 := trivial)
      | (go_at_call 116; have _ := tok1; refine (den_any px x dx _ (HX.out.gr (HG2.out.trans HGA.out))).mono ?_; rintro e w3 ⟨rfl, rfl⟩; clear tok1; have tok2 := trivial)
      | (go_at_call 116; have _ := tok2; refine (den_any py y dy _ (HY.out.gr (HG2.out.trans HGA.out))).mono ?_; rintro e w3 ⟨rfl, rfl⟩; clear tok2)
      | (go_at_call 118; refine (imul_any w2.heap.size 0 px 2 py 2 dx dy _ HSN.out (HX.out.gr (HG2.out.trans HGA.out)).den (HY.out.gr (HG2.out.trans HGA.out)).den cx' cy' HNE.out.1 HNE.out.2).mono ?_; rintro e w3 ⟨rfl, hh, ho⟩; have HD := Lib.hid hh.int; have HG3 := Lib.hid (ho.gr w2 HGA.out (Nat.le_refl _)); clear hh ho)
      | (go_at_call 37; refine (setFrac_any z g0 0 w2.heap.size 0 (x * (dy : Int) - y * (dx : Int)) (dx * dy) _ (HZ.out.gr (HG2.out.trans HG3.out)) (HN.out.gr HG3.out) (by have := HD.out; rw [← Int.natCast_mul] at this; exact this) HOK.out).mono ?_; rintro e w4 ⟨rfl, hr, hk⟩; have HR := Lib.hid hr; have HK := Lib.hid ((Kept.of_gr (HG2.out.trans HG3.out)).trans hk); clear hr hk))
    go_ret
    exact ⟨rfl, HR.out, HK.out⟩
end Go.Proofs.YtgifghbnpdanhaaGreatDoor

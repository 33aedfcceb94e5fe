/-
  millracebig.Int: Cmp; millracebig.Rat: Cmp. (Printed by gensum.py.)
-/
import Derived.Test.YtgifghbnpdanhaaGreatDoorRegOps
import Derived.BigQuiet
namespace Go.Proofs.YtgifghbnpdanhaaGreatDoor
open Go.RowKit

set_option maxRecDepth 100000 in
set_option maxHeartbeats 4000000 in
theorem icmp_any (q r s t : Nat) (x y : Int) (w : World) (hx : IntAt w q r x) (hy : IntAt w s t y) :
    Calls Tryz.prog 117 #[.pointer (some ⟨q, r, none⟩), .pointer (some ⟨s, t, none⟩)] w fun e w' => e = .returned (.int .i64 (sg x y)) ∧ Gr w w' := by
  obtain ⟨c0, a, n, c, c1, hN⟩ := hx.open
  obtain ⟨e0, a', n', c', e1, hN'⟩ := hy.open
  have H := Lib.hid hN
  have H' := Lib.hid hN'
  clear hN hN' hx hy
  have C0 := Lib.hid c0
  have C1 := Lib.hid c1
  have E1 := Lib.hid e1
  have hs : -1 ≤ sg (x.natAbs : Int) (y.natAbs : Int) ∧ sg (x.natAbs : Int) (y.natAbs : Int) ≤ 1 := by rcases sg_in (x.natAbs : Int) (y.natAbs : Int) with e | e | e <;> omega
  by_cases h1 : x < 0 <;> by_cases h2 : y < 0
  · have HO : Hid (-(sg (x.natAbs : Int) (y.natAbs : Int)) = sg x y) := Lib.hid (by rw [← sg_neg]; congr 1 <;> omega)
    rw [decide_eq_true h1] at c0 C0
    rw [decide_eq_true h2] at e0
    obtain ⟨g, hgg⟩ : ∃ g, g = sg (x.natAbs : Int) (y.natAbs : Int) := ⟨_, rfl⟩
    rw [← hgg] at hs HO
    have HSG := Lib.hid hgg
    clear hgg
    go_enter Tryz.func117, Tryz.ntmps117
    go_wp2
    go_quiet (fail)
    go_wp2
    obtain ⟨w0, hw0⟩ : ∃ w0, w0 = w.drewN nq := ⟨_, rfl⟩
    have HG0 : Hid (Gr w w0) := Lib.hid (by rw [hw0]; exact (Gr.refl w).drewN _)
    rw [← hw0]
    clear hw0
    have d0 := HG0.out.cell C0.out
    have d1 := HG0.out.cell C1.out
    have f1 := HG0.out.cell E1.out
    have D1 := Lib.hid d1
    have F1 := Lib.hid f1
    clear c0 c1 e0 e1
    go_region_held3 (fun w' => w'.cell? ⟨q, r + 1, none⟩ = some (.slice a n c) ∧ w'.cell? ⟨s, t + 1, none⟩ = some (.slice a' n' c'))
      (first
        | exact ⟨((Gr.refl w0).drew.trans hg1).cell D1.out, ((Gr.refl w0).drew.trans hg1).cell F1.out⟩
        | go_keep)
      (first
        | (go_at_call 56; refine (cmp_any _ (H.out.gr HG0.out.drew) (H'.out.gr HG0.out.drew)).mono ?_; rintro e w1 ⟨rfl, hg1⟩; rw [← HSG.out]))
    have HG1 := Lib.hid (HG0.out.drew.trans hg1)
    have x0 := HG1.out.cell C0.out
    clear hg1 d0
    go_wp2
    go_ret
    exact ⟨by rw [← HO.out]; rfl, HG1.out⟩
  · have HO : Hid (-1 = sg x y) := Lib.hid (sg_lt (by omega)).symm
    rw [decide_eq_true h1] at c0 C0
    rw [decide_eq_false h2] at e0
    clear hs
    go_enter Tryz.func117, Tryz.ntmps117
    go_wp2
    go_quiet (fail)
    go_wp2
    go_ret
    exact ⟨by rw [← HO.out]; rfl, (Gr.refl w).drewN _⟩
  · have HO : Hid (1 = sg x y) := Lib.hid (sg_gt (by omega)).symm
    rw [decide_eq_false h1] at c0 C0
    rw [decide_eq_true h2] at e0
    clear hs
    go_enter Tryz.func117, Tryz.ntmps117
    go_wp2
    go_quiet (fail)
    go_wp2
    go_ret
    exact ⟨by rw [← HO.out]; rfl, (Gr.refl w).drewN _⟩
  · have HO : Hid (sg (x.natAbs : Int) (y.natAbs : Int) = sg x y) := Lib.hid (by congr 1 <;> omega)
    rw [decide_eq_false h1] at c0 C0
    rw [decide_eq_false h2] at e0
    obtain ⟨g, hgg⟩ : ∃ g, g = sg (x.natAbs : Int) (y.natAbs : Int) := ⟨_, rfl⟩
    rw [← hgg] at hs HO
    have HSG := Lib.hid hgg
    clear hgg
    go_enter Tryz.func117, Tryz.ntmps117
    go_wp2
    go_quiet (fail)
    go_wp2
    obtain ⟨w0, hw0⟩ : ∃ w0, w0 = w.drewN nq := ⟨_, rfl⟩
    have HG0 : Hid (Gr w w0) := Lib.hid (by rw [hw0]; exact (Gr.refl w).drewN _)
    rw [← hw0]
    clear hw0
    have d0 := HG0.out.cell C0.out
    have d1 := HG0.out.cell C1.out
    have f1 := HG0.out.cell E1.out
    have D1 := Lib.hid d1
    have F1 := Lib.hid f1
    clear c0 c1 e0 e1
    go_region_held3 (fun w' => w'.cell? ⟨q, r + 1, none⟩ = some (.slice a n c) ∧ w'.cell? ⟨s, t + 1, none⟩ = some (.slice a' n' c'))
      (first
        | exact ⟨((Gr.refl w0).drew.trans hg1).cell D1.out, ((Gr.refl w0).drew.trans hg1).cell F1.out⟩
        | go_keep)
      (first
        | (go_at_call 56; refine (cmp_any _ (H.out.gr HG0.out.drew) (H'.out.gr HG0.out.drew)).mono ?_; rintro e w1 ⟨rfl, hg1⟩; rw [← HSG.out]))
    have HG1 := Lib.hid (HG0.out.drew.trans hg1)
    have x0 := HG1.out.cell C0.out
    clear hg1 d0
    go_wp2
    go_ret
    exact ⟨by rw [← HO.out]; rfl, HG1.out⟩

def rcmpK (px : Nat) (py : Nat) (x : Int) (y : Int) (dx : Nat) (dy : Nat) (j : Nat) : Fk :=
  [.new 1,
    .val (.pointer (some ⟨px, 0, none⟩)),
    .val (.pointer (some ⟨px, 0, none⟩)),
    .val (.pointer (some ⟨px, 0, none⟩)),
    .val (.pointer (some ⟨py, 0, none⟩)),
    .val (.pointer (some ⟨py, 2, none⟩)),
    .int 1 (x * (dy : Int)),
    .new 2,
    .val (.pointer (some ⟨py, 0, none⟩)),
    .val (.pointer (some ⟨py, 0, none⟩)),
    .val (.pointer (some ⟨py, 0, none⟩)),
    .val (.pointer (some ⟨px, 0, none⟩)),
    .val (.pointer (some ⟨px, 2, none⟩)),
    .int 2 (y * (dx : Int))].getD j (.val undef)
theorem rcmpK_one {px : Nat} {py : Nat} {x : Int} {y : Int} {dx : Nat} {dy : Nat} (t i : Nat) (h : (List.range 14).all (fun j => !((rcmpK px py x y dx dy j).isInt t) || decide (j = i)) = true) (j : Nat) (u : Int) (hj : rcmpK px py x y dx dy j = .int t u) : j = i := by
  rcases Nat.lt_or_ge j 14 with h1 | h1
  · have := List.all_eq_true.1 h j (List.mem_range.2 h1)
    rw [hj] at this
    simpa [Fk.isInt] using this
  · unfold rcmpK at hj
    rw [List.getD_eq_getElem?_getD, List.getElem?_eq_none (by simpa using h1)] at hj
    cases hj

def rcmpnK (px : Nat) (py : Nat) (j : Nat) : Fk :=
  [.val (.pointer (some ⟨px, 0, none⟩)),
    .val (.pointer (some ⟨px, 0, none⟩)),
    .val (.pointer (some ⟨px, 0, none⟩)),
    .val (.pointer (some ⟨py, 0, none⟩)),
    .val (.pointer (some ⟨py, 0, none⟩)),
    .val (.pointer (some ⟨py, 0, none⟩))].getD j (.val undef)

set_option maxRecDepth 100000 in
set_option maxHeartbeats 8000000 in
theorem rcmp_any (px py : Nat) (x y : Int) (dx dy : Nat) (w : World) (hx : RatAt w px x dx) (hy : RatAt w py y dy) (bx : LtB x.natAbs 40) (bY : LtB y.natAbs 40) (cx : LtB dx 40) (cy : LtB dy 40) :
    Calls Tryz.prog 108 #[.pointer (some ⟨px, 0, none⟩), .pointer (some ⟨py, 0, none⟩)] w fun e w' => e = .returned (.int .i64 (sg (x * (dy : Int)) (y * (dx : Int)))) ∧ Gr w w' := by
  have HX := Lib.hid hx
  have HY := Lib.hid hy
  have hlx : px < w.heap.size := cell_lt hx.num.1
  have hly : py < w.heap.size := cell_lt hy.num.1
  have cx' : LtB (dx : Int).natAbs 40 := ⟨by rw [Int.natAbs_natCast]; exact cx.lt⟩
  have cy' : LtB (dy : Int).natAbs 40 := ⟨by rw [Int.natAbs_natCast]; exact cy.lt⟩
  have hd : 0 < dx ∧ 0 < dy := ⟨hx.pos, hy.pos⟩
  clear hx hy
  by_cases he : dx = dy
  · subst he
    have HO : Hid (sg (x * (dx : Int)) (y * (dx : Int)) = sg x y) := Lib.hid (sg_mul (by omega))
    have HZ := Lib.hid (sg_eq (show (dx : Int) = (dx : Int) from rfl))
    rw [HO.out]
    go_enter Tryz.func108, Tryz.ntmps108
    have tok1 := trivial
    go_wp2_with (first
      | (go_at_call 116; have _ := tok1; refine (den_any px x dx _ HX.out).mono ?_; rintro e w3 ⟨rfl, rfl⟩; clear tok1; have tok2 := trivial)
      | (go_at_call 116; have _ := tok2; refine (den_any py y dx _ HY.out).mono ?_; rintro e w3 ⟨rfl, rfl⟩; clear tok2)
      | (go_at_call 117; refine (icmp_any px 2 py 2 dx dx _ HX.out.den HY.out.den).mono ?_; rintro e w4 ⟨rfl, hg4⟩; rw [HZ.out]; have HG4 := Lib.hid hg4; have hlx4 := hlx; clear hg4))
    rename_i w4 _ _
    refine wp_region_ds (n := 6) (F := fun j v w' => Sat w4.drew.heap.size v w' (rcmpnK px py j)) (C := tagsApart (rcmpnK px py)) (ds := [11, 12, 13, 14, 15, 16]) (by kernel_rfl) (by kernel_rfl) (by kernel_rfl) tagsApart_sym tagsApart_irr ?_ ?_
    · intro L i o a w1 hi ho hA
      have hgr : Gr w4 w1 := (Gr.refl w4).drew.trans hA.gr
      match i, hi with
      | 0, _ =>
        obtain rfl := Option.some.inj ho
        exact step_val (u := (.pointer (some ⟨px, 0, none⟩))) hA rfl (r_move rfl (hA.other 0 (by decide)))
      | 1, _ =>
        obtain rfl := Option.some.inj ho
        exact step_val (u := (.pointer (some ⟨px, 0, none⟩))) hA rfl (r_nil rfl (hA.fact 0 (hA.dep 0 (by kernel_rfl) (by decide))))
      | 2, _ =>
        obtain rfl := Option.some.inj ho
        exact step_val (u := (.pointer (some ⟨px, 0, none⟩))) hA rfl (r_rat0 rfl (hA.fact 1 (hA.dep 1 (by kernel_rfl) (by decide))))
      | 3, _ =>
        obtain rfl := Option.some.inj ho
        exact step_val (u := (.pointer (some ⟨py, 0, none⟩))) hA rfl (r_move rfl (hA.other 1 (by decide)))
      | 4, _ =>
        obtain rfl := Option.some.inj ho
        exact step_val (u := (.pointer (some ⟨py, 0, none⟩))) hA rfl (r_nil rfl (hA.fact 3 (hA.dep 3 (by kernel_rfl) (by decide))))
      | 5, _ =>
        obtain rfl := Option.some.inj ho
        exact step_val (u := (.pointer (some ⟨py, 0, none⟩))) hA rfl (r_rat0 rfl (hA.fact 4 (hA.dep 4 (by kernel_rfl) (by decide))))
    · intro vs w5 hg hv
      have HG5 := Lib.hid ((HG4.out.drew).trans hg)
      have v1 : vs 2 = .pointer (some ⟨px, 0, none⟩) := hv 2 (by omega)
      have v2 : vs 5 = .pointer (some ⟨py, 0, none⟩) := hv 5 (by omega)
      clear hv hg
      simp only [putN, List.drop_succ_cons, List.drop_zero, List.getElem?_cons_succ, List.getElem?_cons_zero]
      generalize vs 2 = u1 at *
      generalize vs 5 = u2 at *
      subst v1 v2
      go_wp2_with (go_at_call 117; refine (icmp_any px 0 py 0 x y _ (HX.out.gr HG5.out).num (HY.out.gr HG5.out).num).mono ?_; rintro e w6 ⟨rfl, hg6⟩; have HG6 := Lib.hid (HG5.out.trans hg6); clear hg6)
      go_ret
      exact ⟨rfl, HG6.out⟩
  · obtain ⟨s, hs⟩ : ∃ s, s = sg (dx : Int) (dy : Int) := ⟨_, rfl⟩
    have hs0 : (s == 0) = false := by
      rw [hs]
      rcases Nat.lt_or_ge dx dy with h | h
      · rw [sg_lt (by omega)]; rfl
      · rw [sg_gt (by omega)]; rfl
    have HSS := Lib.hid hs
    clear hs he
    go_enter Tryz.func108, Tryz.ntmps108
    have tok1 := trivial
    go_wp2_with (first
      | (go_at_call 116; have _ := tok1; refine (den_any px x dx _ HX.out).mono ?_; rintro e w3 ⟨rfl, rfl⟩; clear tok1; have tok2 := trivial)
      | (go_at_call 116; have _ := tok2; refine (den_any py y dy _ HY.out).mono ?_; rintro e w3 ⟨rfl, rfl⟩; clear tok2)
      | (go_at_call 117; refine (icmp_any px 2 py 2 dx dy _ HX.out.den HY.out.den).mono ?_; rintro e w4 ⟨rfl, hg4⟩; rw [← HSS.out]; have HG4 := Lib.hid hg4; clear hg4))
    have HX := Lib.hid (HX.out.gr HG4.out)
    have HY := Lib.hid (HY.out.gr HG4.out)
    have hlx4 : px < w4.heap.size := Nat.lt_of_lt_of_le hlx HG4.out.size
    have hly4 : py < w4.heap.size := Nat.lt_of_lt_of_le hly HG4.out.size
    clear hlx hly
    refine wp_region_ds (n := 14) (F := fun j v w' => Sat w4.drew.heap.size v w' (rcmpK px py x y dx dy j)) (C := tagsApart (rcmpK px py x y dx dy)) (ds := [18, 19, 20, 21, 22, 23, 24, 25, 26, 27, 28, 29, 30, 31]) (by kernel_rfl) (by kernel_rfl) (by kernel_rfl) tagsApart_sym tagsApart_irr ?_ ?_
    · intro L i o a w1 hi ho hA
      have hgr : Gr w4 w1 := (Gr.refl w4).drew.trans hA.gr
      match i, hi with
      | 0, _ =>
        obtain rfl := Option.some.inj ho
        exact step_alloc (t := 1) hA rfl (r_alloc rfl)
      | 1, _ =>
        obtain rfl := Option.some.inj ho
        exact step_val (u := (.pointer (some ⟨px, 0, none⟩))) hA rfl (r_move rfl (hA.other 0 (by decide)))
      | 2, _ =>
        obtain rfl := Option.some.inj ho
        exact step_val (u := (.pointer (some ⟨px, 0, none⟩))) hA rfl (r_nil rfl (hA.fact 1 (hA.dep 1 (by kernel_rfl) (by decide))))
      | 3, _ =>
        obtain rfl := Option.some.inj ho
        exact step_val (u := (.pointer (some ⟨px, 0, none⟩))) hA rfl (r_rat0 rfl (hA.fact 2 (hA.dep 2 (by kernel_rfl) (by decide))))
      | 4, _ =>
        obtain rfl := Option.some.inj ho
        exact step_val (u := (.pointer (some ⟨py, 0, none⟩))) hA rfl (r_move rfl (hA.other 1 (by decide)))
      | 5, _ =>
        obtain rfl := Option.some.inj ho
        refine step_call (r_call1 rfl rfl cf_den (hA.fact 4 (hA.dep 4 (by kernel_rfl) (by decide)))) ?_
        refine (den_any py y dy w1 (HY.out.gr hgr)).mono ?_
        rintro e w2 ⟨rfl, rfl⟩
        exact ⟨_, rfl, to_val hA rfl⟩
      | 6, _ =>
        obtain rfl := Option.some.inj ho
        obtain ⟨g, hg, hb, hs⟩ := (hA.fact 0 (hA.dep 0 (by kernel_rfl) (by decide)))
        refine step_call (r_call3 rfl rfl cf_mul hg (hA.fact 3 (hA.dep 3 (by kernel_rfl) (by decide))) (hA.fact 5 (hA.dep 5 (by kernel_rfl) (by decide)))) ?_
        refine (imul_any g 0 px 0 py 2 x dy w1 hs (HX.out.gr hgr).num (HY.out.gr hgr).den bx cy' (by have := hlx4; have hb' : w4.heap.size ≤ g := hb; omega) (by have := hly4; have hb' : w4.heap.size ≤ g := hb; omega)).mono ?_
        intro e w2 h
        obtain ⟨rfl, h2⟩ := h
        exact ⟨_, rfl, to_int hA (t := 1) (d := 0) rfl rfl (hA.dep 0 (by kernel_rfl) (by decide)) hg (rcmpK_one 1 6 (by rfl)) ⟨rfl, h2⟩ hb hs⟩
      | 7, _ =>
        obtain rfl := Option.some.inj ho
        exact step_alloc (t := 2) hA rfl (r_alloc rfl)
      | 8, _ =>
        obtain rfl := Option.some.inj ho
        exact step_val (u := (.pointer (some ⟨py, 0, none⟩))) hA rfl (r_move rfl (hA.other 1 (by decide)))
      | 9, _ =>
        obtain rfl := Option.some.inj ho
        exact step_val (u := (.pointer (some ⟨py, 0, none⟩))) hA rfl (r_nil rfl (hA.fact 8 (hA.dep 8 (by kernel_rfl) (by decide))))
      | 10, _ =>
        obtain rfl := Option.some.inj ho
        exact step_val (u := (.pointer (some ⟨py, 0, none⟩))) hA rfl (r_rat0 rfl (hA.fact 9 (hA.dep 9 (by kernel_rfl) (by decide))))
      | 11, _ =>
        obtain rfl := Option.some.inj ho
        exact step_val (u := (.pointer (some ⟨px, 0, none⟩))) hA rfl (r_move rfl (hA.other 0 (by decide)))
      | 12, _ =>
        obtain rfl := Option.some.inj ho
        refine step_call (r_call1 rfl rfl cf_den (hA.fact 11 (hA.dep 11 (by kernel_rfl) (by decide)))) ?_
        refine (den_any px x dx w1 (HX.out.gr hgr)).mono ?_
        rintro e w2 ⟨rfl, rfl⟩
        exact ⟨_, rfl, to_val hA rfl⟩
      | 13, _ =>
        obtain rfl := Option.some.inj ho
        obtain ⟨g, hg, hb, hs⟩ := (hA.fact 7 (hA.dep 7 (by kernel_rfl) (by decide)))
        refine step_call (r_call3 rfl rfl cf_mul hg (hA.fact 10 (hA.dep 10 (by kernel_rfl) (by decide))) (hA.fact 12 (hA.dep 12 (by kernel_rfl) (by decide)))) ?_
        refine (imul_any g 0 py 0 px 2 y dx w1 hs (HY.out.gr hgr).num (HX.out.gr hgr).den bY cx' (by have := hly4; have hb' : w4.heap.size ≤ g := hb; omega) (by have := hlx4; have hb' : w4.heap.size ≤ g := hb; omega)).mono ?_
        intro e w2 h
        obtain ⟨rfl, h2⟩ := h
        exact ⟨_, rfl, to_int hA (t := 2) (d := 7) rfl rfl (hA.dep 7 (by kernel_rfl) (by decide)) hg (rcmpK_one 2 13 (by rfl)) ⟨rfl, h2⟩ hb hs⟩
    · intro vs w5 hg hv
      have HG5 := Lib.hid ((HG4.out.drew).trans hg)
      obtain ⟨g1, v1, _, h1⟩ := hv 6 (by omega)
      obtain ⟨g2, v2, _, h2⟩ := hv 13 (by omega)
      have H1 := Lib.hid h1.int
      have H2 := Lib.hid h2.int
      clear hv hg h1 h2
      simp only [putN, List.drop_succ_cons, List.drop_zero, List.getElem?_cons_succ, List.getElem?_cons_zero]
      generalize vs 6 = u1 at *
      generalize vs 13 = u2 at *
      subst v1 v2
      go_wp2_with (go_at_call 117; refine (icmp_any g1 0 g2 0 _ _ _ H1.out H2.out).mono ?_; rintro e w6 ⟨rfl, hg6⟩; have HG6 := Lib.hid (HG5.out.trans hg6); clear hg6)
      go_ret
      exact ⟨rfl, HG6.out⟩
end Go.Proofs.YtgifghbnpdanhaaGreatDoor

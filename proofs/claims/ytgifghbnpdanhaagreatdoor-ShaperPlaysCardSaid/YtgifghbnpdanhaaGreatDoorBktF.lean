/-
  millraceref.Filled: to, Take. (Printed by genbkt.py.)
-/
import Derived.Test.YtgifghbnpdanhaaGreatDoorShaperPlaysPart7
import Derived.Test.YtgifghbnpdanhaaGreatDoorShaperPlaysPart2
import Derived.Test.YtgifghbnpdanhaaGreatDoorShaperPlaysPart3
import Derived.Test.YtgifghbnpdanhaaGreatDoorShaperPlaysPart5
import Derived.Deep.RegionHeld3
namespace Go.Proofs.YtgifghbnpdanhaaGreatDoor
open Go.RowKit

/-- The Filled at block p. -/
structure FAt (w : World) (p : Nat) (B : Bkt) (s : BSt) (g : Nat) : Prop where
  c0 : w.cell? ⟨p, 0, none⟩ = some (.int .i64 (B.b : Int))
  c1 : w.cell? ⟨p, 1, none⟩ = some (.int .i64 (B.t : Int))
  c2 : w.cell? ⟨p, 2, none⟩ = some (.int .i64 (B.r : Int))
  c3 : w.cell? ⟨p, 3, none⟩ = some (.int .i64 s.last)
  c4 : w.cell? ⟨p, 4, none⟩ = some (.pointer (some ⟨g, 0, none⟩))
  f3 : w.frozen? ⟨p, 3, none⟩ = false
  f4 : w.frozen? ⟨p, 4, none⟩ = false
  rat : RatV w g s.x B.t
/-- block p's cells 3 and 4 are none of a Rat's -/
structure Mine (w : World) (p : Nat) : Prop where
  lt : p < w.heap.size
  m3 : ∃ x, w.cell? ⟨p, 3, none⟩ = some (.int .i64 x)
  m4 : (∃ x, w.cell? ⟨p, 4, none⟩ = some (.int .i64 x)) ∨ ∃ g, w.cell? ⟨p, 4, none⟩ = some (.pointer g)
theorem FAt.mine {w : World} {p g : Nat} {B : Bkt} {s : BSt} (h : FAt w p B s g) : Mine w p := ⟨cell_lt h.c0, ⟨_, h.c3⟩, .inr ⟨_, h.c4⟩⟩
theorem StAt.mine {w : World} {p : Nat} {B : Bkt} {s : BSt} (h : StAt w p B s) : Mine w p := ⟨cell_lt h.c0, ⟨_, h.c3⟩, .inl ⟨_, h.c4⟩⟩
theorem Mine.keeps {w w' : World} {p q i : Nat} {v : Value} (h : Mine w p) (k : Only p 3 w w') (hc : w.cell? ⟨q, i, none⟩ = some v) (hv : (∃ b, v = .bool b) ∨ (∃ a n c, v = .slice a n c) ∨ ∃ x, v = .int .u32 x) : w'.cell? ⟨q, i, none⟩ = some v := by
  rw [k.cell q i (cell_lt hc) ?_]
  · exact hc
  · by_cases e : q = p
    · subst e
      obtain ⟨_, ⟨x, h3⟩, h4⟩ := h
      refine .inr ⟨fun e => ?_, fun e => ?_⟩
      · subst e
        rw [hc] at h3
        rcases hv with ⟨b, rfl⟩ | ⟨a, n, c, rfl⟩ | ⟨x, rfl⟩ <;> simp at h3
      · subst e
        rcases h4 with ⟨y, h4⟩ | ⟨y, h4⟩ <;> (rw [hc] at h4; rcases hv with ⟨b, rfl⟩ | ⟨a, n, c, rfl⟩ | ⟨x, rfl⟩ <;> simp at h4)
    · exact .inl e
theorem Num.mine {w w' : World} {p N : Nat} {v : Value} (h : Num w v N) (hm : Mine w p) (k : Only p 3 w w') : Num w' v N := by
  obtain ⟨n, f, ⟨a, cap, h1, h2, h3, h4⟩, h5, h6⟩ := h
  refine ⟨n, f, ⟨a, cap, h1, h2, fun h0 => ?_, h4⟩, h5, h6⟩
  obtain ⟨g, h7, h8⟩ := h3 h0
  exact ⟨g, h7, fun i hi => hm.keeps k (h8 i hi) (.inr (.inr ⟨_, rfl⟩))⟩
theorem IntAt.mine {w w' : World} {p q o : Nat} {x : Int} (h : IntAt w q o x) (hm : Mine w p) (k : Only p 3 w w') : IntAt w' q o x := by
  obtain ⟨c0, a, n, c, c1, hN⟩ := h.open
  exact ⟨hm.keeps k c0 (.inl ⟨_, rfl⟩), _, hm.keeps k c1 (.inr (.inl ⟨_, _, _, rfl⟩)), hN.mine hm k⟩
theorem RatV.mine {w w' : World} {p g T : Nat} {x : Int} (h : RatV w g x T) (hm : Mine w p) (k : Only p 3 w w') : RatV w' g x T := by
  obtain ⟨h0, a, d, ⟨h1, h2, h3, h4⟩, h5⟩ := h
  exact ⟨h0, a, d, ⟨h1.mine hm k, h2.mine hm k, h3, h4⟩, h5⟩
theorem FAt.gr {w w' : World} {p g : Nat} {B : Bkt} {s : BSt} (h : FAt w p B s g) (k : Gr w w') : FAt w' p B s g := by
  have hl := cell_lt h.c0
  exact ⟨k.cell h.c0, k.cell h.c1, k.cell h.c2, k.cell h.c3, k.cell h.c4, by rw [k.frozen (p := ⟨p, 3, none⟩) hl]; exact h.f3, by rw [k.frozen (p := ⟨p, 4, none⟩) hl]; exact h.f4, h.rat.gr k⟩
theorem FAt.only {w w' : World} {p q g : Nat} {B : Bkt} {s : BSt} (h : FAt w p B s g) (hm : Mine w q) (k : Only q 3 w w') (hne : p ≠ q) : FAt w' p B s g := by
  have hl := cell_lt h.c0
  exact ⟨(k.cell p 0 hl (.inl hne)).trans h.c0, (k.cell p 1 hl (.inl hne)).trans h.c1, (k.cell p 2 hl (.inl hne)).trans h.c2, (k.cell p 3 hl (.inl hne)).trans h.c3, (k.cell p 4 hl (.inl hne)).trans h.c4, (k.frozen p 3 hl).trans h.f3, (k.frozen p 4 hl).trans h.f4, h.rat.mine hm k⟩
theorem FAt.set4 {w : World} {p g g' : Nat} {B : Bkt} {s : BSt} {x : Int} (h : FAt w p B s g) (hr : RatV w g' x B.t) : FAt (w.setCell ⟨p, 4, none⟩ (.pointer (some ⟨g', 0, none⟩))) p B ⟨s.last, x⟩ g' :=
  ⟨by rw [World.cell?_setCell_other _ _ _ _ (by simp)]; exact h.c0, by rw [World.cell?_setCell_other _ _ _ _ (by simp)]; exact h.c1, by rw [World.cell?_setCell_other _ _ _ _ (by simp)]; exact h.c2, by rw [World.cell?_setCell_other _ _ _ _ (by simp)]; exact h.c3, World.cell?_setCell_same _ _ _ h.c4, by simpa using h.f3, by simpa using h.f4, hr.mine h.mine (only_set4 _)⟩
theorem FAt.set3 {w : World} {p g : Nat} {B : Bkt} {s : BSt} (h : FAt w p B s g) (t : Int) : FAt (w.setCell ⟨p, 3, none⟩ (.int .i64 t)) p B ⟨t, s.x⟩ g :=
  ⟨by rw [World.cell?_setCell_other _ _ _ _ (by simp)]; exact h.c0, by rw [World.cell?_setCell_other _ _ _ _ (by simp)]; exact h.c1, by rw [World.cell?_setCell_other _ _ _ _ (by simp)]; exact h.c2, World.cell?_setCell_same _ _ _ h.c3, by rw [World.cell?_setCell_other _ _ _ _ (by simp)]; exact h.c4, by simpa using h.f3, by simpa using h.f4, h.rat.mine h.mine (only_set3 _)⟩

theorem ltb5 {n : Nat} (h : n < 18446744073709551616) : LtB n 5 := (LtB.u64 h).mono (by omega)
set_option maxRecDepth 100000 in
set_option maxHeartbeats 8000000 in
theorem to_any (p g : Nat) (B : Bkt) (s : BSt) (now : Int) (w : World) (h : FAt w p B s g) (hok : B.Ok s) (hn : now ≤ 1000000000) (hn0 : -9223372036854775808 ≤ now) :
    Calls Tryz.prog 107 #[.pointer (some ⟨p, 0, none⟩), .int .i64 now] w fun e w' => e = .returned (.tuple #[]) ∧ (∃ g', FAt w' p B (B.fill s now) g') ∧ Only p 3 w w' := by
  have H := Lib.hid h
  have c3 := h.c3
  clear h
  have l0 := hok.l0
  have l1 := hok.l1
  by_cases hlt : s.last < now
  · have hm := B.more hok hn hlt
    have hr := B.room
    have hx0 := hok.x0
    have hx1 := hok.x1
    have ht := B.ht
    have hb := B.hb
    have hrr := B.hr
    have H1 := Lib.hid (show 0 ≤ now - s.last ∧ now - s.last ≤ 1000000000 by omega)
    have HI1 := Lib.hid (fun u => refInt_any (B.r : Int) u (by omega))
    have HI2 := Lib.hid (fun u => refInt_any (now - s.last) u (by omega))
    have HM : Hid (∀ g1 g2 u, RatV u g1 (now - s.last) 1 → RatV u g2 (B.b : Int) B.t → Calls Tryz.prog 115 #[.pointer (some ⟨g1, 0, none⟩), .pointer (some ⟨g2, 0, none⟩)] u (NewR ((now - s.last) * (B.b : Int)) B.t u)) := Lib.hid (fun g1 g2 u h1 h2 => by
      have := refmul_any g1 g2 _ _ _ _ u h1 h2 ⟨by omega, by omega, by omega, by omega, by rw [← Int.natAbs_mul]; omega, by omega⟩
      rwa [Nat.one_mul] at this)
    have HA : Hid (∀ g1 g2 u, RatV u g1 s.x B.t → RatV u g2 ((now - s.last) * (B.b : Int)) B.t → Calls Tryz.prog 114 #[.pointer (some ⟨g1, 0, none⟩), .pointer (some ⟨g2, 0, none⟩)] u (NewR (s.x + (now - s.last) * (B.b : Int)) B.t u)) := Lib.hid (fun g1 g2 u h1 h2 => by
      have htt : B.t * B.t ≤ 1000000 * 1000000 := Nat.mul_le_mul ht.2 ht.2
      refine (refadd_any g1 g2 _ _ _ _ u h1 h2 ⟨ltb5 (by omega), ltb5 (by omega), by omega, by omega, by omega⟩).mono fun e w' hh => hh.congr (by omega) ?_
      rw [Int.natCast_mul, ← Int.add_mul, Int.mul_assoc])
    have HL : Hid (∀ g1 g2 u, RatV u g1 (B.r : Int) 1 → RatV u g2 (s.x + (now - s.last) * (B.b : Int)) B.t → Calls Tryz.prog 113 #[.pointer (some ⟨g1, 0, none⟩), .pointer (some ⟨g2, 0, none⟩)] u (OldR (min ((B.r : Int) * (B.t : Int)) (s.x + (now - s.last) * (B.b : Int))) B.t u)) := Lib.hid (fun g1 g2 u h1 h2 => by
      have := lesser_any g1 g2 _ _ _ _ u h1 h2 ⟨ltb5 (by omega), ltb5 (by omega), by omega, by omega, by omega⟩
      rwa [Nat.one_mul, show ((1 : Nat) : Int) = 1 from rfl, Int.mul_one] at this)
    have HF := Lib.hid (B.fill_yes hlt)
    have HS : Hid (∀ u g', Gr w u → RatV u g' (min ((B.r : Int) * (B.t : Int)) (s.x + (now - s.last) * (B.b : Int))) B.t → _) := Lib.hid (fun u g' hu hr => ((H.out.gr hu).set4 hr).set3 now)
    have HO : Hid (∀ u g', Gr w u → _) := Lib.hid (fun u g' hu => ((Only.of_gr (p := p) (o := 3) hu).trans (only_set4 (.pointer (some ⟨g', 0, none⟩)))).trans (only_set3 (.int .i64 now)))
    have HR := Lib.hid H.out.rat
    have C0 := Lib.hid H.out.c0
    have C1 := Lib.hid H.out.c1
    have C2 := Lib.hid H.out.c2
    have C3 := Lib.hid H.out.c3
    have C4 := Lib.hid H.out.c4
    rw [HF.out]
    clear hok hr hx0 hx1 hm ht hb hrr
    go_enter Tryz.func107, Tryz.ntmps107
    go_wp2
    refine wp_region_gr (n := 27) [Fg.eq (.pointer (some ⟨p, 0, none⟩)), Fg.eq (.pointer (some ⟨p, 0, none⟩)), Fg.eq (.pointer (some ⟨p, 0, none⟩)), Fg.eq (.pointer (some ⟨p, 0, none⟩)), Fg.eq (.pointer (some ⟨p, 2, none⟩)), Fg.eq (.int .i64 (B.r : Int)), Fg.rat (B.r : Int) 1, Fg.eq (.pointer (some ⟨p, 0, none⟩)), Fg.eq (.pointer (some ⟨p, 0, none⟩)), Fg.eq (.pointer (some ⟨p, 4, none⟩)), Fg.eq (.pointer (some ⟨g, 0, none⟩)), Fg.eq (.int .i64 now), Fg.eq (.pointer (some ⟨p, 0, none⟩)), Fg.eq (.pointer (some ⟨p, 0, none⟩)), Fg.eq (.pointer (some ⟨p, 3, none⟩)), Fg.eq (.int .i64 s.last), Fg.eq (.int .i64 (now - s.last)), Fg.rat (now - s.last) 1, Fg.eq (.pointer (some ⟨p, 0, none⟩)), Fg.eq (.pointer (some ⟨p, 0, none⟩)), Fg.eq (.pointer (some ⟨p, 0, none⟩)), Fg.eq (.pointer (some ⟨p, 0, none⟩)), Fg.eq (.agg #[.int .i64 (B.b : Int), .int .i64 (B.t : Int)]), Fg.rat (B.b : Int) B.t, Fg.rat ((now - s.last) * (B.b : Int)) B.t, Fg.rat (s.x + (now - s.last) * (B.b : Int)) B.t, Fg.rat (min ((B.r : Int) * (B.t : Int)) (s.x + (now - s.last) * (B.b : Int))) B.t] [10, 11, 12, 13, 14, 15, 16, 17, 18, 19, 20, 21, 22, 23, 24, 25, 26, 27, 28, 29, 30, 31, 32, 33, 34, 35, 36] (by kernel_rfl) (by kernel_rfl) (by kernel_rfl) ?_ ?_
    · intro L i o a w1 hi ho hA
      have hgr : Gr w w1 := (Gr.refl w).drew.trans hA.gr
      match i, hi with
      | 0, _ =>
        obtain rfl := Option.some.inj ho
        exact gstep_val (r_move rfl (hA.other 0 (by decide))) rfl
      | 1, _ =>
        obtain rfl := Option.some.inj ho
        exact gstep_val (r_move rfl (hA.other 0 (by decide))) rfl
      | 2, _ =>
        obtain rfl := Option.some.inj ho
        exact gstep_val (r_nil rfl (hA.fact 1 (hA.dep 1 (by kernel_rfl) (by decide)))) rfl
      | 3, _ =>
        obtain rfl := Option.some.inj ho
        exact gstep_val (r_fa_millraceref_Filled_0 rfl (hA.fact 2 (hA.dep 2 (by kernel_rfl) (by decide)))) rfl
      | 4, _ =>
        obtain rfl := Option.some.inj ho
        exact gstep_val (r_fa_millraceref_Bucket_1 rfl (hA.fact 3 (hA.dep 3 (by kernel_rfl) (by decide)))) rfl
      | 5, _ =>
        obtain rfl := Option.some.inj ho
        exact gstep_val (r_loadI rfl (hA.fact 4 (hA.dep 4 (by kernel_rfl) (by decide))) (hgr.cell C2.out)) rfl
      | 6, _ =>
        obtain rfl := Option.some.inj ho
        refine gstep_call (r_call1 rfl rfl cfr_Int (hA.fact 5 (hA.dep 5 (by kernel_rfl) (by decide)))) ?_
        refine (HI1.out w1).mono ?_
        rintro e w2 ⟨g', rfl, _, hr, hg⟩
        exact ⟨_, rfl, hg, g', rfl, hr⟩
      | 7, _ =>
        obtain rfl := Option.some.inj ho
        exact gstep_val (r_move rfl (hA.other 0 (by decide))) rfl
      | 8, _ =>
        obtain rfl := Option.some.inj ho
        exact gstep_val (r_nil rfl (hA.fact 7 (hA.dep 7 (by kernel_rfl) (by decide)))) rfl
      | 9, _ =>
        obtain rfl := Option.some.inj ho
        exact gstep_val (r_fa_millraceref_Filled_2 rfl (hA.fact 8 (hA.dep 8 (by kernel_rfl) (by decide)))) rfl
      | 10, _ =>
        obtain rfl := Option.some.inj ho
        exact gstep_val (r_loadRat rfl (hA.fact 9 (hA.dep 9 (by kernel_rfl) (by decide))) (hgr.cell C4.out)) rfl
      | 11, _ =>
        obtain rfl := Option.some.inj ho
        exact gstep_val (r_move rfl (hA.other 1 (by decide))) rfl
      | 12, _ =>
        obtain rfl := Option.some.inj ho
        exact gstep_val (r_move rfl (hA.other 0 (by decide))) rfl
      | 13, _ =>
        obtain rfl := Option.some.inj ho
        exact gstep_val (r_nil rfl (hA.fact 12 (hA.dep 12 (by kernel_rfl) (by decide)))) rfl
      | 14, _ =>
        obtain rfl := Option.some.inj ho
        exact gstep_val (r_fa_millraceref_Filled_1 rfl (hA.fact 13 (hA.dep 13 (by kernel_rfl) (by decide)))) rfl
      | 15, _ =>
        obtain rfl := Option.some.inj ho
        exact gstep_val (r_loadI rfl (hA.fact 14 (hA.dep 14 (by kernel_rfl) (by decide))) (hgr.cell C3.out)) rfl
      | 16, _ =>
        obtain rfl := Option.some.inj ho
        exact gstep_val (r_sub rfl (hA.fact 11 (hA.dep 11 (by kernel_rfl) (by decide))) (hA.fact 15 (hA.dep 15 (by kernel_rfl) (by decide))) (by have := H1.out; omega)) rfl
      | 17, _ =>
        obtain rfl := Option.some.inj ho
        refine gstep_call (r_call1 rfl rfl cfr_Int (hA.fact 16 (hA.dep 16 (by kernel_rfl) (by decide)))) ?_
        refine (HI2.out w1).mono ?_
        rintro e w2 ⟨g', rfl, _, hr, hg⟩
        exact ⟨_, rfl, hg, g', rfl, hr⟩
      | 18, _ =>
        obtain rfl := Option.some.inj ho
        exact gstep_val (r_move rfl (hA.other 0 (by decide))) rfl
      | 19, _ =>
        obtain rfl := Option.some.inj ho
        exact gstep_val (r_nil rfl (hA.fact 18 (hA.dep 18 (by kernel_rfl) (by decide)))) rfl
      | 20, _ =>
        obtain rfl := Option.some.inj ho
        exact gstep_val (r_fa_millraceref_Filled_0 rfl (hA.fact 19 (hA.dep 19 (by kernel_rfl) (by decide)))) rfl
      | 21, _ =>
        obtain rfl := Option.some.inj ho
        exact gstep_val (r_fa_millraceref_Bucket_0 rfl (hA.fact 20 (hA.dep 20 (by kernel_rfl) (by decide)))) rfl
      | 22, _ =>
        obtain rfl := Option.some.inj ho
        exact gstep_val (r_loadRate rfl (hA.fact 21 (hA.dep 21 (by kernel_rfl) (by decide))) (hgr.cell C0.out) (hgr.cell C1.out)) rfl
      | 23, _ =>
        obtain rfl := Option.some.inj ho
        refine gstep_call (r_call1 rfl rfl cfr_Speed (hA.fact 22 (hA.dep 22 (by kernel_rfl) (by decide)))) ?_
        refine (speed_any B.b B.t w1 B.hb.2 ⟨B.ht.1, B.ht.2⟩).mono ?_
        rintro e w2 ⟨g', rfl, _, hr, hg⟩
        exact ⟨_, rfl, hg, g', rfl, hr⟩
      | 24, _ =>
        obtain rfl := Option.some.inj ho
        obtain ⟨g1, hv1, hr1⟩ := (hA.fact 17 (hA.dep 17 (by kernel_rfl) (by decide)))
        obtain ⟨g2, hv2, hr2⟩ := (hA.fact 23 (hA.dep 23 (by kernel_rfl) (by decide)))
        refine gstep_call (r_call2 rfl rfl cfr_mul hv1 hv2) ?_
        refine (HM.out g1 g2 w1 hr1 hr2).mono ?_
        rintro e w2 ⟨g', rfl, _, hr, hg⟩
        exact ⟨_, rfl, hg, g', rfl, hr⟩
      | 25, _ =>
        obtain rfl := Option.some.inj ho
        obtain ⟨g2, hv2, hr2⟩ := (hA.fact 24 (hA.dep 24 (by kernel_rfl) (by decide)))
        refine gstep_call (r_call2 rfl rfl cfr_add (hA.fact 10 (hA.dep 10 (by kernel_rfl) (by decide))) hv2) ?_
        refine (HA.out g g2 w1 (HR.out.gr hgr) hr2).mono ?_
        rintro e w2 ⟨g', rfl, _, hr, hg⟩
        exact ⟨_, rfl, hg, g', rfl, hr⟩
      | 26, _ =>
        obtain rfl := Option.some.inj ho
        obtain ⟨g1, hv1, hr1⟩ := (hA.fact 6 (hA.dep 6 (by kernel_rfl) (by decide)))
        obtain ⟨g2, hv2, hr2⟩ := (hA.fact 25 (hA.dep 25 (by kernel_rfl) (by decide)))
        refine gstep_call (r_call2 rfl rfl cfr_lesser hv1 hv2) ?_
        refine (HL.out g1 g2 w1 hr1 hr2).mono ?_
        rintro e w2 ⟨g', rfl, hr, hg⟩
        exact ⟨_, rfl, hg, g', rfl, hr⟩
      | k + 27, hk => exact absurd (show k + 27 < 27 from hk) (by omega)
    · intro vs w1 hg hv
      have HG := Lib.hid ((Gr.refl w).drew.trans hg)
      have v0 : vs 0 = .pointer (some ⟨p, 0, none⟩) := hv 0 (by omega)
      obtain ⟨g', v1, hr⟩ := hv 26 (by omega)
      have HS2 := Lib.hid (HS.out w1 g' HG.out hr)
      have HO2 := Lib.hid (HO.out w1 g' HG.out)
      have d3 := HG.out.cell C3.out
      have d4 := HG.out.cell C4.out
      have f3 := (H.out.gr HG.out).f3
      have f4 := (H.out.gr HG.out).f4
      have v26 : vs 26 = .pointer (some ⟨g', 0, none⟩) := v1
      clear hv hg hr v1 HS HO c3
      simp only [putN, List.drop_succ_cons, List.drop_zero, List.getElem?_cons_succ, List.getElem?_cons_zero]
      generalize vs 26 = u26 at *
      generalize vs 0 = u0 at *
      subst v26 v0
      go_wp2
      go_end0
      exact ⟨rfl, ⟨g', HS2.out⟩, HO2.out⟩
  · have HF := Lib.hid (B.fill_no hlt)
    rw [HF.out]
    clear hok
    go_enter Tryz.func107, Tryz.ntmps107
    go_wp2
    go_end0
    exact ⟨rfl, ⟨g, H.out⟩, Only.refl _ _ _⟩

theorem rtake_no (p g : Nat) (B : Bkt) (s : BSt) (now n : Int) (w : World) (h : FAt w p B s g) (hh : 1000000000 < now ∨ n < 0 ∨ 1000000 < n) :
    Calls Tryz.prog 105 #[.pointer (some ⟨p, 0, none⟩), .int .i64 now, .int .i64 n] w fun e w' => e = .returned (.bool false) ∧ FAt w' p B s g ∧ Only p 3 w w' := by
  have H := Lib.hid h
  clear h
  by_cases h1 : 1000000000 < now
  · clear hh
    go_enter Tryz.func105, Tryz.ntmps105
    go_wp2
    go_ret
    exact ⟨rfl, H.out, Only.refl _ _ _⟩
  · have HB := Lib.hid (fun u => within_no n 0 1000000 u (by omega))
    clear hh
    go_enter Tryz.func105, Tryz.ntmps105
    go_wp2_with (go_at_call 23; refine (HB.out _).mono ?_; rintro e w1 ⟨rfl, rfl⟩)
    go_ret
    exact ⟨rfl, H.out, Only.refl _ _ _⟩
set_option maxRecDepth 100000 in
set_option maxHeartbeats 8000000 in
theorem rtake_any (p g : Nat) (B : Bkt) (s : BSt) (now n : Int) (w : World) (h : FAt w p B s g) (hok : B.Ok s) (hn0 : -9223372036854775808 ≤ now) :
    Calls Tryz.prog 105 #[.pointer (some ⟨p, 0, none⟩), .int .i64 now, .int .i64 n] w fun e w' => e = .returned (.bool (B.take s now n).1) ∧ (∃ g', FAt w' p B (B.take s now n).2 g') ∧ Only p 3 w w' := by
  by_cases hh : 1000000000 < now ∨ n < 0 ∨ 1000000 < n
  · have HT : Hid (B.take s now n = (false, s)) := Lib.hid (by unfold Bkt.take; rw [if_pos hh])
    rw [HT.out]
    exact (rtake_no p g B s now n w h hh).mono fun e w' ⟨h1, h2, h3⟩ => ⟨h1, ⟨g, h2⟩, h3⟩
  · have g1 : ¬ 1000000000 < now := by omega
    have HB := Lib.hid (fun u => within_yes n 0 1000000 u (by omega) (by omega))
    have HF := Lib.hid (to_any p g B s now w h hok (by omega) hn0)
    have HOK := Lib.hid (B.fill_ok hok (now := now) (by omega))
    have hnd := B.need (n := n) (by omega)
    have HT : Hid (B.take s now n = if (B.fill s now).x < n * (B.t : Int) then (false, B.fill s now) else (true, ⟨(B.fill s now).last, (B.fill s now).x - n * (B.t : Int)⟩)) := Lib.hid (by unfold Bkt.take; rw [if_neg hh])
    have hx0 := HOK.out.x0
    have hx1 := HOK.out.x1
    have hr := B.room
    have ht := B.ht
    have hn2 : 0 ≤ n ∧ n ≤ 1000000 := by omega
    have HI := Lib.hid (fun u => refInt_any n u (by omega))
    rw [HT.out]
    clear h hok hh HT
    generalize B.fill s now = s' at *
    have HC : Hid (∀ g1 g2 u, RatV u g1 s'.x B.t → RatV u g2 n 1 → Calls Tryz.prog 108 #[.pointer (some ⟨g1, 0, none⟩), .pointer (some ⟨g2, 0, none⟩)] u fun e w' => e = .returned (.int .i64 (sg s'.x (n * (B.t : Int)))) ∧ Gr u w') := Lib.hid (fun g1 g2 u h1 h2 => by
      have := ratcmp_any g1 g2 _ _ _ _ u h1 h2 ⟨ltb5 (by omega), ltb5 (by omega), by omega, by omega, by omega⟩
      rwa [show ((1 : Nat) : Int) = 1 from rfl, Int.mul_one] at this)
    have HSB : Hid (∀ g1 g2 u, RatV u g1 s'.x B.t → RatV u g2 n 1 → Calls Tryz.prog 109 #[.pointer (some ⟨g1, 0, none⟩), .pointer (some ⟨g2, 0, none⟩)] u (NewR (s'.x - n * (B.t : Int)) B.t u)) := Lib.hid (fun g1 g2 u h1 h2 => by
      have := refsub_any g1 g2 _ _ _ _ u h1 h2 ⟨ltb5 (by omega), ltb5 (by omega), by omega, by omega, by omega⟩
      rwa [show ((1 : Nat) : Int) = 1 from rfl, Int.mul_one, Nat.mul_one] at this)
    clear hnd hx0 hx1 hr ht hn2
    have hsg := sg_in s'.x (n * (B.t : Int))
    have HSG : Hid (s'.x < n * (B.t : Int) ↔ sg s'.x (n * (B.t : Int)) < 0) := Lib.hid (by unfold sg; split; simp_all; split <;> simp_all)
    generalize hsd : sg s'.x (n * (B.t : Int)) = sd at *
    have hs2 : -1 ≤ sd ∧ sd ≤ 1 := by omega
    clear hsg hsd
    obtain ⟨R, hR⟩ : ∃ R, R = if s'.x < n * (B.t : Int) then (false, s') else (true, (⟨s'.last, s'.x - n * (B.t : Int)⟩ : BSt)) := ⟨_, rfl⟩
    rw [← hR]
    have HR1 : Hid (sd < 0 → R = (false, s')) := Lib.hid (fun h => by rw [hR, if_pos (HSG.out.2 h)])
    have HR2 : Hid (¬ sd < 0 → R = (true, ⟨s'.last, s'.x - n * (B.t : Int)⟩)) := Lib.hid (fun h => by rw [hR, if_neg (fun k => h (HSG.out.1 k))])
    clear hR HSG
    go_enter Tryz.func105, Tryz.ntmps105
    go_wp2_with (first
      | (go_at_call 23; refine (HB.out _).mono ?_; rintro e w0 ⟨rfl, rfl⟩)
      | (go_at_call 107; refine HF.out.mono ?_; rintro e w2 ⟨rfl, ⟨g2, hs⟩, ho⟩; have H := Lib.hid hs; have HO := Lib.hid ho; clear hs ho))
    have HR := Lib.hid H.out.rat
    have C4 := Lib.hid H.out.c4
    refine wp_region_gr (n := 7) [Fg.eq (.pointer (some ⟨p, 0, none⟩)), Fg.eq (.pointer (some ⟨p, 0, none⟩)), Fg.eq (.pointer (some ⟨p, 4, none⟩)), Fg.eq (.pointer (some ⟨g2, 0, none⟩)), Fg.eq (.int .i64 n), Fg.rat n 1, Fg.eq (.int .i64 sd)] [17, 18, 19, 20, 21, 22, 23] (by kernel_rfl) (by kernel_rfl) (by kernel_rfl) ?_ ?_
    · intro L i o a w1 hi ho hA
      have hgr : Gr w2 w1 := (Gr.refl w2).drew.trans hA.gr
      match i, hi with
      | 0, _ =>
        obtain rfl := Option.some.inj ho
        exact gstep_val (r_move rfl (hA.other 0 (by decide))) rfl
      | 1, _ =>
        obtain rfl := Option.some.inj ho
        exact gstep_val (r_nil rfl (hA.fact 0 (hA.dep 0 (by kernel_rfl) (by decide)))) rfl
      | 2, _ =>
        obtain rfl := Option.some.inj ho
        exact gstep_val (r_fa_millraceref_Filled_2 rfl (hA.fact 1 (hA.dep 1 (by kernel_rfl) (by decide)))) rfl
      | 3, _ =>
        obtain rfl := Option.some.inj ho
        exact gstep_val (r_loadRat rfl (hA.fact 2 (hA.dep 2 (by kernel_rfl) (by decide))) (hgr.cell C4.out)) rfl
      | 4, _ =>
        obtain rfl := Option.some.inj ho
        exact gstep_val (r_move rfl (hA.other 2 (by decide))) rfl
      | 5, _ =>
        obtain rfl := Option.some.inj ho
        refine gstep_call (r_call1 rfl rfl cfr_Int (hA.fact 4 (hA.dep 4 (by kernel_rfl) (by decide)))) ?_
        refine (HI.out w1).mono ?_
        rintro e w2 ⟨g', rfl, _, hr, hg⟩
        exact ⟨_, rfl, hg, g', rfl, hr⟩
      | 6, _ =>
        obtain rfl := Option.some.inj ho
        obtain ⟨g1, hv1, hr1⟩ := (hA.fact 5 (hA.dep 5 (by kernel_rfl) (by decide)))
        refine gstep_call (r_call2 rfl rfl cfr_rcmp (hA.fact 3 (hA.dep 3 (by kernel_rfl) (by decide))) hv1) ?_
        refine (HC.out g2 g1 w1 (HR.out.gr hgr) hr1).mono ?_
        rintro e w3 ⟨rfl, hg⟩
        exact ⟨_, rfl, hg, rfl⟩
    · intro vs w3 hg hv
      have HG := Lib.hid ((Gr.refl w2).drew.trans hg)
      have v6 : vs 6 = .int .i64 sd := hv 6 (by omega)
      clear hv hg
      simp only [putN, List.drop_succ_cons, List.drop_zero, List.getElem?_cons_succ, List.getElem?_cons_zero]
      generalize vs 6 = u6 at *
      subst v6
      by_cases hlt : sd < 0
      · have HR1 := Lib.hid (HR1.out (by omega))
        go_wp2
        go_ret
        exact ⟨by rw [HR1.out]; rfl, ⟨g2, by rw [HR1.out]; exact H.out.gr HG.out⟩, HO.out.trans (.of_gr HG.out)⟩
      · have HR2 := Lib.hid (HR2.out (by omega))
        have H := Lib.hid (H.out.gr HG.out)
        have HO := Lib.hid (HO.out.trans (.of_gr HG.out))
        have HR := Lib.hid H.out.rat
        have C4 := Lib.hid H.out.c4
        clear HG hs2
        go_wp2
        refine wp_region_gr (n := 8) [Fg.eq (.pointer (some ⟨p, 0, none⟩)), Fg.eq (.pointer (some ⟨p, 0, none⟩)), Fg.eq (.pointer (some ⟨p, 0, none⟩)), Fg.eq (.pointer (some ⟨p, 4, none⟩)), Fg.eq (.pointer (some ⟨g2, 0, none⟩)), Fg.eq (.int .i64 n), Fg.rat n 1, Fg.rat (s'.x - n * (B.t : Int)) B.t] [25, 26, 27, 28, 29, 30, 31, 32] (by kernel_rfl) (by kernel_rfl) (by kernel_rfl) ?_ ?_
        · intro L i o a w1 hi ho hA
          have hgr : Gr w3 w1 := (Gr.refl w3).drew.trans hA.gr
          match i, hi with
          | 0, _ =>
            obtain rfl := Option.some.inj ho
            exact gstep_val (r_move rfl (hA.other 0 (by decide))) rfl
          | 1, _ =>
            obtain rfl := Option.some.inj ho
            exact gstep_val (r_move rfl (hA.other 0 (by decide))) rfl
          | 2, _ =>
            obtain rfl := Option.some.inj ho
            exact gstep_val (r_nil rfl (hA.fact 1 (hA.dep 1 (by kernel_rfl) (by decide)))) rfl
          | 3, _ =>
            obtain rfl := Option.some.inj ho
            exact gstep_val (r_fa_millraceref_Filled_2 rfl (hA.fact 2 (hA.dep 2 (by kernel_rfl) (by decide)))) rfl
          | 4, _ =>
            obtain rfl := Option.some.inj ho
            exact gstep_val (r_loadRat rfl (hA.fact 3 (hA.dep 3 (by kernel_rfl) (by decide))) (hgr.cell C4.out)) rfl
          | 5, _ =>
            obtain rfl := Option.some.inj ho
            exact gstep_val (r_move rfl (hA.other 2 (by decide))) rfl
          | 6, _ =>
            obtain rfl := Option.some.inj ho
            refine gstep_call (r_call1 rfl rfl cfr_Int (hA.fact 5 (hA.dep 5 (by kernel_rfl) (by decide)))) ?_
            refine (HI.out w1).mono ?_
            rintro e w2 ⟨g', rfl, _, hr, hg⟩
            exact ⟨_, rfl, hg, g', rfl, hr⟩
          | 7, _ =>
            obtain rfl := Option.some.inj ho
            obtain ⟨g1, hv1, hr1⟩ := (hA.fact 6 (hA.dep 6 (by kernel_rfl) (by decide)))
            refine gstep_call (r_call2 rfl rfl cfr_sub (hA.fact 4 (hA.dep 4 (by kernel_rfl) (by decide))) hv1) ?_
            refine (HSB.out g2 g1 w1 (HR.out.gr hgr) hr1).mono ?_
            rintro e w4 ⟨g', rfl, _, hr, hg⟩
            exact ⟨_, rfl, hg, g', rfl, hr⟩
        · intro vs w4 hg hv
          have HG := Lib.hid ((Gr.refl w3).drew.trans hg)
          have v0 : vs 0 = .pointer (some ⟨p, 0, none⟩) := hv 0 (by omega)
          obtain ⟨g', v7, hr⟩ := hv 7 (by omega)
          have v7' : vs 7 = .pointer (some ⟨g', 0, none⟩) := v7
          have HS2 := Lib.hid ((H.out.gr HG.out).set4 hr)
          have HO2 := Lib.hid (HO.out.trans ((Only.of_gr HG.out).trans (only_set4 (p := p) (.pointer (some ⟨g', 0, none⟩)))))
          have d4 := HG.out.cell C4.out
          have f4 := (H.out.gr HG.out).f4
          clear hv hg hr v7
          simp only [putN, List.drop_succ_cons, List.drop_zero, List.getElem?_cons_succ, List.getElem?_cons_zero]
          generalize vs 7 = u7 at *
          generalize vs 0 = u0 at *
          subst v7' v0
          go_wp2
          go_ret
          exact ⟨by rw [HR2.out]; rfl, ⟨g', by rw [HR2.out]; exact HS2.out⟩, HO2.out⟩
end Go.Proofs.YtgifghbnpdanhaaGreatDoor

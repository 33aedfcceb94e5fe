/-
  millracelaw.CurveMakes at any rate, number and ticks.
-/
import Derived.Test.YtlaoapdgkkgmhaaDoorLineC
namespace Go.Proofs.YtlaoapdgkkgmhaaDoor
open Go.RowKit Go.Extern.Stop Go.Stop Go.Extern

set_option maxRecDepth 100000 in
set_option maxHeartbeats 8000000 in
theorem curveMakes_bad (w : World) (hg : Glob w) (b t n k : Int) (hb : Bd b) (ht : Bd t) (hn : Bd n) (hk : Bd k) (hc : ckLine b t n k ≠ 0) :
    Calls Tryd.prog 4 #[.agg #[.int .i64 b, .int .i64 t], .int .i64 n, .int .i64 k] w fun e w' => e = .returned (.bool true) ∧ Gr w w' := by
  have HG0 := Lib.hid ((Gr.refl w).alloc (.cells #[.int .i64 b, .int .i64 t] 23))
  have hc0 : (w.alloc (.cells #[.int .i64 b, .int .i64 t] 23)).cell? ⟨w.heap.size, 0, none⟩ = some (.int .i64 b) := by simp
  have hc1 : (w.alloc (.cells #[.int .i64 b, .int .i64 t] 23)).cell? ⟨w.heap.size, 1, none⟩ = some (.int .i64 t) := by simp
  have C0 := Lib.hid hc0
  have C1 := Lib.hid hc1
  have HGl := Lib.hid hg
  have HL := Lib.hid (fun u => lineCheck_any b t n k u)
  have HU := Lib.hid (fun u => burst_bad b t n k u hb ht hn hk hc)
  have HA := Lib.hid (fun u => late_bad b t n k u hb ht hn hk hc)
  have hcb : ((ckLine b t n k : Int) == 0) = false := by simpa using hc
  clear hg hb ht hn hk hc hc0 hc1
  generalize ckLine b t n k = c at *
  have tok1 := trivial
  go_enter Tryd.func4, Tryd.ntmps4
  go_wp2_with (first
    | (go_at_call 10; refine (HL.out _).mono ?_; rintro e w1 ⟨rfl, hg1⟩; have HB1 := Lib.hid hg1; have c0 := hg1.cell C0.out; have c1 := hg1.cell C1.out; clear hg1)
    | (go_at_call 12; refine (HU.out _).mono ?_; rintro e w2 ⟨rfl, hg2⟩; have HB2 := Lib.hid (HB1.out.trans hg2); have c2 := HB2.out.cell C0.out; have c3 := HB2.out.cell C1.out; clear hg2 c0 c1)
    | (go_at_call 13; refine (HA.out _).mono ?_; rintro e w3 ⟨rfl, hg3⟩; have HG3 := Lib.hid (HG0.out.trans (HB2.out.trans hg3)); clear hg3 c2 c3)
    | (go_at_call 6; have _ := tok1; refine (bare_true _ (HGl.out.gr HG3.out) (ErrIs.no _ _)).mono ?_; rintro e w4 ⟨rfl, hg4⟩; have HG4 := Lib.hid (HG3.out.trans hg4); clear hg4 tok1; have tok2 := trivial)
    | (go_at_call 6; have _ := tok2; refine (bare_true _ (HGl.out.gr HG4.out) (ErrIs.no _ _)).mono ?_; rintro e w5 ⟨rfl, hg5⟩; have HG5 := Lib.hid (HG4.out.trans hg5); clear hg5 tok2; have tok3 := trivial)
    | (go_at_call 14; have _ := tok3; refine (sameInts_nil none none 0 0 _).mono ?_; rintro e w6 ⟨rfl, hg6⟩; have HG6 := Lib.hid (HG5.out.trans hg6); clear hg6 tok3; have tok4 := trivial)
    | (go_at_call 14; have _ := tok4; refine (sameInts_nil none none 0 0 _).mono ?_; rintro e w7 ⟨rfl, hg7⟩; have HG7 := Lib.hid (HG6.out.trans hg7); clear hg7 tok4))
  go_ret
  exact ⟨rfl, HG7.out⟩

set_option maxRecDepth 100000 in
set_option maxHeartbeats 8000000 in
theorem curveMakes_ok (w : World) (hg : Glob w) (b t n q : Nat) (hb : 1 ≤ b ∧ b ≤ 1000000) (ht : 1 ≤ t ∧ t ≤ 1000000) (hn : n ≤ 1000000) (hq : q ≤ 200) :
    Calls Tryd.prog 4 #[.agg #[.int .i64 (b : Int), .int .i64 (t : Int)], .int .i64 (n : Int), .int .i64 (q : Int)] w fun e w' => e = .returned (.bool true) ∧ Gr w w' := by
  have HG0 := Lib.hid ((Gr.refl w).alloc (.cells #[.int .i64 (b : Int), .int .i64 (t : Int)] 23))
  have hc0 : (w.alloc (.cells #[.int .i64 (b : Int), .int .i64 (t : Int)] 23)).cell? ⟨w.heap.size, 0, none⟩ = some (.int .i64 (b : Int)) := by simp
  have hc1 : (w.alloc (.cells #[.int .i64 (b : Int), .int .i64 (t : Int)] 23)).cell? ⟨w.heap.size, 1, none⟩ = some (.int .i64 (t : Int)) := by simp
  have C0 := Lib.hid hc0
  have C1 := Lib.hid hc1
  have HGl := Lib.hid hg
  have HL := Lib.hid (fun u => lineCheck_any (b : Int) (t : Int) (n : Int) (q : Int) u)
  rw [ckLine_ok ⟨⟨by omega, by omega⟩, by omega⟩ (by omega)] at HL
  have HU := Lib.hid (fun u => burst_ok b t n q u hb ht hn hq)
  have HA := Lib.hid (fun u => late_ok b t n q u hb ht hn hq)
  have HR1 := Lib.hid (fun u => rline_any b t n 0 q u hb ht hn (by omega) hq)
  have HR2 := Lib.hid (fun u => rline_any b t 0 n q u hb ht (by omega) hn hq)
  rw [Int.natCast_zero] at HR1 HR2
  clear hg hb ht hn hq hc0 hc1
  have tok1 := trivial
  go_enter Tryd.func4, Tryd.ntmps4
  go_wp2_with (go_at_call 10; refine (HL.out _).mono ?_; rintro e w1 ⟨rfl, hg1⟩; have HB1 := Lib.hid hg1; have c0 := hg1.cell C0.out; have c1 := hg1.cell C1.out; clear hg1)
  have D0 := Lib.hid c0
  have D1 := Lib.hid c1
  go_region_held3 (fun w' => w'.cell? ⟨w.heap.size, 0, none⟩ = some (.int .i64 (b : Int)) ∧ w'.cell? ⟨w.heap.size, 1, none⟩ = some (.int .i64 (t : Int)))
    (first
      | exact ⟨((((Gr.refl w1).drew).trans hg2).trans hg3).cell D0.out, ((((Gr.refl w1).drew).trans hg2).trans hg3).cell D1.out⟩
      | exact ⟨(((Gr.refl w1).drew).trans hg2).cell D0.out, (((Gr.refl w1).drew).trans hg2).cell D1.out⟩
      | go_keep)
    (first
      | (go_at_call 11; have _ := tok1; refine (HR1.out _).mono ?_; rintro e w2 ⟨ra, rfl, hra, hg2⟩; clear tok1; have tok2 := trivial)
      | (go_at_call 11; have _ := tok2; refine (HR2.out _).mono ?_; rintro e w3 ⟨rb, rfl, hrb, hg3⟩; clear tok2))
  have HB3 := Lib.hid (((HB1.out.drew).trans hg2).trans hg3)
  have HRA := Lib.hid (hra.gr hg3)
  have HRB := Lib.hid hrb
  have c4 := HB3.out.cell C0.out
  have c5 := HB3.out.cell C1.out
  clear hra hrb hg2 hg3 c0 c1
  have tok1 := trivial
  go_wp2_with (first
    | (go_at_call 12; refine (HU.out _).mono ?_; rintro e w4 ⟨r, rfl, hr, hg4⟩; have HB4 := Lib.hid (HB3.out.trans hg4); have c6 := HB4.out.cell C0.out; have c7 := HB4.out.cell C1.out; have HX4 := Lib.hid hr; have HRA4 := Lib.hid (HRA.out.gr hg4); have HRB4 := Lib.hid (HRB.out.gr hg4); clear hg4 c4 c5 hr)
    | (go_at_call 13; refine (HA.out _).mono ?_; rintro e w5 ⟨r5, rfl, hr, hg5⟩; have HG5 := Lib.hid (HG0.out.trans (HB4.out.trans hg5)); have HX5 := Lib.hid (HX4.out.gr hg5); have HY5 := Lib.hid hr; have HRA5 := Lib.hid (HRA4.out.gr hg5); have HRB5 := Lib.hid (HRB4.out.gr hg5); clear hg5 c6 c7 hr)
    | (go_at_call 6; have _ := tok1; refine (bare_true _ (HGl.out.gr HG5.out) (ErrIs.nil _)).mono ?_; rintro e w6 ⟨rfl, hg6⟩; have HG6 := Lib.hid (HG5.out.trans hg6); have HS6 := Lib.hid hg6; clear hg6 tok1; have tok2 := trivial)
    | (go_at_call 6; have _ := tok2; refine (bare_true _ (HGl.out.gr HG6.out) (ErrIs.nil _)).mono ?_; rintro e w7 ⟨rfl, hg7⟩; have HG7 := Lib.hid (HG6.out.trans hg7); have HS7 := Lib.hid (HS6.out.trans hg7); clear hg7 tok2; have tok3 := trivial)
    | (go_at_call 14; have _ := tok3; refine (sameInts_any _ (HX5.out.gr HS7.out) (HRA5.out.gr HS7.out)).mono ?_; rintro e w8 ⟨rfl, hg8⟩; have HG8 := Lib.hid (HG7.out.trans hg8); have HS8 := Lib.hid (HS7.out.trans hg8); clear hg8 tok3; have tok4 := trivial)
    | (go_at_call 14; have _ := tok4; refine (sameInts_any _ (HY5.out.gr HS8.out) (HRB5.out.gr HS8.out)).mono ?_; rintro e w9 ⟨rfl, hg9⟩; have HG9 := Lib.hid (HG8.out.trans hg9); clear hg9 tok4))
  go_ret
  exact ⟨rfl, HG9.out⟩

theorem curveMakes_walk (w : World) (hg : Glob w) (b t : Int) (hbt : Bd b ∧ Bd t) (n : Int) (n1 : -9223372036854775808 ≤ n) (n2 : n ≤ 9223372036854775807) (k : Int) (k1 : -9223372036854775808 ≤ k) (k2 : k ≤ 9223372036854775807) :
    Calls Tryd.prog 4 #[.agg #[.int .i64 b, .int .i64 t], .int .i64 n, .int .i64 k] w fun e w' => e = .returned (.bool true) ∧ Gr w w' := by
  by_cases hc : ckLine b t n k = 0
  · have h1 : RateIn b t ∧ 0 ≤ n ∧ n ≤ 1000000 := Classical.byContradiction fun h => by
      rw [ckLine_two h] at hc; exact absurd hc (by decide)
    have h2 : 0 ≤ k ∧ k ≤ 200 := Classical.byContradiction fun h => by
      rw [ckLine_four h1 (by omega)] at hc; exact absurd hc (by decide)
    obtain ⟨⟨⟨y1, y2⟩, y3, y4⟩, y5, y6⟩ := h1
    obtain ⟨b', rfl⟩ := Int.eq_ofNat_of_zero_le (show 0 ≤ b by omega)
    obtain ⟨t', rfl⟩ := Int.eq_ofNat_of_zero_le (show 0 ≤ t by omega)
    obtain ⟨n', rfl⟩ := Int.eq_ofNat_of_zero_le y5
    obtain ⟨k', rfl⟩ := Int.eq_ofNat_of_zero_le h2.1
    exact curveMakes_ok w hg b' t' n' k' (by omega) (by omega) (by omega) (by omega)
  · exact curveMakes_bad w hg b t n k hbt.1 hbt.2 ⟨n1, n2⟩ ⟨k1, k2⟩ hc
end Go.Proofs.YtlaoapdgkkgmhaaDoor

/-
  millracelaw.ItemTakes at any rate and any number of bytes.
-/
import Derived.Test.YtlaoapdgkkgmhaaDoorTakes
namespace Go.Proofs.YtlaoapdgkkgmhaaDoor
open Go.RowKit Go.Extern.Stop Go.Stop Go.Extern

set_option maxRecDepth 100000 in
set_option maxHeartbeats 8000000 in
theorem itemTakes_walk (w : World) (hg : Glob w) (b t : Int) (hbt : Bd b ∧ Bd t) (n : Int) (n1 : -9223372036854775808 ≤ n) (n2 : n ≤ 9223372036854775807) :
    Calls Tryd.prog 3 #[.agg #[.int .i64 b, .int .i64 t], .int .i64 n] w fun e w' => e = .returned (.bool true) ∧ Gr w w' := by
  have HG0 := Lib.hid ((Gr.refl w).alloc (.cells #[.int .i64 b, .int .i64 t] 23))
  have hc0 : (w.alloc (.cells #[.int .i64 b, .int .i64 t] 23)).cell? ⟨w.heap.size, 0, none⟩ = some (.int .i64 b) := by simp
  have hc1 : (w.alloc (.cells #[.int .i64 b, .int .i64 t] 23)).cell? ⟨w.heap.size, 1, none⟩ = some (.int .i64 t) := by simp
  have C0 := Lib.hid hc0
  have C1 := Lib.hid hc1
  have HGl := Lib.hid hg
  have HBT := Lib.hid hbt
  clear hg hbt hc0 hc1
  by_cases hr : RateIn b t
  · have HC := Lib.hid (ckRate_ok hr)
    have HCE := Lib.hid (errV_zero (ckRate_ok hr))
    by_cases hn : n < 0
    · clear hr
      go_enter Tryd.func3, Tryd.ntmps3
      go_wp2_with (first
        | (go_at_call 5; refine (rateCheck_any b t _).mono ?_; rintro e w1 ⟨rfl, hg1⟩; rw [HC.out]; have c0 := hg1.cell C0.out; have c1 := hg1.cell C1.out; have HG1 := Lib.hid (HG0.out.trans hg1); clear hg1)
        | (go_at_call 7; refine (speed_check b t _ HBT.out.1 HBT.out.2).mono ?_; rintro e w2 ⟨rfl, hg2⟩; rw [HCE.out]; have HG2 := Lib.hid (HG1.out.trans hg2); clear hg2 c0 c1)
        | (go_at_call 6; refine (bare_true _ (HGl.out.gr HG2.out) (ErrIs.nil _)).mono ?_; rintro e w3 ⟨rfl, hg3⟩; have HG3 := Lib.hid (HG2.out.trans hg3); clear hg3))
      go_quiet (fail)
      go_wp2
      go_ret
      exact ⟨rfl, HG3.out.drewN _⟩
    · by_cases hn' : 1000000 < n
      · clear hr
        go_enter Tryd.func3, Tryd.ntmps3
        go_wp2_with (first
          | (go_at_call 5; refine (rateCheck_any b t _).mono ?_; rintro e w1 ⟨rfl, hg1⟩; rw [HC.out]; have c0 := hg1.cell C0.out; have c1 := hg1.cell C1.out; have HG1 := Lib.hid (HG0.out.trans hg1); clear hg1)
          | (go_at_call 7; refine (speed_check b t _ HBT.out.1 HBT.out.2).mono ?_; rintro e w2 ⟨rfl, hg2⟩; rw [HCE.out]; have HG2 := Lib.hid (HG1.out.trans hg2); clear hg2 c0 c1)
          | (go_at_call 6; refine (bare_true _ (HGl.out.gr HG2.out) (ErrIs.nil _)).mono ?_; rintro e w3 ⟨rfl, hg3⟩; have HG3 := Lib.hid (HG2.out.trans hg3); clear hg3))
        go_quiet (fail)
        go_wp2
        go_ret
        exact ⟨rfl, HG3.out.drewN _⟩
      · obtain ⟨n', rfl⟩ := Int.eq_ofNat_of_zero_le (show 0 ≤ n by omega)
        obtain ⟨b', rfl⟩ := Int.eq_ofNat_of_zero_le (show 0 ≤ b by have := hr.1.1; omega)
        obtain ⟨t', rfl⟩ := Int.eq_ofNat_of_zero_le (show 0 ≤ t by have := hr.2.1; omega)
        have HR := Lib.hid (show (1 ≤ b' ∧ b' ≤ 1000000) ∧ (1 ≤ t' ∧ t' ≤ 1000000) ∧ n' ≤ 1000000 from by obtain ⟨⟨h1, h2⟩, h3, h4⟩ := hr; omega)
        have HT := Lib.hid (fun u => takes_any b' t' n' u HR.out.1 HR.out.2.1 HR.out.2.2)
        have HT' := Lib.hid (fun u => rtakes_any b' t' n' u HR.out.1 HR.out.2.1 HR.out.2.2)
        clear hr
        generalize -((-((n' : Int) * (t' : Int))) / (b' : Int)) = q at *
        generalize (n' : Int) = m at *
        have g0 : decide (m < 0) = false := by simpa using hn
        have g1 : decide (1000000 < m) = false := by simpa using hn'
        go_enter Tryd.func3, Tryd.ntmps3
        go_wp2_with (first
          | (go_at_call 5; refine (rateCheck_any _ _ _).mono ?_; rintro e w1 ⟨rfl, hg1⟩; rw [HC.out]; have c0 := hg1.cell C0.out; have c1 := hg1.cell C1.out; have HG1 := Lib.hid (HG0.out.trans hg1); have HB1 := Lib.hid hg1; clear hg1)
          | (go_at_call 7; refine (speed_check _ _ _ HBT.out.1 HBT.out.2).mono ?_; rintro e w2 ⟨rfl, hg2⟩; rw [HCE.out]; have HG2 := Lib.hid (HG1.out.trans hg2); have HB2 := Lib.hid (HB1.out.trans hg2); clear hg2 c0 c1)
          | (go_at_call 6; refine (bare_true _ (HGl.out.gr HG2.out) (ErrIs.nil _)).mono ?_; rintro e w3 ⟨rfl, hg3⟩; have HG3 := Lib.hid (HG2.out.trans hg3); have HB3 := Lib.hid (HB2.out.trans hg3); clear hg3))
        have d0 := HB3.out.cell C0.out
        have d1 := HB3.out.cell C1.out
        have D0 := Lib.hid d0
        have D1 := Lib.hid d1
        go_region_held3 (fun w' => w'.cell? ⟨w.heap.size, 0, none⟩ = some (.int .i64 (b' : Int)) ∧ w'.cell? ⟨w.heap.size, 1, none⟩ = some (.int .i64 (t' : Int)))
          (first
            | exact ⟨((((Gr.refl w3).drew).trans hg4).trans hg5).cell D0.out, ((((Gr.refl w3).drew).trans hg4).trans hg5).cell D1.out⟩
            | exact ⟨(((Gr.refl w3).drew).trans hg4).cell D0.out, (((Gr.refl w3).drew).trans hg4).cell D1.out⟩
            | go_keep)
          (first
            | (go_at_call 8; refine (HT.out _).mono ?_; rintro e w4 ⟨rfl, hg4⟩)
            | (go_at_call 9; refine (HT'.out _).mono ?_; rintro e w5 ⟨rfl, hg5⟩))
        have HG5 := Lib.hid (((HG3.out.drew).trans hg4).trans hg5)
        clear hg4 hg5
        go_wp2
        go_ret
        exact ⟨by simp, HG5.out⟩
  · have HC := Lib.hid (ckRate_no hr)
    have HCE : Hid (errV (ckRate b t) = .iface 24 (.int .i64 2)) := Lib.hid (by rw [ckRate_no hr]; exact errV_ne (by decide))
    clear hr
    go_enter Tryd.func3, Tryd.ntmps3
    go_wp2_with (first
      | (go_at_call 5; refine (rateCheck_any b t _).mono ?_; rintro e w1 ⟨rfl, hg1⟩; rw [HC.out]; have c0 := hg1.cell C0.out; have c1 := hg1.cell C1.out; have HG1 := Lib.hid (HG0.out.trans hg1); clear hg1)
      | (go_at_call 7; refine (speed_check b t _ HBT.out.1 HBT.out.2).mono ?_; rintro e w2 ⟨rfl, hg2⟩; rw [HCE.out]; have HG2 := Lib.hid (HG1.out.trans hg2); clear hg2 c0 c1)
      | (go_at_call 6; refine (bare_true _ (HGl.out.gr HG2.out) (ErrIs.no _ _)).mono ?_; rintro e w3 ⟨rfl, hg3⟩; have HG3 := Lib.hid (HG2.out.trans hg3); clear hg3))
    go_quiet (fail)
    go_wp2
    go_ret
    exact ⟨rfl, HG3.out.drewN _⟩
end Go.Proofs.YtlaoapdgkkgmhaaDoor

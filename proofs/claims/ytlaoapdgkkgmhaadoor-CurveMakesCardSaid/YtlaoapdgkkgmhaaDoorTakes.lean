/-
  How many ticks bytes take: item.Takes, millraceref.Takes, millracelaw.ItemTakes.
-/
import Derived.Test.YtlaoapdgkkgmhaaDoorRefU
import Derived.Test.YtlaoapdgkkgmhaaDoorRate
import Derived.Deep.RegionWith
import Derived.Deep.RegionHeld3
namespace Go.Proofs.YtlaoapdgkkgmhaaDoor
open Go.RowKit Go.Extern.Stop Go.Stop Go.Extern

theorem ceil_eq {n b : Int} (hb : 1 ≤ b) : (n + b - 1) / b = -((-n) / b) := by
  have h1 := Int.mul_ediv_add_emod (n + b - 1) b
  have h2 := Int.mul_ediv_add_emod (-n) b
  have h3 := Int.emod_nonneg (n + b - 1) (by omega : b ≠ 0)
  have h4 := Int.emod_lt_of_pos (n + b - 1) (by omega : 0 < b)
  have h5 := Int.emod_nonneg (-n) (by omega : b ≠ 0)
  have h6 := Int.emod_lt_of_pos (-n) (by omega : 0 < b)
  have h7 : b * ((n + b - 1) / b + (-n) / b) = b - 1 - (n + b - 1) % b - (-n) % b := by rw [Int.mul_add]; omega
  generalize (n + b - 1) / b = q at *
  generalize (-n) / b = r at *
  have h8 : q + r = 0 := by
    rcases Int.lt_trichotomy (q + r) 0 with h | h | h
    · have : b * (q + r) ≤ b * (-1) := Int.mul_le_mul_of_nonneg_left (by omega) (by omega)
      omega
    · exact h
    · have : b * 1 ≤ b * (q + r) := Int.mul_le_mul_of_nonneg_left (by omega) (by omega)
      omega
  omega

set_option maxRecDepth 100000 in
set_option maxHeartbeats 4000000 in
theorem takes_any (b t n : Nat) (w : World) (hb : 1 ≤ b ∧ b ≤ 1000000) (ht : 1 ≤ t ∧ t ≤ 1000000) (hn : n ≤ 1000000) :
    Calls Tryd.prog 8 #[.agg #[.int .i64 (b : Int), .int .i64 (t : Int)], .int .i64 (n : Int)] w fun e w' => e = .returned (.int .i64 (-((-((n : Int) * (t : Int))) / (b : Int)))) ∧ Gr w w' := by
  have HE := Lib.hid (ceil_eq (n := (n : Int) * (t : Int)) (b := (b : Int)) (by omega))
  have hm : 0 ≤ (n : Int) * (t : Int) ∧ (n : Int) * (t : Int) ≤ 1000000000000 := by
    refine ⟨Int.mul_nonneg (by omega) (by omega), ?_⟩
    have := Nat.mul_le_mul hn ht.2
    have h2 : ((n * t : Nat) : Int) = (n : Int) * (t : Int) := by simp
    omega
  rw [← HE.out]
  clear HE
  have HG := Lib.hid ((Gr.refl w).alloc (.cells #[.int .i64 (b : Int), .int .i64 (t : Int)] 23))
  have b1 : (1 : Int) ≤ (b : Int) := by omega
  have b2 : (b : Int) ≤ 1000000 := by omega
  have b3 : ((b : Int) == 0) = false := by simp; omega
  clear hn
  generalize (n : Int) = n' at *
  generalize (t : Int) = t' at *
  generalize (b : Int) = b' at *
  generalize hmm : n' * t' = m at *
  have hw : IntKind.i64.wrap m = m := by rw [IntKind.wrap_i64]; omega
  go_enter Tryd.func8, Tryd.ntmps8
  go_wp2
  go_ret
  exact ⟨rfl, HG.out⟩

set_option maxRecDepth 100000 in
set_option maxHeartbeats 8000000 in
theorem rtakes_any (b t n : Nat) (w : World) (hb : 1 ≤ b ∧ b ≤ 1000000) (ht : 1 ≤ t ∧ t ≤ 1000000) (hn : n ≤ 1000000) :
    Calls Tryd.prog 9 #[.agg #[.int .i64 (b : Int), .int .i64 (t : Int)], .int .i64 (n : Int)] w fun e w' => e = .returned (.int .i64 (-((-((n : Int) * (t : Int))) / (b : Int)))) ∧ Gr w w' := by
  have hm : n * t ≤ 1000000 * 1000000 := Nat.mul_le_mul hn ht.2
  have HP : Hid (ProdOk (n : Int) (t : Int) 1 b) := Lib.hid ⟨by omega, by omega, by omega, by omega, by rw [Int.natAbs_natCast, Int.natAbs_natCast]; omega, by omega⟩
  have HX := Lib.hid (show ((n : Int) * (t : Int)).natAbs < 9223372036854775807 ∧ 1 * b < 9223372036854775808 from ⟨by rw [← Int.natCast_mul, Int.natAbs_natCast]; omega, by omega⟩)
  have HU := Lib.hid (fun (p : Nat) (u : World) (h : RatV u p ((n : Int) * (t : Int)) (1 * b)) => up_any p _ _ u h HX.out.1 HX.out.2)
  rw [Nat.one_mul] at HU
  have HB := Lib.hid hb
  have HT := Lib.hid ht
  have HN := Lib.hid hn
  have HG0 := Lib.hid ((Gr.refl w).alloc (.cells #[.int .i64 (b : Int), .int .i64 (t : Int)] 23))
  have hc0 : (w.alloc (.cells #[.int .i64 (b : Int), .int .i64 (t : Int)] 23)).cell? ⟨w.heap.size, 0, none⟩ = some (.int .i64 (b : Int)) := by simp
  have hc1 : (w.alloc (.cells #[.int .i64 (b : Int), .int .i64 (t : Int)] 23)).cell? ⟨w.heap.size, 1, none⟩ = some (.int .i64 (t : Int)) := by simp
  have C0 := Lib.hid hc0
  have C1 := Lib.hid hc1
  clear hm hb ht hn hc0 hc1
  go_enter Tryd.func9, Tryd.ntmps9
  go_wp2
  generalize w.alloc (.cells #[.int .i64 (b : Int), .int .i64 (t : Int)] 23) = w0 at *
  have c0 := C0.out
  have c1 := C1.out
  go_region_with (first
    | (go_at_call 20; refine (refInt_any (n : Int) _ (by have := HN.out; omega)).mono ?_; rintro e wi ⟨p1, rfl, _, hr1, hg1⟩; have d0 := hg1.cell C0.out; have d1 := hg1.cell C1.out; have HI := Lib.hid hr1; have HGI := Lib.hid hg1; clear hr1 hg1)
    | (go_at_call 21; refine (speed_any b t _ HB.out.2 ⟨HT.out.1, HT.out.2⟩).mono ?_; rintro e ws ⟨p2, rfl, _, hr2, hg2⟩; have HS := Lib.hid hr2; have HGS := Lib.hid hg2; clear hr2 hg2)
    | (go_at_call 19; refine (refdiv_any p1 p2 (n : Int) b 1 t _ (by first | exact HI.out.gr HGS.out | exact HI.out) (by first | exact HS.out | exact HS.out.gr HGI.out) HB.out.1 HP.out).mono ?_; rintro e wd ⟨p3, rfl, _, hr3, hg3⟩; rw [Nat.one_mul] at hr3; have HD := Lib.hid hr3; have HGD := Lib.hid hg3; clear hr3 hg3)
    | (go_at_call 18; refine (HU.out p3 _ HD.out).mono ?_; rintro e wu ⟨rfl, hg4⟩; have HGU := Lib.hid hg4; clear hg4))
  all_goals
    go_wp2
    go_ret
    exact ⟨rfl, HG0.out.trans (by first | exact ((((Gr.refl w0).drew.trans HGI.out).trans HGS.out).trans HGD.out).trans HGU.out | exact ((((Gr.refl w0).drew.trans HGS.out).trans HGI.out).trans HGD.out).trans HGU.out)⟩
end Go.Proofs.YtlaoapdgkkgmhaaDoor

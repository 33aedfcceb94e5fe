/-
  millraceref.ActionCheck, walked. (Printed by genacth.py.)
-/
import Derived.Test.YtjghgafeoimgiaaDoorActG
import Derived.Test.YtjghgafeoimgiaaDoorActC
import Derived.Test.YtjghgafeoimgiaaDoorItemB
namespace Go.Proofs.YtjghgafeoimgiaaDoor
open Go.RowKit

/-- What the list of ten holds at a kind less one. -/
def tops (n m : Int) : List Value := [.int .i64 0, .int .i64 0, .int .i64 255, .int .i64 7, .int .i64 15, .int .i64 7, .int .i64 n, .int .i64 255, .int .i64 (m - 1), .int .i64 10000]
def topB (n m : Nat) (k : Int) : Int := if k ≤ 2 then 0 else topA n m k
theorem tops_at (n m kk : Nat) (h : kk < 10) : (tops n m)[kk]? = some (.int .i64 (topB n m ((kk : Int) + 1))) := by
  obtain rfl | rfl | rfl | rfl | rfl | rfl | rfl | rfl | rfl | rfl : kk = 0 ∨ kk = 1 ∨ kk = 2 ∨ kk = 3 ∨ kk = 4 ∨ kk = 5 ∨ kk = 6 ∨ kk = 7 ∨ kk = 8 ∨ kk = 9 := by omega
  all_goals rfl
theorem wpList_loadI {w : World} {ops : Array Oper} {rest : List Oper} {o : Oper} {a : Act} {Q : Exit → Act → World → Prop} (hgd : o.guard = none) (x : Operand) (ho : o.op = .load 3 x) (ad : Addr) (n : Int) (hx : a.eval x = .pointer (some ad)) (hc : w.cell? ad = some (.int .i64 n))
    (hK : wpList Tryd.prog ops Q rest (a.put o.dst (.int .i64 n)) w) : wpList Tryd.prog ops Q (o :: rest) a w := by
  refine wpList_plain hgd fun K' hK' => ?_
  unfold Oper.wp
  rw [q_loadI ho hx hc]
  exact hK' _ _ hK
set_option maxRecDepth 100000 in
set_option maxHeartbeats 40000000 in
theorem acheck_any (la ba : Option Addr) (lc bc n m : Nat) (F G : Nat → Nat → Int) (w : World) (hx : Recs 3 w (.slice la n lc) n F) (hy : Recs 3 w (.slice ba m bc) m G) (hf : FineIs w) :
    Calls Tryd.prog 5 #[.slice la n lc, .slice ba m bc] w fun e w' => e = .returned (faultV (newC F n m G) (newP F n m G)) ∧ Gr w w' := by
  have HR0 := Lib.hid (fault_res w)
  by_cases hnm : 50 < n ∨ 8 < m
  · have HNM := Lib.hid (new_many (F := F) (G := G) hnm)
    by_cases hn : 50 < n
    · have h1 : (50 : Int) < (n : Int) := by omega
      clear hx hy hnm hf
      go_enter Tryd.func5, Tryd.ntmps5
      go_wp2_with (go_at_call 14; refine (bare_any _ _).mono ?_; rintro e w1 ⟨rfl, hg1⟩; obtain ⟨s0, s1, s2, s3⟩ := HR0.out.gr hg1; have HG1 := Lib.hid (((Gr.refl w).alloc _).trans hg1); clear hg1)
      refine bodyPost_ret (v := .agg #[.int .i64 4, .int .i64 (-1)]) (by simp [results, Tryd.results5, go_sem, s0, s1]) rfl ⟨?_, ?_⟩
      · rw [HNM.out.1, HNM.out.2]; rfl
      · exact (HG1.out.setCell (Nat.le_refl _) _).setCell (Nat.le_refl _) _
    · have h1 : ¬ (50 : Int) < (n : Int) := by omega
      have h2 : (8 : Int) < (m : Int) := by omega
      clear hx hy hnm hf
      go_enter Tryd.func5, Tryd.ntmps5
      go_wp2_with (go_at_call 14; refine (bare_any _ _).mono ?_; rintro e w1 ⟨rfl, hg1⟩; obtain ⟨s0, s1, s2, s3⟩ := HR0.out.gr hg1; have HG1 := Lib.hid (((Gr.refl w).alloc _).trans hg1); clear hg1)
      refine bodyPost_ret (v := .agg #[.int .i64 4, .int .i64 (-1)]) (by simp [results, Tryd.results5, go_sem, s0, s1]) rfl ⟨?_, ?_⟩
      · rw [HNM.out.1, HNM.out.2]; rfl
      · exact (HG1.out.setCell (Nat.le_refl _) _).setCell (Nat.le_refl _) _
  · have HNM := Lib.hid hnm
    have h1 : ¬ (50 : Int) < (n : Int) := by omega
    have h2 : ¬ (8 : Int) < (m : Int) := by omega
    have HX := Lib.hid hx
    have HY := Lib.hid hy
    have HF := Lib.hid hf
    have HW1 := Lib.hid (show wrap64 ((m : Int) - 1) = (m : Int) - 1 from by unfold wrap64; omega)
    have HG0 := Lib.hid ((Gr.refl w).alloc (.cells #[.int .i64 0, .int .i64 0] 38))
    clear hx hy hf hnm
    go_enter Tryd.func5, Tryd.ntmps5
    go_upto_region 1 with fail
    obtain ⟨w0, hw0⟩ : ∃ u, u = w.alloc (.cells #[.int .i64 0, .int .i64 0] 38) := ⟨_, rfl⟩
    obtain ⟨yb, hyb⟩ : ∃ u, u = w.heap.size := ⟨_, rfl⟩
    rw [← hw0] at HR0 HG0
    rw [← hyb] at HR0
    have HYB : Hid (w.heap.size ≤ yb) := Lib.hid (by omega)
    rw [← hw0, ← hyb]
    clear hw0 hyb
    go_wp2
    go_loopw [22] (fun s wr => ∃ (j : Nat), j ≤ m ∧ s = .int .i64 (j : Int) ∧ Hid (Gr w0 wr) ∧ Hid (∀ i, i < j → bkC G i = 0)) (fun s _ => m - (intOf s).toNat)
    case atStart => exact ⟨0, by omega, rfl, Lib.hid (Gr.refl w0), Lib.hid (fun i hi => absurd hi (by omega))⟩
    case round =>
      obtain ⟨j, hj, rfl, HN, HB⟩ := hrel
      by_cases hlt : j < m
      · have HJ := Lib.hid hlt
        have j0 : (0 : Int) ≤ (j : Int) := by omega
        have j1 : (j : Int) < (m : Int) := by omega
        have HGW := Lib.hid (HG0.out.trans HN.out)
        obtain ⟨lb, lo, rfl, r0, r1, r2⟩ := (HY.out.gr HGW.out).read hlt
        have HCK := Lib.hid (fun u => rbcheck_any (G j 0) (G j 1) (G j 2) u)
        by_cases hb : BIn (G j 0) (G j 1) (G j 2)
        · have HB1 := Lib.hid (okTo_succ HB.out (show bkC G j = 0 from ckB_ok hb))
          rw [ckB_ok hb] at HCK
          clear hb
          go_wp2_with (go_at_call 15; refine (HCK.out _).mono ?_; rintro e w4 ⟨rfl, hg⟩; have HG4 := Lib.hid ((HN.out.alloc _).trans hg); clear hg)
          go_roundw
          case measure => simp [intOf]; omega
          case rel => exact ⟨j + 1, by omega, by go_num, HG4, HB1⟩
        · have HBN := Lib.hid (new_bucket (F := F) (n := n) HNM.out HB.out HJ.out hb)
          rw [ckB_no hb] at HCK
          clear hb
          go_wp2_with (first
            | (go_at_call 15; refine (HCK.out _).mono ?_; rintro e w4 ⟨rfl, hg⟩; have HG4 := Lib.hid ((HN.out.alloc _).trans hg); clear hg)
            | (go_at_call 14; refine (bare_any _ _).mono ?_; rintro e w5 ⟨rfl, hg⟩; have HG5 := Lib.hid (HG4.out.trans hg); obtain ⟨s0, s1, s2, s3⟩ := HR0.out.gr HG5.out; clear hg))
          refine bodyPost_ret (v := .agg #[.int .i64 2, .int .i64 (-1)]) (by simp [results, Tryd.results5, go_sem, s0, s1]) rfl ⟨?_, ?_⟩
          · rw [HBN.out.1, HBN.out.2]; rfl
          · exact ((HG0.out.trans HG5.out).setCell HYB.out _).setCell HYB.out _
      · obtain rfl : j = m := by omega
        have j1 : ¬ (j : Int) < (j : Int) := by omega
        go_wp2
        go_loopw [35] (fun s wr => ∃ (i : Nat), i ≤ n ∧ s = .int .i64 (i : Int) ∧ Hid (Gr w0 wr) ∧ Hid (∀ k, k < i → actC F n j k = 0)) (fun s _ => n - (intOf s).toNat)
        case atStart => exact ⟨0, by omega, rfl, HN, Lib.hid (fun i hi => absurd hi (by omega))⟩
        case round =>
          clear HN
          obtain ⟨i, hi, rfl, HN, HA⟩ := hrel
          have HGW := Lib.hid (HG0.out.trans HN.out)
          by_cases hlt : i < n
          · have HI := Lib.hid hlt
            have k0 : (0 : Int) ≤ (i : Int) := by omega
            have k1 : (i : Int) < (n : Int) := by omega
            obtain ⟨lb, lo, rfl, r0, r1, r2⟩ := (HX.out.gr HGW.out).read hlt
            obtain ⟨kd, hkd⟩ : ∃ kd, kd = F i 0 := ⟨_, rfl⟩
            obtain ⟨A, hAA⟩ : ∃ A, A = F i 1 := ⟨_, rfl⟩
            obtain ⟨B, hBB⟩ : ∃ B, B = F i 2 := ⟨_, rfl⟩
            rw [← hkd] at r0
            rw [← hAA] at r1
            rw [← hBB] at r2
            obtain ⟨tq, htq⟩ : ∃ tq, tq = topB n j kd := ⟨_, rfl⟩
            have HTQ := Lib.hid htq
            have HAC := Lib.hid (show actC F n j i = if kd < 1 ∨ 10 < kd ∨ (kd ≤ 2 ∧ A ≠ 0) ∨ (kd ≤ 7 ∧ B ≠ 0) then 1 else if (2 < kd ∧ (A < 0 ∨ tq < A)) ∨ (7 < kd ∧ (B < 0 ∨ (n : Int) < B)) then 2 else 0 from by
              by_cases h : kd ≤ 2
              · unfold actC; rw [← hkd, ← hAA, ← hBB]
                split
                · rfl
                · rw [if_neg (by omega), if_neg (by omega)]
              · unfold actC; rw [htq, topB, if_neg h, hkd, hAA, hBB])
            clear hkd hAA hBB htq
            have HBA := Lib.hid (fun (c : Int) => new_act (G := G) (c := c) HNM.out HB.out HA.out HI.out)
            have HOKT := Lib.hid (fun h => okTo_succ HA.out (show actC F n j i = 0 from h))
            go_upto_region 13 with fail
            clear r0 r1 r2
            obtain ⟨wa, hwa⟩ : ∃ u, u = wr.alloc (.cells #[.int .i64 kd, .int .i64 A, .int .i64 B] 29) := ⟨_, rfl⟩
            obtain ⟨ab, hab⟩ : ∃ u, u = wr.heap.size := ⟨_, rfl⟩
            have d0 : wa.cell? ⟨ab, 0, none⟩ = some (.int .i64 kd) := by rw [hwa, hab]; simp
            have d1 : wa.cell? ⟨ab, 1, none⟩ = some (.int .i64 A) := by rw [hwa, hab]; simp
            have d2 : wa.cell? ⟨ab, 2, none⟩ = some (.int .i64 B) := by rw [hwa, hab]; simp
            have HNA : Hid (Gr w0 wa) := Lib.hid (by rw [hwa]; exact HN.out.alloc _)
            obtain ⟨s0, s1, s2, s3⟩ := HR0.out.gr HNA.out
            rw [← hwa, ← hab]
            clear hwa hab HN HGW
            by_cases ha : kd < 1
            · have HW := Lib.hid (fun u => within_no kd 1 10 u (by omega))
              have HC := Lib.hid (HBA.out 1 (HAC.out.trans (by rw [if_pos (by omega)])) (by decide))
              go_wp2_with (go_at_call 16; refine (HW.out _).mono ?_; rintro e w6 ⟨rfl, rfl⟩)
              all_goals (try (exfalso; omega))
              refine bodyPost_ret (v := .agg #[.int .i64 1, .int .i64 (i : Int)]) (by simp [results, Tryd.results5, go_sem, s0, s1]) rfl ⟨?_, ?_⟩
              · rw [HC.out.1, HC.out.2]; rfl
              · exact ((HG0.out.trans HNA.out).setCell HYB.out _).setCell HYB.out _
            · by_cases hb : 10 < kd
              · have HW := Lib.hid (fun u => within_no kd 1 10 u (by omega))
                have HC := Lib.hid (HBA.out 1 (HAC.out.trans (by rw [if_pos (by omega)])) (by decide))
                go_wp2_with (go_at_call 16; refine (HW.out _).mono ?_; rintro e w6 ⟨rfl, rfl⟩)
                all_goals (try (exfalso; omega))
                refine bodyPost_ret (v := .agg #[.int .i64 1, .int .i64 (i : Int)]) (by simp [results, Tryd.results5, go_sem, s0, s1]) rfl ⟨?_, ?_⟩
                · rw [HC.out.1, HC.out.2]; rfl
                · exact ((HG0.out.trans HNA.out).setCell HYB.out _).setCell HYB.out _
              · by_cases h3 : kd ≤ 2
                · have h7 : kd ≤ 7 := by omega
                  by_cases hA : A = 0
                  · by_cases hB : B = 0
                    · subst hA
                      subst hB
                      have ht0 : tq = 0 := by rw [HTQ.out, topB, if_pos h3]
                      have HT0 := Lib.hid ht0
                      clear ht0
                      have HW := Lib.hid (fun u => within_yes kd 1 10 u (by omega) (by omega))
                      have g1 : wrap64 (kd - 1) = kd - 1 := by unfold wrap64; omega
                      have g2 : (0 : Int) ≤ kd - 1 := by omega
                      have g3 : kd - 1 < 10 := by omega
                      have hT : (tops n j)[kd.toNat - 1]? = some (.int .i64 tq) := by rw [tops_at n j (kd.toNat - 1) (by omega), HTQ.out]; congr 4; omega
                      unfold tops at hT
                      have hT2 : (wa.alloc (.cells #[.int .i64 0, .int .i64 0, .int .i64 255, .int .i64 7, .int .i64 15, .int .i64 7, .int .i64 (n : Int), .int .i64 255, .int .i64 ((j : Int) - 1), .int .i64 10000] 3)).cell? ⟨wa.heap.size, kd.toNat - 1, none⟩ = some (.int .i64 tq) := by
                        rw [World.cell?_alloc_at _ _ _ _ rfl]
                        simpa using hT
                      have HT2 := Lib.hid hT2
                      clear hT hT2
                      go_upto_region 15 with (go_at_call 16; refine (HW.out _).mono ?_; rintro e w6 ⟨rfl, rfl⟩)
                      all_goals (try (exfalso; omega))
                      have q9 : ab < wa.heap.size := cell_lt d0
                      go_upto_region 16 with (refine wpList_loadI (by rfl) _ (by rfl) ⟨wa.heap.size, kd.toNat - 1, none⟩ tq (by rfl) HT2.out ?_)
                      all_goals (try (exfalso; omega))
                      clear g1 g2 g3 q9
                      obtain ⟨wb, hwb⟩ : ∃ u, u = wa.alloc (.cells #[.int .i64 0, .int .i64 0, .int .i64 255, .int .i64 7, .int .i64 15, .int .i64 7, .int .i64 (n : Int), .int .i64 255, .int .i64 ((j : Int) - 1), .int .i64 10000] 3) := ⟨_, rfl⟩
                      have HG16 : Hid (Gr wa wb) := Lib.hid (by rw [hwb]; exact (Gr.refl _).alloc _)
                      rw [← hwb]
                      clear hwb
                      replace d0 := HG16.out.cell d0
                      replace d1 := HG16.out.cell d1
                      replace d2 := HG16.out.cell d2
                      clear s0 s1 s2 s3
                      obtain ⟨s0, s1, s2, s3⟩ := HR0.out.gr (HNA.out.trans HG16.out)
                      have HWA := Lib.hid (fun u => within_yes 0 0 tq u (by have := HT0.out; omega) (by have := HT0.out; omega))
                      have HA9 := Lib.hid (HOKT.out (HAC.out.trans (by rw [if_neg (by omega), if_neg (by omega)])))
                      go_wp2_with (go_at_call 16; refine (HWA.out _).mono ?_; rintro e w6 ⟨rfl, rfl⟩)
                      all_goals (try (exfalso; omega))
                      go_roundw
                      case measure => simp [intOf]; omega
                      case rel => exact ⟨i + 1, by omega, by go_num, Lib.hid (HNA.out.trans HG16.out), HA9⟩
                    · have HW := Lib.hid (fun u => within_yes kd 1 10 u (by omega) (by omega))
                      have HC := Lib.hid (HBA.out 1 (HAC.out.trans (by rw [if_pos (by omega)])) (by decide))
                      go_wp2_with (go_at_call 16; refine (HW.out _).mono ?_; rintro e w6 ⟨rfl, rfl⟩)
                      all_goals (try (exfalso; omega))
                      refine bodyPost_ret (v := .agg #[.int .i64 1, .int .i64 (i : Int)]) (by simp [results, Tryd.results5, go_sem, s0, s1]) rfl ⟨?_, ?_⟩
                      · rw [HC.out.1, HC.out.2]; rfl
                      · exact ((HG0.out.trans HNA.out).setCell HYB.out _).setCell HYB.out _
                  · have HW := Lib.hid (fun u => within_yes kd 1 10 u (by omega) (by omega))
                    have HC := Lib.hid (HBA.out 1 (HAC.out.trans (by rw [if_pos (by omega)])) (by decide))
                    go_wp2_with (go_at_call 16; refine (HW.out _).mono ?_; rintro e w6 ⟨rfl, rfl⟩)
                    all_goals (try (exfalso; omega))
                    refine bodyPost_ret (v := .agg #[.int .i64 1, .int .i64 (i : Int)]) (by simp [results, Tryd.results5, go_sem, s0, s1]) rfl ⟨?_, ?_⟩
                    · rw [HC.out.1, HC.out.2]; rfl
                    · exact ((HG0.out.trans HNA.out).setCell HYB.out _).setCell HYB.out _
                · by_cases h7 : kd ≤ 7
                  · by_cases hB : B = 0
                    · have HW := Lib.hid (fun u => within_yes kd 1 10 u (by omega) (by omega))
                      have g1 : wrap64 (kd - 1) = kd - 1 := by unfold wrap64; omega
                      have g2 : (0 : Int) ≤ kd - 1 := by omega
                      have g3 : kd - 1 < 10 := by omega
                      have hT : (tops n j)[kd.toNat - 1]? = some (.int .i64 tq) := by rw [tops_at n j (kd.toNat - 1) (by omega), HTQ.out]; congr 4; omega
                      unfold tops at hT
                      have hT2 : (wa.alloc (.cells #[.int .i64 0, .int .i64 0, .int .i64 255, .int .i64 7, .int .i64 15, .int .i64 7, .int .i64 (n : Int), .int .i64 255, .int .i64 ((j : Int) - 1), .int .i64 10000] 3)).cell? ⟨wa.heap.size, kd.toNat - 1, none⟩ = some (.int .i64 tq) := by
                        rw [World.cell?_alloc_at _ _ _ _ rfl]
                        simpa using hT
                      have HT2 := Lib.hid hT2
                      clear hT hT2
                      go_upto_region 15 with (go_at_call 16; refine (HW.out _).mono ?_; rintro e w6 ⟨rfl, rfl⟩)
                      all_goals (try (exfalso; omega))
                      have q9 : ab < wa.heap.size := cell_lt d0
                      go_upto_region 16 with (refine wpList_loadI (by rfl) _ (by rfl) ⟨wa.heap.size, kd.toNat - 1, none⟩ tq (by rfl) HT2.out ?_)
                      all_goals (try (exfalso; omega))
                      clear g1 g2 g3 q9
                      obtain ⟨wb, hwb⟩ : ∃ u, u = wa.alloc (.cells #[.int .i64 0, .int .i64 0, .int .i64 255, .int .i64 7, .int .i64 15, .int .i64 7, .int .i64 (n : Int), .int .i64 255, .int .i64 ((j : Int) - 1), .int .i64 10000] 3) := ⟨_, rfl⟩
                      have HG16 : Hid (Gr wa wb) := Lib.hid (by rw [hwb]; exact (Gr.refl _).alloc _)
                      rw [← hwb]
                      clear hwb
                      replace d0 := HG16.out.cell d0
                      replace d1 := HG16.out.cell d1
                      replace d2 := HG16.out.cell d2
                      clear s0 s1 s2 s3
                      obtain ⟨s0, s1, s2, s3⟩ := HR0.out.gr (HNA.out.trans HG16.out)
                      by_cases hA0 : A < 0
                      · have HWA := Lib.hid (fun u => within_no A 0 tq u (by omega))
                        have HC := Lib.hid (HBA.out 2 (HAC.out.trans (by rw [if_neg (by omega), if_pos (by omega)])) (by decide))
                        go_wp2_with (go_at_call 16; refine (HWA.out _).mono ?_; rintro e w6 ⟨rfl, rfl⟩)
                        all_goals (try (exfalso; omega))
                        refine bodyPost_ret (v := .agg #[.int .i64 2, .int .i64 (i : Int)]) (by simp [results, Tryd.results5, go_sem, s0, s1]) rfl ⟨?_, ?_⟩
                        · rw [HC.out.1, HC.out.2]; rfl
                        · exact (((HG0.out.trans HNA.out).trans HG16.out).setCell HYB.out _).setCell HYB.out _
                      · by_cases hA1 : tq < A
                        · have HWA := Lib.hid (fun u => within_no A 0 tq u (by omega))
                          have HC := Lib.hid (HBA.out 2 (HAC.out.trans (by rw [if_neg (by omega), if_pos (by omega)])) (by decide))
                          go_wp2_with (go_at_call 16; refine (HWA.out _).mono ?_; rintro e w6 ⟨rfl, rfl⟩)
                          all_goals (try (exfalso; omega))
                          refine bodyPost_ret (v := .agg #[.int .i64 2, .int .i64 (i : Int)]) (by simp [results, Tryd.results5, go_sem, s0, s1]) rfl ⟨?_, ?_⟩
                          · rw [HC.out.1, HC.out.2]; rfl
                          · exact (((HG0.out.trans HNA.out).trans HG16.out).setCell HYB.out _).setCell HYB.out _
                        · have HWA := Lib.hid (fun u => within_yes A 0 tq u (by omega) (by omega))
                          have HA9 := Lib.hid (HOKT.out (HAC.out.trans (by rw [if_neg (by omega), if_neg (by omega)])))
                          go_wp2_with (go_at_call 16; refine (HWA.out _).mono ?_; rintro e w6 ⟨rfl, rfl⟩)
                          all_goals (try (exfalso; omega))
                          go_roundw
                          case measure => simp [intOf]; omega
                          case rel => exact ⟨i + 1, by omega, by go_num, Lib.hid (HNA.out.trans HG16.out), HA9⟩
                    · have HW := Lib.hid (fun u => within_yes kd 1 10 u (by omega) (by omega))
                      have HC := Lib.hid (HBA.out 1 (HAC.out.trans (by rw [if_pos (by omega)])) (by decide))
                      go_wp2_with (go_at_call 16; refine (HW.out _).mono ?_; rintro e w6 ⟨rfl, rfl⟩)
                      all_goals (try (exfalso; omega))
                      refine bodyPost_ret (v := .agg #[.int .i64 1, .int .i64 (i : Int)]) (by simp [results, Tryd.results5, go_sem, s0, s1]) rfl ⟨?_, ?_⟩
                      · rw [HC.out.1, HC.out.2]; rfl
                      · exact ((HG0.out.trans HNA.out).setCell HYB.out _).setCell HYB.out _
                  · have HW := Lib.hid (fun u => within_yes kd 1 10 u (by omega) (by omega))
                    have g1 : wrap64 (kd - 1) = kd - 1 := by unfold wrap64; omega
                    have g2 : (0 : Int) ≤ kd - 1 := by omega
                    have g3 : kd - 1 < 10 := by omega
                    have hT : (tops n j)[kd.toNat - 1]? = some (.int .i64 tq) := by rw [tops_at n j (kd.toNat - 1) (by omega), HTQ.out]; congr 4; omega
                    unfold tops at hT
                    have hT2 : (wa.alloc (.cells #[.int .i64 0, .int .i64 0, .int .i64 255, .int .i64 7, .int .i64 15, .int .i64 7, .int .i64 (n : Int), .int .i64 255, .int .i64 ((j : Int) - 1), .int .i64 10000] 3)).cell? ⟨wa.heap.size, kd.toNat - 1, none⟩ = some (.int .i64 tq) := by
                      rw [World.cell?_alloc_at _ _ _ _ rfl]
                      simpa using hT
                    have HT2 := Lib.hid hT2
                    clear hT hT2
                    go_upto_region 15 with (go_at_call 16; refine (HW.out _).mono ?_; rintro e w6 ⟨rfl, rfl⟩)
                    all_goals (try (exfalso; omega))
                    have q9 : ab < wa.heap.size := cell_lt d0
                    go_upto_region 16 with (refine wpList_loadI (by rfl) _ (by rfl) ⟨wa.heap.size, kd.toNat - 1, none⟩ tq (by rfl) HT2.out ?_)
                    all_goals (try (exfalso; omega))
                    clear g1 g2 g3 q9
                    obtain ⟨wb, hwb⟩ : ∃ u, u = wa.alloc (.cells #[.int .i64 0, .int .i64 0, .int .i64 255, .int .i64 7, .int .i64 15, .int .i64 7, .int .i64 (n : Int), .int .i64 255, .int .i64 ((j : Int) - 1), .int .i64 10000] 3) := ⟨_, rfl⟩
                    have HG16 : Hid (Gr wa wb) := Lib.hid (by rw [hwb]; exact (Gr.refl _).alloc _)
                    rw [← hwb]
                    clear hwb
                    replace d0 := HG16.out.cell d0
                    replace d1 := HG16.out.cell d1
                    replace d2 := HG16.out.cell d2
                    clear s0 s1 s2 s3
                    obtain ⟨s0, s1, s2, s3⟩ := HR0.out.gr (HNA.out.trans HG16.out)
                    by_cases hA0 : A < 0
                    · have HWA := Lib.hid (fun u => within_no A 0 tq u (by omega))
                      have HC := Lib.hid (HBA.out 2 (HAC.out.trans (by rw [if_neg (by omega), if_pos (by omega)])) (by decide))
                      go_wp2_with (go_at_call 16; refine (HWA.out _).mono ?_; rintro e w6 ⟨rfl, rfl⟩)
                      all_goals (try (exfalso; omega))
                      refine bodyPost_ret (v := .agg #[.int .i64 2, .int .i64 (i : Int)]) (by simp [results, Tryd.results5, go_sem, s0, s1]) rfl ⟨?_, ?_⟩
                      · rw [HC.out.1, HC.out.2]; rfl
                      · exact (((HG0.out.trans HNA.out).trans HG16.out).setCell HYB.out _).setCell HYB.out _
                    · by_cases hA1 : tq < A
                      · have HWA := Lib.hid (fun u => within_no A 0 tq u (by omega))
                        have HC := Lib.hid (HBA.out 2 (HAC.out.trans (by rw [if_neg (by omega), if_pos (by omega)])) (by decide))
                        go_wp2_with (go_at_call 16; refine (HWA.out _).mono ?_; rintro e w6 ⟨rfl, rfl⟩)
                        all_goals (try (exfalso; omega))
                        refine bodyPost_ret (v := .agg #[.int .i64 2, .int .i64 (i : Int)]) (by simp [results, Tryd.results5, go_sem, s0, s1]) rfl ⟨?_, ?_⟩
                        · rw [HC.out.1, HC.out.2]; rfl
                        · exact (((HG0.out.trans HNA.out).trans HG16.out).setCell HYB.out _).setCell HYB.out _
                      · by_cases hB0 : B < 0
                        · have HWA := Lib.hid (fun u => within_yes A 0 tq u (by omega) (by omega))
                          have HWB := Lib.hid (fun u => within_no B 0 (n : Int) u (by omega))
                          have HC := Lib.hid (HBA.out 2 (HAC.out.trans (by rw [if_neg (by omega), if_pos (by omega)])) (by decide))
                          go_wp2_with (first | (go_at_call 16; have _ := tok1; refine (HWB.out _).mono ?_; rintro e w6 ⟨rfl, rfl⟩; clear tok1) | (go_at_call 16; refine (HWA.out _).mono ?_; rintro e w6 ⟨rfl, rfl⟩; have tok1 := trivial))
                          all_goals (try (exfalso; omega))
                          refine bodyPost_ret (v := .agg #[.int .i64 2, .int .i64 (i : Int)]) (by simp [results, Tryd.results5, go_sem, s0, s1]) rfl ⟨?_, ?_⟩
                          · rw [HC.out.1, HC.out.2]; rfl
                          · exact (((HG0.out.trans HNA.out).trans HG16.out).setCell HYB.out _).setCell HYB.out _
                        · by_cases hB1 : (n : Int) < B
                          · have HWA := Lib.hid (fun u => within_yes A 0 tq u (by omega) (by omega))
                            have HWB := Lib.hid (fun u => within_no B 0 (n : Int) u (by omega))
                            have HC := Lib.hid (HBA.out 2 (HAC.out.trans (by rw [if_neg (by omega), if_pos (by omega)])) (by decide))
                            go_wp2_with (first | (go_at_call 16; have _ := tok1; refine (HWB.out _).mono ?_; rintro e w6 ⟨rfl, rfl⟩; clear tok1) | (go_at_call 16; refine (HWA.out _).mono ?_; rintro e w6 ⟨rfl, rfl⟩; have tok1 := trivial))
                            all_goals (try (exfalso; omega))
                            refine bodyPost_ret (v := .agg #[.int .i64 2, .int .i64 (i : Int)]) (by simp [results, Tryd.results5, go_sem, s0, s1]) rfl ⟨?_, ?_⟩
                            · rw [HC.out.1, HC.out.2]; rfl
                            · exact (((HG0.out.trans HNA.out).trans HG16.out).setCell HYB.out _).setCell HYB.out _
                          · have HWA := Lib.hid (fun u => within_yes A 0 tq u (by omega) (by omega))
                            have HWB := Lib.hid (fun u => within_yes B 0 (n : Int) u (by omega) (by omega))
                            have HA9 := Lib.hid (HOKT.out (HAC.out.trans (by rw [if_neg (by omega), if_neg (by omega)])))
                            go_wp2_with (first | (go_at_call 16; have _ := tok1; refine (HWB.out _).mono ?_; rintro e w6 ⟨rfl, rfl⟩; clear tok1) | (go_at_call 16; refine (HWA.out _).mono ?_; rintro e w6 ⟨rfl, rfl⟩; have tok1 := trivial))
                            all_goals (try (exfalso; omega))
                            go_roundw
                            case measure => simp [intOf]; omega
                            case rel => exact ⟨i + 1, by omega, by go_num, Lib.hid (HNA.out.trans HG16.out), HA9⟩
          · obtain rfl : i = n := by omega
            have k1 : ¬ (i : Int) < (i : Int) := by omega
            obtain ⟨s0, s1, s2, s3⟩ := HR0.out.gr HN.out
            have f0 := (HF.out.gr HGW.out).1
            have f1 := (HF.out.gr HGW.out).2
            go_wp2
            have HFN := Lib.hid (new_fine (F := F) (G := G) HNM.out HB.out HA.out)
            refine bodyPost_ret (v := .agg #[.int .i64 0, .int .i64 (-1)]) (by simp [results, Tryd.results5, go_sem, s0, s1]) rfl ⟨?_, ?_⟩
            · rw [HFN.out.1, HFN.out.2]; rfl
            · exact (HGW.out.setCell HYB.out _).setCell HYB.out _
end Go.Proofs.YtjghgafeoimgiaaDoor

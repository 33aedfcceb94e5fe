/-
  The law ScedMakes where all may be (given what ScedMake tells).
-/
import Derived.Test.YtfdmmfjheiiiiaaDoorSmO
import Derived.Test.YtfdmmfjheiiiiaaDoorSmG
namespace Go.Proofs.YtfdmmfjheiiiiaaDoor
open Go.RowKit Go.Extern.Stop Go.Stop Go.Extern

/-- What ScedMake tells (stated anew till XSmK is whole). -/
def RPost (w : World) (P : PlanP) (e : Ending) (w' : World) : Prop :=
  ∃ (sv : Value) (PB TB : Nat) (pv tv : Nat → Value), e = .returned (.tuple #[sv, .slice (some ⟨PB, 0, none⟩) P.n P.n, .slice (some ⟨TB, 0, none⟩) P.n P.n]) ∧ IntRow w' sv (upTo P.best P.T) ∧
    (∀ i, i < P.n → w'.cell? ⟨PB, i, none⟩ = some (pv i) ∧ Ints w' (pv i) (upTo (P.D i) (P.tot i))) ∧ (∀ i, i < P.n → w'.cell? ⟨TB, i, none⟩ = some (tv i) ∧ Ints w' (tv i) (upTo ((P.run P.T).2 i) (P.tot i))) ∧ Gr w w'
set_option maxRecDepth 100000 in
set_option maxHeartbeats 8000000 in
theorem scedMakes_ok (w : World) (hg : Glob w) {v : Value} {n : Nat} {F : Nat → Flw} (hF : Flows w v n F) (hn : n * 48 ≤ 140737488351232) (T : Nat) (P : PlanP) (hPn : P.n = n ∧ P.T = T) (h1 : 1 ≤ n) (h8 : n ≤ 8) (hc : scCk F n = 0) (hcm : ∀ i, i < n → Comes (F i).cs) (hcl : ∀ i, i < n → (F i).cs.length ≤ 300) (hok : ∀ i, i < n → ¬ ((T : Int) < ((F i).cs.length : Int) ∨ ((F i).ps.length : Int) ≤ (T : Int)))
    (hmk : ∀ a c u, Flows u (.slice a n c) n F → Calls Tryd.prog 7 #[.slice a n c, .int .i64 (T : Int)] u (MkPost u P)) (hrm : ∀ a c u, Flows u (.slice a n c) n F → Calls Tryd.prog 6 #[.slice a n c, .int .i64 (T : Int)] u (RPost u P)) :
    Calls Tryd.prog 3 #[v, .int .i64 (T : Int)] w fun e w' => e = .returned (.bool true) ∧ Gr w w' := by
  obtain ⟨la, lc, rfl, hl, _, _⟩ := id hF
  have HFL := Lib.hid (flows_any w hF hn)
  have HF := Lib.hid hF
  have HGL := Lib.hid hg
  have HCM := Lib.hid hcm
  have HCL := Lib.hid hcl
  have HOK := Lib.hid hok
  have HPN := Lib.hid hPn
  have HMK := Lib.hid hmk
  have HRM := Lib.hid hrm
  have H18 := Lib.hid (And.intro h1 h8)
  have n1 : (n : Int) ≤ 8 := by omega
  have HSC := Lib.hid hc
  clear hF hn hg hc hcm hcl hok h8 h1 hPn hmk hrm
  go_enter Tryd.func3, Tryd.ntmps3
  go_upto_region 2 with (go_at_call 4; refine HFL.out.mono ?_; rintro e w1 ⟨r, b, rfl, ⟨bb, rfl⟩, hr, hg1⟩; have HR := Lib.hid hr; have HG1 := Lib.hid hg1; obtain ⟨ra, rc, er, hrl, _, _⟩ := id hr; subst er; clear hr hg1)
  cases bb with
  | false =>
    go_wp2
    go_ret
    exact ⟨rfl, HG1.out⟩
  | true =>
    have HRC : Hid (Calls Tryd.prog 5 #[.slice ra n rc] w1 fun e w' => e = .returned (.int .i64 0) ∧ Gr w1 w') := Lib.hid (by rw [← HSC.out]; exact rscheck_any w1 HR.out)
    go_upto_region 5 with (go_at_call 5; refine HRC.out.mono ?_; rintro e w2 ⟨rfl, hg2⟩; have HG2 := Lib.hid (HG1.out.trans hg2); have HR2 := Lib.hid (HR.out.gr hg2); clear hg2)
    go_wp2
    go_loopw [7, 8, 9] (fun ev cv s wr => ∃ (i : Nat) (x : Int), i ≤ n ∧ s = .int .i64 (i : Int) ∧ cv = .int .i64 x ∧ ev = .int .i64 0 ∧ Hid (0 ≤ x ∧ x ≤ 100 * (i : Int)) ∧ Hid (Gr w2 wr)) (fun _ _ s _ => n - (intOf s).toNat)
    case atStart => exact ⟨0, 0, Nat.zero_le _, rfl, rfl, rfl, Lib.hid ⟨by omega, by omega⟩, Gr.refl _⟩
    case round =>
      obtain ⟨i, x, hi, rfl, rfl, rfl, HX, HG⟩ := hrel
      by_cases hlt : i < n
      · have j0 : (0 : Int) ≤ (i : Int) := by omega
        have j1 : (i : Int) < (n : Int) := by omega
        have HIQ := Lib.hid hlt
        obtain ⟨b, off, a0, q0, a1, q1, rfl, ⟨c0, c1⟩, hx0, _⟩ := (HR2.out.gr HG.out).read hlt
        obtain ⟨cs, hcs⟩ : ∃ cs, cs = (F i).cs := ⟨_, rfl⟩
        rw [← hcs] at c0 hx0
        have HCO : Hid (Comes cs ∧ cs.length ≤ 300) := Lib.hid (by rw [hcs]; exact ⟨HCM.out i hlt, HCL.out i hlt⟩)
        have HXX := Lib.hid hx0
        have HCS := Lib.hid hcs
        obtain ⟨m0, hm0⟩ : ∃ m0, m0 = cs.length := ⟨_, rfl⟩
        obtain ⟨m1, hm1⟩ : ∃ m1, m1 = (F i).ps.length := ⟨_, rfl⟩
        have HM0 := Lib.hid hm0
        have HM1 := Lib.hid hm1
        rw [← hm0] at c0
        rw [← hm1] at c1
        have m300 : (m0 : Int) ≤ 300 := by have := HCO.out.2; omega
        have xb : 0 ≤ x ∧ x ≤ 800 := by have := HX.out; omega
        have hb := HOK.out i hlt
        rw [← hcs, ← hm0, ← hm1] at hb
        have k0 : ¬ (T : Int) < (m0 : Int) := fun h => hb (.inl h)
        have k1 : ¬ (m1 : Int) ≤ (T : Int) := fun h => hb (.inr h)
        clear hcs hm0 hm1 hx0 hb
        go_wp2
        go_loopw [8, 10] (fun cv s wr => ∃ (k : Nat) (y : Int), k ≤ m0 ∧ s = .int .i64 (k : Int) ∧ cv = .int .i64 y ∧ Hid (y = x + sumTo cs k) ∧ Hid (Gr w2 wr)) (fun _ s _ => m0 - (intOf s).toNat)
        case atStart => exact ⟨0, x, Nat.zero_le _, rfl, rfl, Lib.hid (by simp [sumTo]), HG⟩
        case round =>
          obtain ⟨k, y, hk, rfl, rfl, HY, HGK⟩ := hrel
          have yb : 0 ≤ y ∧ y ≤ 900 := by have := HY.out; have := HCO.out.1.sum k; omega
          obtain ⟨b8, o8, a8, q8, a9, q9, e8, ⟨c8, _⟩, hx8, _⟩ := (HR2.out.gr HGK.out).read HIQ.out
          injection e8 with e9
          injection e9 with e10 e11
          subst e10
          subst e11
          rw [← HCS.out] at c8 hx8
          rw [← HM0.out] at c8
          by_cases hkl : k < m0
          · have r0 : (0 : Int) ≤ (k : Int) := by omega
            have r1 : (k : Int) < (m0 : Int) := by omega
            obtain ⟨z, hz⟩ : ∃ z, z = cs.getD k 0 := ⟨_, rfl⟩
            have zb : 0 ≤ z ∧ z ≤ 100 := by rw [hz]; exact HCO.out.1.at k
            have HZ : Hid (y + z = x + sumTo cs (k + 1)) := Lib.hid (by rw [sumTo, HY.out, hz]; omega)
            obtain ⟨b7, o7, p7, e7, h7⟩ := ints_cells hx8 (by have := HM0.out; omega)
            injection e7 with e71 e72 e73
            subst e71
            have c7 := h7.out k (by have := HM0.out; omega)
            rw [← hz] at c7
            clear h7 hz hx8 e73 c0 c1
            go_wp2
            go_roundw
            case measure => simp [intOf]; omega
            case rel => exact ⟨k + 1, _, by omega, by go_num, rfl, HZ, HGK⟩
          · obtain rfl : m0 = k := by omega
            have r1 : ¬ (m0 : Int) < (m0 : Int) := by omega
            clear c0 c1
            go_wp2
            go_roundw
            case measure => have hiq9 := HIQ.out; simp [intOf]; omega
            case rel => exact ⟨i + 1, y, by have := HIQ.out; omega, by go_num, rfl, rfl, Lib.hid ⟨by have := HY.out; have := HX.out; have := HCO.out.1.sum m0; omega, by have := HY.out; have := HX.out; have := HCO.out.1.sum m0; omega⟩, HGK⟩
      · obtain rfl : n = i := by omega
        have j1 : ¬ (n : Int) < (n : Int) := by omega
        have HFR := Lib.hid (HR2.out.gr HG.out)
        have HGG := Lib.hid (HG2.out.trans HG.out)
        by_cases ht : 60 < (T : Int)
        · go_wp2
          go_ret
          exact ⟨rfl, HGG.out⟩
        · by_cases hx6 : 60 < x
          · go_wp2
            go_ret
            exact ⟨rfl, HGG.out⟩
          · clear HX
            have HFU := Lib.hid (HF.out.gr HGG.out)
            go_upto_region 21 with (go_at_call 6; refine (HRM.out _ _ _ HFR.out).mono ?_; rintro e w3 ⟨sv, PB, TB, pv, tv, rfl, hs, hp, ht2, hg3⟩; obtain ⟨sa, sc, rfl⟩ := IntRow.shape hs; have HS3 := Lib.hid hs; have HP3 := Lib.hid hp; have HT3 := Lib.hid ht2; have HG3 := Lib.hid hg3; clear hs hp ht2 hg3)
            go_upto_region 22 with (go_at_call 7; refine (HMK.out _ _ _ (HFU.out.gr HG3.out)).mono ?_; rintro e w4 ⟨sv2, PB2, TB2, pv2, tv2, rfl, hs, hp, ht2, hg4⟩; obtain ⟨sa2, sc2, rfl⟩ := IntRow.shape hs; have HS4 := Lib.hid hs; have HP4 := Lib.hid hp; have HT4 := Lib.hid ht2; have HG4 := Lib.hid hg4; clear hs hp ht2 hg4)
            rw [upTo_len] at *
            obtain ⟨w5, hw5⟩ : ∃ u, u = w4.alloc (.cells #[.slice sa2 P.T sc2, .slice (some ⟨PB2, 0, none⟩) P.n P.n, .slice (some ⟨TB2, 0, none⟩) P.n P.n] 35) := ⟨_, rfl⟩
            obtain ⟨gb, hgb⟩ : ∃ u, u = w4.heap.size := ⟨_, rfl⟩
            have HG5 : Hid (Gr w4 w5) := Lib.hid (by rw [hw5]; exact (Gr.refl w4).alloc _)
            have HD : Hid (w5.cell? ⟨gb, 0, none⟩ = some (.slice sa2 P.T sc2) ∧ w5.cell? ⟨gb, 1, none⟩ = some (.slice (some ⟨PB2, 0, none⟩) P.n P.n) ∧ w5.cell? ⟨gb, 2, none⟩ = some (.slice (some ⟨TB2, 0, none⟩) P.n P.n)) := Lib.hid (by rw [hw5, hgb]; exact ⟨by simp, by simp, by simp⟩)
            rw [← hw5, ← hgb]
            clear hw5 hgb
            have HGX := Lib.hid (HGG.out.trans (HG3.out.trans (HG4.out.trans HG5.out)))
            have HN8 : Hid (P.n ≤ 1000) := Lib.hid (by have := HPN.out.1; have := H18.out.2; omega)
            go_wp2_with (first
              | (go_at_call 8; refine (bare_true (n := 0) _ (HGL.out.gr HGX.out) (ErrIs.nil _)).mono ?_; rintro e w6 ⟨rfl, hg6⟩; have HG6 := Lib.hid hg6; have d0 := hg6.cell HD.out.1; have d1 := hg6.cell HD.out.2.1; have d2 := hg6.cell HD.out.2.2; clear hg6)
              | (go_at_call 9; refine (sameInts_any (xs := upTo P.best P.T) _ (HS4.out.ints.gr (HG5.out.trans HG6.out)) (HS3.out.ints.gr (HG4.out.trans (HG5.out.trans HG6.out)))).mono ?_; rintro e w7 ⟨rfl, hg7⟩; have HG7 := Lib.hid (HG6.out.trans hg7); have d1 := HG7.out.cell HD.out.2.1; have d2 := HG7.out.cell HD.out.2.2; clear hg7)
              | (go_at_call 10; have _ := tok1; refine (sameLists_any _ _ _ tv2 tv (fun i => upTo ((P.run P.T).2 i) (P.tot i)) _ HN8.out (fun i hi => ⟨(HG5.out.trans HG8.out).cell (HT4.out i hi).1, (HT4.out i hi).2.gr (HG5.out.trans HG8.out)⟩) (fun i hi => ⟨(HG4.out.trans (HG5.out.trans HG8.out)).cell (HT3.out i hi).1, (HT3.out i hi).2.gr (HG4.out.trans (HG5.out.trans HG8.out))⟩)).mono ?_; rintro e w9 ⟨rfl, hg9⟩; have HG9 := Lib.hid (HGX.out.trans (HG8.out.trans hg9)); clear hg9 tok1)
              | (go_at_call 10; refine (sameLists_any _ _ _ pv2 pv (fun i => upTo (P.D i) (P.tot i)) _ HN8.out (fun i hi => ⟨(HG5.out.trans HG7.out).cell (HP4.out i hi).1, (HP4.out i hi).2.gr (HG5.out.trans HG7.out)⟩) (fun i hi => ⟨(HG4.out.trans (HG5.out.trans HG7.out)).cell (HP3.out i hi).1, (HP3.out i hi).2.gr (HG4.out.trans (HG5.out.trans HG7.out))⟩)).mono ?_; rintro e w8 ⟨rfl, hg8⟩; have HG8 := Lib.hid (HG7.out.trans hg8); have d2 := HG8.out.cell HD.out.2.2; have tok1 := trivial; clear hg8))
            go_ret
            exact ⟨rfl, HG9.out⟩
end Go.Proofs.YtfdmmfjheiiiiaaDoor

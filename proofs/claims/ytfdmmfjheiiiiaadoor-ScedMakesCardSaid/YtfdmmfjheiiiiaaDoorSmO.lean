/-
  The law ScedMakes where ticks may not be.
-/
import Derived.Test.YtfdmmfjheiiiiaaDoorSmN
namespace Go.Proofs.YtfdmmfjheiiiiaaDoor
open Go.RowKit Go.Extern.Stop Go.Stop Go.Extern

set_option maxRecDepth 100000 in
set_option maxHeartbeats 8000000 in
theorem scedMakes_ticks (w : World) (hg : Glob w) {v : Value} {n : Nat} {F : Nat → Flw} (hF : Flows w v n F) (hn : n * 48 ≤ 140737488351232) (T : Int) (h8 : n ≤ 8) (hc : scCk F n = 0) (hcm : ∀ i, i < n → Comes (F i).cs) (hcl : ∀ i, i < n → (F i).cs.length ≤ 300) (q : Nat) (hq : q < n) (hok : ∀ i, i < q → ¬ (T < ((F i).cs.length : Int) ∨ ((F i).ps.length : Int) ≤ T)) (hbad : T < ((F q).cs.length : Int) ∨ ((F q).ps.length : Int) ≤ T) :
    Calls Tryd.prog 3 #[v, .int .i64 T] w fun e w' => e = .returned (.bool true) ∧ Gr w w' := by
  obtain ⟨la, lc, rfl, hl, _, _⟩ := id hF
  have HFL := Lib.hid (flows_any w hF hn)
  have HGL := Lib.hid hg
  have HCM := Lib.hid hcm
  have HCL := Lib.hid hcl
  have HOK := Lib.hid hok
  have HBAD := Lib.hid hbad
  have HQ := Lib.hid hq
  have HMA : Hid (∀ u, Gr w u → Calls Tryd.prog 7 #[.slice la n lc, .int .i64 T] u fun e w' => e = .returned (.tuple #[.agg #[.slice none 0 0, .slice none 0 0, .slice none 0 0], .iface 26 (.int .i64 2)]) ∧ Gr u w') := Lib.hid (fun u hu => make_ticks la lc n T F u (hF.gr hu) h8 hc q hq hok hbad)
  have n1 : (n : Int) ≤ 8 := by omega
  have HSC := Lib.hid hc
  clear hF hn hg hc hcm hcl hok hbad hq h8
  go_enter Tryd.func3, Tryd.ntmps3
  go_upto_region 2 with (go_at_call 4; refine HFL.out.mono ?_; rintro e w1 ⟨r, b, rfl, ⟨bb, rfl⟩, hr, hg1⟩; have HR := Lib.hid hr; have HG1 := Lib.hid hg1; obtain ⟨ra, rc, er, hrl, _, _⟩ := id hr; subst er; clear hr hg1)
  cases bb with
  | false =>
    go_wp2
    go_ret
    exact ⟨rfl, HG1.out⟩
  | true =>
    have HRC : Hid (Calls Tryd.prog 5 #[.slice ra n rc] w1 fun e w' => e = .returned (.int .i64 0) ∧ Gr w1 w') := Lib.hid (by rw [← HSC.out]; exact rscheck_any w1 HR.out)
    go_upto_region 5 with (go_at_call 5; refine HRC.out.mono ?_; rintro e w2 ⟨rfl, hg2⟩; have HG2 := Lib.hid (HG1.out.trans hg2); have HR2 := Lib.hid (HR.out.gr hg2); clear hg2)
    go_wp2
    go_loopw [7, 8, 9] (fun ev cv s wr => ∃ (i : Nat) (e x : Int), i ≤ q + 1 ∧ s = .int .i64 (i : Int) ∧ cv = .int .i64 x ∧ ev = .int .i64 e ∧ Hid ((0 ≤ x ∧ x ≤ 100 * (i : Int)) ∧ (i ≤ q → e = 0) ∧ (i = q + 1 → e = 2)) ∧ Hid (Gr w2 wr)) (fun _ _ s _ => q + 1 - (intOf s).toNat)
    case atStart => exact ⟨0, 0, 0, Nat.zero_le _, rfl, rfl, rfl, Lib.hid ⟨⟨by omega, by omega⟩, fun _ => rfl, fun h => by omega⟩, Gr.refl _⟩
    case round =>
      obtain ⟨i, e, x, hi, rfl, rfl, rfl, HX, HG⟩ := hrel
      by_cases hiq : i ≤ q
      · have hlt : i < n := by have := HQ.out; omega
        have j0 : (0 : Int) ≤ (i : Int) := by omega
        have j1 : (i : Int) < (n : Int) := by omega
        obtain rfl : e = 0 := HX.out.2.1 hiq
        have HIQ := Lib.hid hiq
        obtain ⟨b, off, a0, q0, a1, q1, rfl, ⟨c0, c1⟩, hx0, _⟩ := (HR2.out.gr HG.out).read hlt
        obtain ⟨cs, hcs⟩ : ∃ cs, cs = (F i).cs := ⟨_, rfl⟩
        rw [← hcs] at c0 hx0
        have HCO : Hid (Comes cs ∧ cs.length ≤ 300) := Lib.hid (by rw [hcs]; exact ⟨HCM.out i hlt, HCL.out i hlt⟩)
        have HXX := Lib.hid hx0
        have HCS := Lib.hid hcs
        obtain ⟨m0, hm0⟩ : ∃ m0, m0 = cs.length := ⟨_, rfl⟩
        obtain ⟨m1, hm1⟩ : ∃ m1, m1 = (F i).ps.length := ⟨_, rfl⟩
        have HM0 := Lib.hid hm0
        have HM1 := Lib.hid hm1
        rw [← hm0] at c0
        rw [← hm1] at c1
        have HC0 := Lib.hid c0
        have m300 : (m0 : Int) ≤ 300 := by have := HCO.out.2; omega
        have xb : 0 ≤ x ∧ x ≤ 800 := by have := HX.out.1; omega
        clear hcs hm0 hm1 hx0
        by_cases hq2 : i = q
        · have hb := HBAD.out
          rw [← hq2, ← HCS.out, ← HM0.out, ← HM1.out] at hb
          have HQ2 := Lib.hid hq2
          clear hq2 hiq
          by_cases h30 : T < (m0 : Int)
          · clear hb
            go_wp2
            go_loopw [8, 10] (fun cv s wr => ∃ (k : Nat) (y : Int), k ≤ m0 ∧ s = .int .i64 (k : Int) ∧ cv = .int .i64 y ∧ Hid (y = x + sumTo cs k) ∧ Hid (Gr w2 wr)) (fun _ s _ => m0 - (intOf s).toNat)
            case atStart => exact ⟨0, x, Nat.zero_le _, rfl, rfl, Lib.hid (by simp [sumTo]), HG⟩
            case round =>
              obtain ⟨k, y, hk, rfl, rfl, HY, HGK⟩ := hrel
              have yb : 0 ≤ y ∧ y ≤ 900 := by have := HY.out; have := HCO.out.1.sum k; omega
              obtain ⟨b8, o8, a8, q8, a9, q9, e8, ⟨c8, _⟩, hx8, _⟩ := (HR2.out.gr HGK.out).read (show i < n by have := HQ.out; have := HIQ.out; omega)
              injection e8 with e9
              injection e9 with e10 e11
              subst e10
              subst e11
              rw [← HCS.out] at c8 hx8
              rw [← HM0.out] at c8
              by_cases hkl : k < m0
              · have r0 : (0 : Int) ≤ (k : Int) := by omega
                have r1 : (k : Int) < (m0 : Int) := by omega
                obtain ⟨z, hz⟩ : ∃ z, z = cs.getD k 0 := ⟨_, rfl⟩
                have zb : 0 ≤ z ∧ z ≤ 100 := by rw [hz]; exact HCO.out.1.at k
                have HZ : Hid (y + z = x + sumTo cs (k + 1)) := Lib.hid (by rw [sumTo, HY.out, hz]; omega)
                obtain ⟨b7, o7, p7, e7, h7⟩ := ints_cells hx8 (by have := HM0.out; omega)
                injection e7 with e71 e72 e73
                subst e71
                have c7 := h7.out k (by have := HM0.out; omega)
                rw [← hz] at c7
                clear h7 hz hx8 e73 c0 c1
                go_wp2
                go_roundw
                case measure => simp [intOf]; omega
                case rel => exact ⟨k + 1, _, by omega, by go_num, rfl, HZ, HGK⟩
              · obtain rfl : m0 = k := by omega
                have r1 : ¬ (m0 : Int) < (m0 : Int) := by omega
                clear c0 c1
                go_wp2
                go_roundw
                case measure => have hiq9 := HIQ.out; simp [intOf]; omega
                case rel => exact ⟨i + 1, 2, y, by have := HIQ.out; omega, by go_num, rfl, rfl, Lib.hid ⟨⟨by have := HY.out; have := HX.out.1; have := HCO.out.1.sum m0; omega, by have := HY.out; have := HX.out.1; have := HCO.out.1.sum m0; omega⟩, fun h => by have := HQ2.out; omega, fun h => by have := HQ2.out; omega⟩, HGK⟩
          · have h31 : (m1 : Int) ≤ T := hb.resolve_left h30
            clear hb
            go_wp2
            go_loopw [8, 10] (fun cv s wr => ∃ (k : Nat) (y : Int), k ≤ m0 ∧ s = .int .i64 (k : Int) ∧ cv = .int .i64 y ∧ Hid (y = x + sumTo cs k) ∧ Hid (Gr w2 wr)) (fun _ s _ => m0 - (intOf s).toNat)
            case atStart => exact ⟨0, x, Nat.zero_le _, rfl, rfl, Lib.hid (by simp [sumTo]), HG⟩
            case round =>
              obtain ⟨k, y, hk, rfl, rfl, HY, HGK⟩ := hrel
              have yb : 0 ≤ y ∧ y ≤ 900 := by have := HY.out; have := HCO.out.1.sum k; omega
              obtain ⟨b8, o8, a8, q8, a9, q9, e8, ⟨c8, _⟩, hx8, _⟩ := (HR2.out.gr HGK.out).read (show i < n by have := HQ.out; have := HIQ.out; omega)
              injection e8 with e9
              injection e9 with e10 e11
              subst e10
              subst e11
              rw [← HCS.out] at c8 hx8
              rw [← HM0.out] at c8
              by_cases hkl : k < m0
              · have r0 : (0 : Int) ≤ (k : Int) := by omega
                have r1 : (k : Int) < (m0 : Int) := by omega
                obtain ⟨z, hz⟩ : ∃ z, z = cs.getD k 0 := ⟨_, rfl⟩
                have zb : 0 ≤ z ∧ z ≤ 100 := by rw [hz]; exact HCO.out.1.at k
                have HZ : Hid (y + z = x + sumTo cs (k + 1)) := Lib.hid (by rw [sumTo, HY.out, hz]; omega)
                obtain ⟨b7, o7, p7, e7, h7⟩ := ints_cells hx8 (by have := HM0.out; omega)
                injection e7 with e71 e72 e73
                subst e71
                have c7 := h7.out k (by have := HM0.out; omega)
                rw [← hz] at c7
                clear h7 hz hx8 e73 c0 c1
                go_wp2
                go_roundw
                case measure => simp [intOf]; omega
                case rel => exact ⟨k + 1, _, by omega, by go_num, rfl, HZ, HGK⟩
              · obtain rfl : m0 = k := by omega
                have r1 : ¬ (m0 : Int) < (m0 : Int) := by omega
                clear c0 c1
                go_wp2
                go_roundw
                case measure => have hiq9 := HIQ.out; simp [intOf]; omega
                case rel => exact ⟨i + 1, 2, y, by have := HIQ.out; omega, by go_num, rfl, rfl, Lib.hid ⟨⟨by have := HY.out; have := HX.out.1; have := HCO.out.1.sum m0; omega, by have := HY.out; have := HX.out.1; have := HCO.out.1.sum m0; omega⟩, fun h => by have := HQ2.out; omega, fun h => by have := HQ2.out; omega⟩, HGK⟩
        · have hb := HOK.out i (by omega)
          have HQ2 : Hid (i < q) := Lib.hid (by omega)
          clear hiq
          rw [← HCS.out, ← HM0.out, ← HM1.out] at hb
          have k0 : ¬ T < (m0 : Int) := fun h => hb (.inl h)
          have k1 : ¬ (m1 : Int) ≤ T := fun h => hb (.inr h)
          clear hb
          go_wp2
          go_loopw [8, 10] (fun cv s wr => ∃ (k : Nat) (y : Int), k ≤ m0 ∧ s = .int .i64 (k : Int) ∧ cv = .int .i64 y ∧ Hid (y = x + sumTo cs k) ∧ Hid (Gr w2 wr)) (fun _ s _ => m0 - (intOf s).toNat)
          case atStart => exact ⟨0, x, Nat.zero_le _, rfl, rfl, Lib.hid (by simp [sumTo]), HG⟩
          case round =>
            obtain ⟨k, y, hk, rfl, rfl, HY, HGK⟩ := hrel
            have yb : 0 ≤ y ∧ y ≤ 900 := by have := HY.out; have := HCO.out.1.sum k; omega
            obtain ⟨b8, o8, a8, q8, a9, q9, e8, ⟨c8, _⟩, hx8, _⟩ := (HR2.out.gr HGK.out).read (show i < n by have := HQ.out; have := HIQ.out; omega)
            injection e8 with e9
            injection e9 with e10 e11
            subst e10
            subst e11
            rw [← HCS.out] at c8 hx8
            rw [← HM0.out] at c8
            by_cases hkl : k < m0
            · have r0 : (0 : Int) ≤ (k : Int) := by omega
              have r1 : (k : Int) < (m0 : Int) := by omega
              obtain ⟨z, hz⟩ : ∃ z, z = cs.getD k 0 := ⟨_, rfl⟩
              have zb : 0 ≤ z ∧ z ≤ 100 := by rw [hz]; exact HCO.out.1.at k
              have HZ : Hid (y + z = x + sumTo cs (k + 1)) := Lib.hid (by rw [sumTo, HY.out, hz]; omega)
              obtain ⟨b7, o7, p7, e7, h7⟩ := ints_cells hx8 (by have := HM0.out; omega)
              injection e7 with e71 e72 e73
              subst e71
              have c7 := h7.out k (by have := HM0.out; omega)
              rw [← hz] at c7
              clear h7 hz hx8 e73 c0 c1
              go_wp2
              go_roundw
              case measure => simp [intOf]; omega
              case rel => exact ⟨k + 1, _, by omega, by go_num, rfl, HZ, HGK⟩
            · obtain rfl : m0 = k := by omega
              have r1 : ¬ (m0 : Int) < (m0 : Int) := by omega
              clear c0 c1
              go_wp2
              go_roundw
              case measure => have hiq9 := HIQ.out; simp [intOf]; omega
              case rel => exact ⟨i + 1, 0, y, by have := HIQ.out; omega, by go_num, rfl, rfl, Lib.hid ⟨⟨by have := HY.out; have := HX.out.1; have := HCO.out.1.sum m0; omega, by have := HY.out; have := HX.out.1; have := HCO.out.1.sum m0; omega⟩, fun h => by have := HQ2.out; omega, fun h => by have := HQ2.out; omega⟩, HGK⟩
      · obtain rfl : i = q + 1 := by omega
        obtain rfl : e = 2 := HX.out.2.2 rfl
        have HGG := Lib.hid (HG2.out.trans HG.out)
        have HG2 := HGG
        have HMK := Lib.hid (HMA.out wr HG2.out)
        by_cases h0 : ((q + 1 : Nat) : Int) < (n : Int)
        · go_wp2_with (first
            | (go_at_call 7; refine HMK.out.mono ?_; rintro e w3 ⟨rfl, hg3⟩; have HG3 := Lib.hid ((HG2.out.trans hg3).alloc (.cells #[.slice none 0 0, .slice none 0 0, .slice none 0 0] 35)); have HP3 := Lib.hid (planB_new w3); clear hg3)
            | (go_at_call 8; refine (bare_true (n := 2) _ (HGL.out.gr HG3.out) (ErrIs.no _ _)).mono ?_; rintro e w4 ⟨rfl, hg4⟩; have HG4 := Lib.hid (HG3.out.trans hg4); have HP4 := Lib.hid (HP3.out.gr hg4); have d0 := HP4.out.2.1 0 (by omega); have d1 := HP4.out.2.1 1 (by omega); have d2 := HP4.out.2.1 2 (by omega); clear hg4)
            | (go_at_call 9; refine (sameInts_any (xs := []) _ (.inl ⟨_, _, rfl, rfl⟩) (.inl ⟨_, _, rfl, rfl⟩)).mono ?_; rintro e w5 ⟨rfl, hg5⟩; have HG5 := Lib.hid (HG4.out.trans hg5); have HP5 := Lib.hid (HP4.out.gr hg5); have d1 := HP5.out.2.1 1 (by omega); have d2 := HP5.out.2.1 2 (by omega); clear hg5)
            | (go_at_call 10; have _ := tok1; refine (sameLists_nil _).mono ?_; rintro e w7 ⟨rfl, hg7⟩; have HG7 := Lib.hid (HG6.out.trans hg7); clear hg7 tok1)
            | (go_at_call 10; refine (sameLists_nil _).mono ?_; rintro e w6 ⟨rfl, hg6⟩; have HG6 := Lib.hid (HG5.out.trans hg6); have HP6 := Lib.hid (HP5.out.gr hg6); have d2 := HP6.out.2.1 2 (by omega); have tok1 := trivial; clear hg6))
          go_ret
          exact ⟨rfl, HG7.out⟩
        · go_wp2_with (first
            | (go_at_call 7; refine HMK.out.mono ?_; rintro e w3 ⟨rfl, hg3⟩; have HG3 := Lib.hid ((HG2.out.trans hg3).alloc (.cells #[.slice none 0 0, .slice none 0 0, .slice none 0 0] 35)); have HP3 := Lib.hid (planB_new w3); clear hg3)
            | (go_at_call 8; refine (bare_true (n := 2) _ (HGL.out.gr HG3.out) (ErrIs.no _ _)).mono ?_; rintro e w4 ⟨rfl, hg4⟩; have HG4 := Lib.hid (HG3.out.trans hg4); have HP4 := Lib.hid (HP3.out.gr hg4); have d0 := HP4.out.2.1 0 (by omega); have d1 := HP4.out.2.1 1 (by omega); have d2 := HP4.out.2.1 2 (by omega); clear hg4)
            | (go_at_call 9; refine (sameInts_any (xs := []) _ (.inl ⟨_, _, rfl, rfl⟩) (.inl ⟨_, _, rfl, rfl⟩)).mono ?_; rintro e w5 ⟨rfl, hg5⟩; have HG5 := Lib.hid (HG4.out.trans hg5); have HP5 := Lib.hid (HP4.out.gr hg5); have d1 := HP5.out.2.1 1 (by omega); have d2 := HP5.out.2.1 2 (by omega); clear hg5)
            | (go_at_call 10; have _ := tok1; refine (sameLists_nil _).mono ?_; rintro e w7 ⟨rfl, hg7⟩; have HG7 := Lib.hid (HG6.out.trans hg7); clear hg7 tok1)
            | (go_at_call 10; refine (sameLists_nil _).mono ?_; rintro e w6 ⟨rfl, hg6⟩; have HG6 := Lib.hid (HG5.out.trans hg6); have HP6 := Lib.hid (HP5.out.gr hg6); have d2 := HP6.out.2.1 2 (by omega); have tok1 := trivial; clear hg6))
          go_ret
          exact ⟨rfl, HG7.out⟩
end Go.Proofs.YtfdmmfjheiiiiaaDoor

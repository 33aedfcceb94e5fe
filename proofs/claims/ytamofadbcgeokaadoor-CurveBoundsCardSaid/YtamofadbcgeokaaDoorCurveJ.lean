/-
  The law CurveBounds: its walk.
-/
import Derived.Test.YtamofadbcgeokaaDoorCurveI
namespace Go.Proofs.YtamofadbcgeokaaDoor
open Go.RowKit Go.Extern.Stop Go.Stop Go.Extern

set_option maxRecDepth 100000 in
set_option maxHeartbeats 4000000 in
theorem curveBounds_ok {v u : Value} {xs ys : List Int} (w : World) (hg : Glob w) (hx : Ints w v xs) (hy : Ints w u ys) (hl1 : xs.length ≤ 300) (hl2 : ys.length ≤ 300) (hc : ckTwo xs ys = 0) (B : Bool) (hB : B = true ↔ Never xs ys) :
    Calls Tryd.prog 12 #[v, u] w fun e w' => e = .returned (.bool true) ∧ Gr w w' := by
  obtain ⟨l1, _⟩ := ckCurve_pos (ckTwo_ok hc).1
  obtain ⟨l3, _⟩ := ckCurve_pos (ckTwo_ok hc).2
  have HBX := Lib.hid (ckCurve_bd (ckTwo_ok hc).1)
  have HBY := Lib.hid (ckCurve_bd (ckTwo_ok hc).2)
  have HGl := Lib.hid hg
  have HX := Lib.hid hx
  have HY := Lib.hid hy
  have HC := Lib.hid hc
  have HB := Lib.hid hB
  have B1 := Lib.hid (long_no w hx hy hl1 hl2)
  have B2 := Lib.hid (curves_any w hx hy)
  obtain ⟨b, off, cap, rfl, CX⟩ := ints_cells hx l1
  obtain ⟨b', off', cap', rfl, CY⟩ := ints_cells hy l3
  clear hg hx hy hc hB
  have HQ : Hid (∀ k, k = min xs.length ys.length → maxTo (backF xs ys) k = maxTo (backF xs ys) (min xs.length ys.length)) := fun k h => by rw [h]
  generalize hn : xs.length = n at *
  generalize hm : ys.length = m at *
  have HN := Lib.hid hn
  have HM := Lib.hid hm
  clear hn hm
  have HBF : Hid (∀ j, j < min n m → backF xs ys j ≤ 1000000000000) := by
    intro j hj
    have a1 := HBX.out j (by omega)
    have a2 := HBY.out j (by omega)
    unfold backF
    omega
  go_enter Tryd.func12, Tryd.ntmps12
  go_wp2_with (first
    | (go_at_call 30; refine B1.out.mono ?_; rintro e w' ⟨rfl, rfl⟩)
    | (go_at_call 31; refine B2.out.mono ?_; rintro e w' ⟨rfl, rfl⟩; rw [HC.out]))
  go_loopw [6, 9] (fun r i wr => ∃ k : Nat, k ≤ min n m ∧ i = .int .i64 k ∧ r = .int .i64 (maxTo (backF xs ys) k) ∧ Hid (Gr w wr)) (fun _ i _ => min n m - (intOf i).toNat)
  case atStart => exact ⟨0, Nat.zero_le _, rfl, rfl, Gr.refl _⟩
  case round =>
    obtain ⟨k, hk, rfl, rfl, HG⟩ := hrel
    have hbb := maxTo_bd (f := backF xs ys) (n := k) (hi := 1000000000000) (by omega) (fun i hi => HBF.out i (by omega))
    by_cases hlt : k < min n m
    · have d1 := CX.out k (by omega)
      have d2 := CY.out k (by omega)
      have i0 : (0 : Int) ≤ (k : Int) := by omega
      have i1 : (k : Int) < (n : Int) := by omega
      have i2 : (k : Int) < (m : Int) := by omega
      have e1 := HBX.out k (by omega)
      have e2 := HBY.out k (by omega)
      have hf : maxTo (backF xs ys) (k + 1) = max (maxTo (backF xs ys) k) (xs.getD k 0 - ys.getD k 0) := rfl
      generalize xs.getD k 0 = x at d1 hf e1
      generalize ys.getD k 0 = y at d2 hf e2
      generalize maxTo (backF xs ys) k = best at *
      have HF := Lib.hid hf
      have c1 := HG.out.cell d1
      have c2 := HG.out.cell d2
      clear hf d1 d2
      go_wp2
      go_quiet (fail)
      go_wp2
      go_roundw
      case rel => exact ⟨k + 1, by omega, by go_num, by rw [HF.out, ← max_ite], HG.out.drewN _⟩
      case measure => simp [intOf]; omega
    · obtain hkq : k = min n m := by omega
      have hbk := HQ.out k hkq
      rw [hbk]
      generalize hbest : maxTo (backF xs ys) (min n m) = best at *
      have HBE := Lib.hid hbest
      clear hbest hbk
      have HKQ := Lib.hid hkq
      clear hkq
      have h2 : ∀ W, Gr w W → Calls Tryd.prog 42 #[.slice (some ⟨b, off, none⟩) n cap, .slice (some ⟨b', off', none⟩) m cap'] W fun e w' => e = .returned (.tuple #[.int .i64 best, .nilIface]) ∧ Gr W w' := by
        intro W hW
        have := backlog_ok W (HX.out.gr hW) (HY.out.gr hW) HC.out
        rw [HN.out, HM.out, HBE.out] at this
        exact this
      have H2 := Lib.hid h2
      clear h2
      cases B
      case false =>
        have h3 : ∀ W, Gr w W → Calls Tryd.prog 41 #[.slice (some ⟨b, off, none⟩) n cap, .slice (some ⟨b', off', none⟩) m cap'] W fun e w' => e = .returned (.tuple #[.int .i64 (maxTo (waitF xs ys) xs.length), .bool true]) ∧ Gr W w' :=
          fun W hW => refdelay_all W (HX.out.gr hW) (HY.out.gr hW) HC.out false HB.out
        have h4 : ∀ W, Gr w W → Calls Tryd.prog 43 #[.slice (some ⟨b, off, none⟩) n cap, .slice (some ⟨b', off', none⟩) m cap'] W fun e w' => e = .returned (.tuple #[.int .i64 (maxTo (waitF xs ys) xs.length), .nilIface]) ∧ Gr W w' :=
          fun W hW => delay_all W (HX.out.gr hW) (HY.out.gr hW) HC.out false HB.out
        generalize maxTo (waitF xs ys) xs.length = mw at *
        have H3 := Lib.hid h3
        have H4 := Lib.hid h4
        clear h3 h4
        rcases Nat.lt_or_ge k n with hmn | hmn
        all_goals
          go_wp2_with (first
            | (go_at_call 41; refine (H3.out _ HG.out).mono ?_; rintro e w' ⟨rfl, hg1⟩; have G1 := Lib.hid (HG.out.trans hg1); clear hg1)
            | (go_at_call 42; refine (H2.out _ G1.out).mono ?_; rintro e w' ⟨rfl, hg2⟩; have G2 := Lib.hid (G1.out.trans hg2); clear hg2)
            | (go_at_call 43; refine (H4.out _ G2.out).mono ?_; rintro e w' ⟨rfl, hg3⟩; have G3 := Lib.hid (G2.out.trans hg3); clear hg3; have tok1 : True := trivial)
            | (go_at_call 14; have _t := tok1; clear _t tok1; refine (bare_yes _ (HGl.out.gr G3.out) (ErrIs.nil _)).mono ?_; rintro e w' ⟨rfl, hg4⟩; have G4 := Lib.hid (G3.out.trans hg4); clear hg4)
            | (go_at_call 14; refine (bare_yes _ (HGl.out.gr G4.out) (ErrIs.nil _)).mono ?_; rintro e w' ⟨rfl, hg5⟩; have G5 := Lib.hid (G4.out.trans hg5); clear hg5))
          go_ret
          exact ⟨by simp, G5.out⟩
      case true =>
        have h3 : ∀ W, Gr w W → Calls Tryd.prog 41 #[.slice (some ⟨b, off, none⟩) n cap, .slice (some ⟨b', off', none⟩) m cap'] W fun e w' => e = .returned (.tuple #[.int .i64 0, .bool false]) ∧ Gr W w' :=
          fun W hW => refdelay_all W (HX.out.gr hW) (HY.out.gr hW) HC.out true HB.out
        have h4 : ∀ W, Gr w W → Calls Tryd.prog 43 #[.slice (some ⟨b, off, none⟩) n cap, .slice (some ⟨b', off', none⟩) m cap'] W fun e w' => e = .returned (.tuple #[.int .i64 0, .iface 24 (.int .i64 8)]) ∧ Gr W w' :=
          fun W hW => delay_all W (HX.out.gr hW) (HY.out.gr hW) HC.out true HB.out
        have H3 := Lib.hid h3
        have H4 := Lib.hid h4
        clear h3 h4
        rcases Nat.lt_or_ge k n with hmn | hmn
        all_goals
          go_wp2_with (first
            | (go_at_call 41; refine (H3.out _ HG.out).mono ?_; rintro e w' ⟨rfl, hg1⟩; have G1 := Lib.hid (HG.out.trans hg1); clear hg1)
            | (go_at_call 42; refine (H2.out _ G1.out).mono ?_; rintro e w' ⟨rfl, hg2⟩; have G2 := Lib.hid (G1.out.trans hg2); clear hg2)
            | (go_at_call 43; refine (H4.out _ G2.out).mono ?_; rintro e w' ⟨rfl, hg3⟩; have G3 := Lib.hid (G2.out.trans hg3); clear hg3; have tok1 : True := trivial)
            | (go_at_call 14; have _t := tok1; clear _t tok1; refine (bare_yes _ (HGl.out.gr G3.out) (ErrIs.nil _)).mono ?_; rintro e w' ⟨rfl, hg4⟩; have G4 := Lib.hid (G3.out.trans hg4); clear hg4)
            | (go_at_call 14; refine (bare_yes _ (HGl.out.gr G4.out) (ErrIs.no _ _)).mono ?_; rintro e w' ⟨rfl, hg5⟩; have G5 := Lib.hid (G4.out.trans hg5); clear hg5))
          go_ret
          exact ⟨by simp, G5.out⟩

set_option maxRecDepth 100000 in
set_option maxHeartbeats 4000000 in
theorem curveBounds_bad {v u : Value} {xs ys : List Int} (w : World) (hg : Glob w) (hx : Ints w v xs) (hy : Ints w u ys) (l1 : xs.length ≤ 300) (l2 : ys.length ≤ 300) (hc : ckTwo xs ys ≠ 0) :
    Calls Tryd.prog 12 #[v, u] w fun e w' => e = .returned (.bool true) ∧ Gr w w' := by
  have HG := Lib.hid hg
  have HX := Lib.hid hx
  have HY := Lib.hid hy
  have HC := Lib.hid hc
  have hb : (ckTwo xs ys == 0) = false := by simpa using hc
  have B1 := Lib.hid (long_no w hx hy l1 l2)
  have B2 := Lib.hid (curves_any w hx hy)
  clear hg hx hy hc
  obtain ⟨c, hcc⟩ : ∃ c, ckTwo xs ys = c := ⟨_, rfl⟩
  rw [hcc] at hb
  have HCC := Lib.hid hcc
  clear hcc
  go_enter Tryd.func12, Tryd.ntmps12
  go_wp2_with (first
    | (go_at_call 30; refine B1.out.mono ?_; rintro e w' ⟨rfl, rfl⟩)
    | (go_at_call 31; refine B2.out.mono ?_; rintro e w' ⟨rfl, rfl⟩; rw [HCC.out]))
  refine wp_loop_rounds 1 ?_
  rw [rounds_succ]
  go_wp2_with (first
    | (go_at_call 42; refine (backlog_bad _ HX.out HY.out HC.out).mono ?_; rintro e w' ⟨rfl, hg2⟩; rw [HCC.out]; have G2 := Lib.hid hg2; clear hg2)
    | (go_at_call 43; refine (delay_bad _ (HX.out.gr G2.out) (HY.out.gr G2.out) HC.out).mono ?_; rintro e w' ⟨rfl, hg3⟩; rw [HCC.out]; have G3 := Lib.hid (G2.out.trans hg3); clear hg3; have tok1 : True := trivial)
    | (go_at_call 14; have _t := tok1; clear _t tok1; refine (bare_yes _ (HG.out.gr G3.out) (ErrIs.no _ _)).mono ?_; rintro e w' ⟨rfl, hg4⟩; have G4 := Lib.hid (G3.out.trans hg4); clear hg4)
    | (go_at_call 14; refine (bare_yes _ (HG.out.gr G4.out) (ErrIs.no _ _)).mono ?_; rintro e w' ⟨rfl, hg5⟩; have G5 := Lib.hid (G4.out.trans hg5); clear hg5))
  go_ret
  exact ⟨by simp, G5.out⟩

theorem curveBounds_walk {v u : Value} {xs ys : List Int} (w : World) (hg : Glob w) (hx : Ints w v xs) (_ : ∀ x ∈ xs, -9223372036854775808 ≤ x ∧ x ≤ 9223372036854775807) (hy : Ints w u ys) (_ : ∀ x ∈ ys, -9223372036854775808 ≤ x ∧ x ≤ 9223372036854775807) :
    Calls Tryd.prog 12 #[v, u] w fun e w' => e = .returned (.bool true) ∧ Gr w w' := by
  by_cases hl : 300 < xs.length ∨ 300 < ys.length
  · have B1 := Lib.hid (long_yes w hx hy hl)
    clear hl hg hx hy
    go_enter Tryd.func12, Tryd.ntmps12
    go_wp2_with (go_at_call 30; refine B1.out.mono ?_; rintro e w' ⟨rfl, rfl⟩)
    go_ret
    exact ⟨rfl, Gr.refl _⟩
  · by_cases hc : ckTwo xs ys = 0
    · have hB : ∃ B : Bool, B = true ↔ Never xs ys := by
        by_cases hN : Never xs ys
        · exact ⟨true, by simp [hN]⟩
        · exact ⟨false, by simp [hN]⟩
      obtain ⟨B, hB⟩ := hB
      exact curveBounds_ok w hg hx hy (by omega) (by omega) hc B hB
    · exact curveBounds_bad w hg hx hy (by omega) (by omega) hc
end Go.Proofs.YtamofadbcgeokaaDoor

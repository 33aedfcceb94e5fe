/-
  Which lines may be: millraceref.LineCheck, curve.shape.
-/
import Derived.Test.YtlaoapdgkkgmhaaDoorRate
import Derived.Test.YtlaoapdgkkgmhaaDoorApp
import Derived.BigGuardPart
namespace Go.Proofs.YtlaoapdgkkgmhaaDoor
open Go.RowKit Go.Extern.Stop Go.Stop Go.Extern

/-- What is wrong with a line. -/
noncomputable def ckLine (b t n k : Int) : Int := @ite _ (RateIn b t ∧ 0 ≤ n ∧ n ≤ 1000000) (Classical.propDecidable _) (if 0 ≤ k ∧ k ≤ 200 then 0 else 4) 2
theorem ckLine_two {b t n k : Int} (h : ¬ (RateIn b t ∧ 0 ≤ n ∧ n ≤ 1000000)) : ckLine b t n k = 2 := by unfold ckLine; rw [if_neg h]
theorem ckLine_four {b t n k : Int} (h : RateIn b t ∧ 0 ≤ n ∧ n ≤ 1000000) (h2 : k < 0 ∨ 200 < k) : ckLine b t n k = 4 := by unfold ckLine; rw [if_pos h, if_neg (by omega)]
theorem ckLine_ok {b t n k : Int} (h : RateIn b t ∧ 0 ≤ n ∧ n ≤ 1000000) (h2 : 0 ≤ k ∧ k ≤ 200) : ckLine b t n k = 0 := by unfold ckLine; rw [if_pos h, if_pos h2]

set_option maxRecDepth 100000 in
set_option maxHeartbeats 8000000 in
theorem shape_any (b t n k : Int) (w : World) (hb : Bd b) (ht : Bd t) (hn : Bd n) (hk : Bd k) : Calls Tryd.prog 24 #[.agg #[.int .i64 b, .int .i64 t], .int .i64 n, .int .i64 k] w fun e w' => e = .returned (errV (ckLine b t n k)) ∧ Gr w w' := by
  have HG := Lib.hid ((Gr.refl w).alloc (.cells #[.int .i64 b, .int .i64 t] 23))
  have x1 := hb.1
  have x2 := hb.2
  have x3 := ht.1
  have x4 := ht.2
  have x5 := hn.1
  have x6 := hn.2
  have x7 := hk.1
  have x8 := hk.2
  clear hb ht hn hk
  by_cases h : RateIn b t ∧ 0 ≤ n ∧ n ≤ 1000000
  · by_cases hk : 0 ≤ k ∧ k ≤ 200
    · have HC : Hid (errV (ckLine b t n k) = .nilIface) := Lib.hid (errV_zero (ckLine_ok h hk))
      obtain ⟨⟨⟨y1, y2⟩, y3, y4⟩, y5, y6⟩ := h
      obtain ⟨y7, y8⟩ := hk
      go_enter Tryd.func24, Tryd.ntmps24
      go_wp2
      all_goals (try (exfalso; omega))
      all_goals
        go_ret
        exact ⟨by rw [HC.out]; rfl, HG.out⟩
    · have HC : Hid (errV (ckLine b t n k) = .iface 24 (.int .i64 4)) := Lib.hid (by rw [ckLine_four h (by omega)]; exact errV_ne (by decide))
      obtain ⟨⟨⟨y1, y2⟩, y3, y4⟩, y5, y6⟩ := h
      have hh : k < 0 ∨ 200 < k := by omega
      clear hk
      go_enter Tryd.func24, Tryd.ntmps24
      go_wp2
      all_goals (try (exfalso; omega))
      all_goals
        go_ret
        exact ⟨by rw [HC.out]; rfl, HG.out⟩
  · have HC : Hid (errV (ckLine b t n k) = .iface 24 (.int .i64 2)) := Lib.hid (by rw [ckLine_two h]; exact errV_ne (by decide))
    have hh : b < 1 ∨ 1000000 < b ∨ t < 1 ∨ 1000000 < t ∨ n < 0 ∨ 1000000 < n := by unfold RateIn at h; omega
    clear h
    go_enter Tryd.func24, Tryd.ntmps24
    go_wp2
    all_goals (try (exfalso; omega))
    all_goals
      go_ret
      exact ⟨by rw [HC.out]; rfl, HG.out⟩

set_option maxRecDepth 100000 in
set_option maxHeartbeats 8000000 in
theorem lineCheck_any (b t n k : Int) (w : World) : Calls Tryd.prog 10 #[.agg #[.int .i64 b, .int .i64 t], .int .i64 n, .int .i64 k] w fun e w' => e = .returned (.int .i64 (ckLine b t n k)) ∧ Gr w w' := by
  have HG := Lib.hid ((Gr.refl w).alloc (.cells #[.int .i64 b, .int .i64 t] 23))
  by_cases hr : RateIn b t
  · have HR := Lib.hid (ckRate_ok hr)
    by_cases hn : 0 ≤ n ∧ n ≤ 1000000
    · by_cases hk : 0 ≤ k ∧ k ≤ 200
      · have HC := Lib.hid (ckLine_ok (k := k) ⟨hr, hn⟩ hk)
        have HN := Lib.hid hn
        have HK := Lib.hid hk
        clear hr hn hk
        have tok1 := trivial
        go_enter Tryd.func10, Tryd.ntmps10
        go_wp2_with (first
          | (go_at_call 5; refine (rateCheck_any b t _).mono ?_; rintro e w1 ⟨rfl, hg1⟩; rw [HR.out]; have HG1 := Lib.hid (HG.out.trans hg1); clear hg1)
          | (go_at_call 15; have _ := tok1; refine (within_yes _ _ _ _ HN.out.1 HN.out.2).mono ?_; rintro e w' ⟨rfl, rfl⟩; clear tok1; have tok2 := trivial)
          | (go_at_call 15; have _ := tok2; refine (within_yes _ _ _ _ HK.out.1 HK.out.2).mono ?_; rintro e w' ⟨rfl, rfl⟩; clear tok2))
        go_ret
        exact ⟨by rw [HC.out]; rfl, HG1.out⟩
      · have HC := Lib.hid (ckLine_four (k := k) ⟨hr, hn⟩ (by omega))
        have HN := Lib.hid hn
        have HK := Lib.hid (show k < 0 ∨ 200 < k by omega)
        clear hr hn hk
        have tok1 := trivial
        go_enter Tryd.func10, Tryd.ntmps10
        go_wp2_with (first
          | (go_at_call 5; refine (rateCheck_any b t _).mono ?_; rintro e w1 ⟨rfl, hg1⟩; rw [HR.out]; have HG1 := Lib.hid (HG.out.trans hg1); clear hg1)
          | (go_at_call 15; have _ := tok1; refine (within_yes _ _ _ _ HN.out.1 HN.out.2).mono ?_; rintro e w' ⟨rfl, rfl⟩; clear tok1; have tok2 := trivial)
          | (go_at_call 15; have _ := tok2; refine (within_no _ _ _ _ HK.out).mono ?_; rintro e w' ⟨rfl, rfl⟩; clear tok2))
        go_ret
        exact ⟨by rw [HC.out]; rfl, HG1.out⟩
    · have HC := Lib.hid (ckLine_two (b := b) (t := t) (k := k) (fun h => hn h.2))
      have HN := Lib.hid (show n < 0 ∨ 1000000 < n by omega)
      clear hr hn
      go_enter Tryd.func10, Tryd.ntmps10
      go_wp2_with (first
        | (go_at_call 5; refine (rateCheck_any b t _).mono ?_; rintro e w1 ⟨rfl, hg1⟩; rw [HR.out]; have HG1 := Lib.hid (HG.out.trans hg1); clear hg1)
        | (go_at_call 15; refine (within_no _ _ _ _ HN.out).mono ?_; rintro e w' ⟨rfl, rfl⟩))
      go_ret
      exact ⟨by rw [HC.out]; rfl, HG1.out⟩
  · have HC := Lib.hid (ckLine_two (n := n) (k := k) (fun h => hr h.1))
    have HR := Lib.hid (ckRate_no hr)
    clear hr
    go_enter Tryd.func10, Tryd.ntmps10
    go_wp2_with (go_at_call 5; refine (rateCheck_any b t _).mono ?_; rintro e w1 ⟨rfl, hg1⟩; rw [HR.out]; have HG1 := Lib.hid (HG.out.trans hg1); clear hg1)
    go_ret
    exact ⟨by rw [HC.out]; rfl, HG1.out⟩
end Go.Proofs.YtlaoapdgkkgmhaaDoor

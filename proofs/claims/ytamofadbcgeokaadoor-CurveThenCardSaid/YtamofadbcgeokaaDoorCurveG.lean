/-
  The law CurveThen: its walk.
-/
import Derived.Test.YtamofadbcgeokaaDoorCurveE
import Derived.Test.YtamofadbcgeokaaDoorCurveF
namespace Go.Proofs.YtamofadbcgeokaaDoor
open Go.RowKit Go.Extern.Stop Go.Stop Go.Extern

theorem then_bad {v u : Value} {xs ys : List Int} (w : World) (hx : Ints w v xs) (hy : Ints w u ys) (hc : ckTwo xs ys ≠ 0) :
    Calls Tryd.prog 34 #[v, u] w fun e w' => e = .returned (.tuple #[.slice none 0 0, .iface 24 (.int .i64 (ckTwo xs ys))]) ∧ Gr w w' := by
  have HX := Lib.hid hx
  have HY := Lib.hid hy
  have HC := Lib.hid hc
  clear hx hy hc
  go_enter Tryd.func34, Tryd.ntmps34
  go_wp2_with (go_at_call 55; refine (both_bad _ HX.out HY.out HC.out).mono ?_; rintro e w' ⟨rfl, rfl⟩)
  go_ret2
  exact ⟨rfl, Gr.refl _⟩

set_option maxHeartbeats 1000000 in
theorem curveThen_walk {v u : Value} {xs ys : List Int} (w : World) (hg : Glob w) (hx : Ints w v xs) (_ : ∀ x ∈ xs, -9223372036854775808 ≤ x ∧ x ≤ 9223372036854775807) (hy : Ints w u ys) (_ : ∀ x ∈ ys, -9223372036854775808 ≤ x ∧ x ≤ 9223372036854775807) :
    Calls Tryd.prog 8 #[v, u] w fun e w' => e = .returned (.bool true) ∧ Gr w w' := by
  by_cases hl : 300 < xs.length ∨ 300 < ys.length
  · have B1 := Lib.hid (long_yes w hx hy hl)
    clear hl hg hx hy
    go_enter Tryd.func8, Tryd.ntmps8
    go_wp2_with (go_at_call 30; refine B1.out.mono ?_; rintro e w' ⟨rfl, rfl⟩)
    go_ret
    exact ⟨rfl, Gr.refl _⟩
  have HG := Lib.hid hg
  have HX := Lib.hid hx
  have HY := Lib.hid hy
  have B1 := Lib.hid (long_no w hx hy (by omega) (by omega))
  have B2 := Lib.hid (curves_any w hx hy)
  clear hg hx hy hl
  by_cases hc : ckTwo xs ys = 0
  · have HC := Lib.hid hc
    clear hc
    go_enter Tryd.func8, Tryd.ntmps8
    go_wp2_with (first
      | (go_at_call 30; refine B1.out.mono ?_; rintro e w' ⟨rfl, rfl⟩)
      | (go_at_call 31; refine B2.out.mono ?_; rintro e w' ⟨rfl, rfl⟩; rw [HC.out])
      | (go_at_call 33; refine (refthen_ok _ HX.out HY.out HC.out).mono ?_; rintro e w' ⟨r1, rfl, hr1, hg0⟩; have R1 := Lib.hid hr1; have G0 := Lib.hid hg0; clear hg0 hr1)
      | (go_at_call 34; refine (then_ok _ (HX.out.gr G0.out) (HY.out.gr G0.out) HC.out).mono ?_; rintro e w' ⟨r2, rfl, hr2, hg1⟩; have R2 := Lib.hid hr2; have G1 := Lib.hid hg1; clear hg1 hr2)
      | (go_at_call 14; refine (bare_yes _ (HG.out.gr (G0.out.trans G1.out)) (ErrIs.nil _)).mono ?_; rintro e w' ⟨rfl, hg2⟩; have G2 := Lib.hid hg2; clear hg2)
      | (go_at_call 29; refine (sameInts_any _ (R2.out.gr G2.out) (R1.out.gr (G1.out.trans G2.out))).mono ?_; rintro e w' ⟨rfl, hg3⟩; have G3 := Lib.hid hg3; clear hg3))
    go_ret
    exact ⟨rfl, G0.out.trans (G1.out.trans (G2.out.trans G3.out))⟩
  · have HC := Lib.hid hc
    have hb : (ckTwo xs ys == 0) = false := by simpa using hc
    clear hc
    obtain ⟨c, hcc⟩ : ∃ c, ckTwo xs ys = c := ⟨_, rfl⟩
    rw [hcc] at hb
    have HCC := Lib.hid hcc
    clear hcc
    go_enter Tryd.func8, Tryd.ntmps8
    go_wp2_with (first
      | (go_at_call 30; refine B1.out.mono ?_; rintro e w' ⟨rfl, rfl⟩)
      | (go_at_call 31; refine B2.out.mono ?_; rintro e w' ⟨rfl, rfl⟩; rw [HCC.out])
      | (go_at_call 34; refine (then_bad _ HX.out HY.out HC.out).mono ?_; rintro e w' ⟨rfl, hg1⟩; rw [HCC.out]; have G1 := Lib.hid hg1; clear hg1)
      | (go_at_call 14; refine (bare_yes _ (HG.out.gr G1.out) (ErrIs.no _ _)).mono ?_; rintro e w' ⟨rfl, hg2⟩; have G2 := Lib.hid hg2; clear hg2)
      | (go_at_call 29; refine (sameInts_any _ (nil_ints _) (nil_ints _)).mono ?_; rintro e w' ⟨rfl, hg3⟩; have G3 := Lib.hid hg3; clear hg3))
    go_ret
    exact ⟨rfl, G1.out.trans (G2.out.trans G3.out)⟩

end Go.Proofs.YtamofadbcgeokaaDoor

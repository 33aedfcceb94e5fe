/-
  The law CurveLeast: its walk.
-/
import Derived.Test.YtamofadbcgeokaaDoorCurveD
namespace Go.Proofs.YtamofadbcgeokaaDoor
open Go.RowKit Go.Extern.Stop Go.Stop Go.Extern

theorem least_bad {v u : Value} {xs ys : List Int} (w : World) (hx : Ints w v xs) (hy : Ints w u ys) (hc : ckTwo xs ys ≠ 0) :
    Calls Tryd.prog 32 #[v, u] w fun e w' => e = .returned (.tuple #[.slice none 0 0, .iface 24 (.int .i64 (ckTwo xs ys))]) ∧ Gr w w' := by
  have HX := Lib.hid hx
  have HY := Lib.hid hy
  have HC := Lib.hid hc
  clear hx hy hc
  go_enter Tryd.func32, Tryd.ntmps32
  go_wp2_with (go_at_call 55; refine (both_bad _ HX.out HY.out HC.out).mono ?_; rintro e w' ⟨rfl, rfl⟩)
  go_ret2
  exact ⟨rfl, Gr.refl _⟩

theorem bare_yes {v : Value} {n : Int} (w : World) (hg : Glob w) (h : ErrIs w v n (-1)) :
    Calls Tryd.prog 14 #[v, .int .i64 n] w fun e w' => e = .returned (.bool true) ∧ Gr w w' := by
  have := law_bare n w hg h
  simpa using this

theorem nil_ints (w : World) : Ints w (.slice none 0 0) [] := .inl ⟨_, _, rfl, rfl⟩

set_option maxHeartbeats 1000000 in
theorem curveLeast_bad {v u : Value} {xs ys : List Int} (w : World) (hg : Glob w) (hx : Ints w v xs) (hy : Ints w u ys) (l1 : xs.length ≤ 300) (l2 : ys.length ≤ 300) (hc : ckTwo xs ys ≠ 0) :
    Calls Tryd.prog 7 #[v, u] w fun e w' => e = .returned (.bool true) ∧ Gr w w' := by
  have HG := Lib.hid hg
  have HX := Lib.hid hx
  have HY := Lib.hid hy
  have HC := Lib.hid hc
  have hb : (ckTwo xs ys == 0) = false := by simpa using hc
  have B1 := Lib.hid (long_no w hx hy l1 l2)
  have B2 := Lib.hid (curves_any w hx hy)
  clear hg hx hy hc
  obtain ⟨c, hcc⟩ : ∃ c, ckTwo xs ys = c := ⟨_, rfl⟩
  rw [hcc] at hb
  have HCC := Lib.hid hcc
  clear hcc
  go_enter Tryd.func7, Tryd.ntmps7
  go_wp2_with (first
    | (go_at_call 30; refine B1.out.mono ?_; rintro e w' ⟨rfl, rfl⟩)
    | (go_at_call 31; refine B2.out.mono ?_; rintro e w' ⟨rfl, rfl⟩; rw [HCC.out]))
  refine wp_loop_rounds 1 ?_
  rw [rounds_succ]
  go_wp2_with (first
    | (go_at_call 32; refine (least_bad _ HX.out HY.out HC.out).mono ?_; rintro e w' ⟨rfl, hg1⟩; rw [HCC.out]; have G1 := Lib.hid hg1; clear hg1)
    | (go_at_call 14; refine (bare_yes _ (HG.out.gr G1.out) (ErrIs.no _ _)).mono ?_; rintro e w' ⟨rfl, hg2⟩; have G2 := Lib.hid hg2; clear hg2)
    | (go_at_call 29; refine (sameInts_any _ (nil_ints _) (nil_ints _)).mono ?_; rintro e w' ⟨rfl, hg3⟩; have G3 := Lib.hid hg3; clear hg3))
  go_ret
  exact ⟨rfl, G1.out.trans (G2.out.trans G3.out)⟩

set_option maxRecDepth 100000 in
set_option maxHeartbeats 2000000 in
theorem curveLeast_ok {v u : Value} {xs ys : List Int} (w : World) (hg : Glob w) (hx : Ints w v xs) (hy : Ints w u ys) (l1 : xs.length ≤ 300) (l2 : ys.length ≤ 300) (hc : ckTwo xs ys = 0) :
    Calls Tryd.prog 7 #[v, u] w fun e w' => e = .returned (.bool true) ∧ Gr w w' := by
  obtain ⟨l1, _⟩ := ckCurve_pos (ckTwo_ok hc).1
  obtain ⟨l3, _⟩ := ckCurve_pos (ckTwo_ok hc).2
  have HGl := Lib.hid hg
  have HX := Lib.hid hx
  have HY := Lib.hid hy
  have HC := Lib.hid hc
  have B1 := Lib.hid (long_no w hx hy (by omega) (by omega))
  have B2 := Lib.hid (curves_any w hx hy)
  obtain ⟨b, off, cap, rfl, CX⟩ := ints_cells hx l1
  obtain ⟨b', off', cap', rfl, CY⟩ := ints_cells hy l3
  clear hg hx hy hc
  generalize hn : xs.length = n at *
  generalize hm : ys.length = m at *
  have HN := Lib.hid hn
  have HM := Lib.hid hm
  clear hn hm
  go_enter Tryd.func7, Tryd.ntmps7
  go_wp2_with (first
    | (go_at_call 30; refine B1.out.mono ?_; rintro e w' ⟨rfl, rfl⟩)
    | (go_at_call 31; refine B2.out.mono ?_; rintro e w' ⟨rfl, rfl⟩; rw [HC.out]))
  go_loopw [6, 7] (fun r i wr => ∃ k : Nat, k ≤ min n m ∧ i = .int .i64 k ∧ Hid (OwnInts wr w.heap.size r (upTo (leastAt xs ys) k)) ∧ Hid (Gr w wr)) (fun _ i _ => min n m - (intOf i).toNat)
  case atStart => exact ⟨0, Nat.zero_le _, rfl, OwnInts.nil _ _, Gr.refl _⟩
  case round =>
    obtain ⟨k, hk, rfl, HO, HG⟩ := hrel
    by_cases hlt : k < min n m
    · have d1 := CX.out k (by omega)
      have d2 := CY.out k (by omega)
      have i0 : (0 : Int) ≤ (k : Int) := by omega
      have i1 : (k : Int) < (n : Int) := by omega
      have i2 : (k : Int) < (m : Int) := by omega
      have hf : leastAt xs ys k = min (xs.getD k 0) (ys.getD k 0) := rfl
      generalize xs.getD k 0 = x at d1 hf
      generalize ys.getD k 0 = y at d2 hf
      have HF := Lib.hid hf
      have D1 := Lib.hid d1
      have D2 := Lib.hid d2
      have c1 := HG.out.cell d1
      have c2 := HG.out.cell d2
      clear hf d1 d2
      go_wp2
      go_region_held3 (fun w' => w'.cell? ⟨b, off + k, none⟩ = some (.int .i64 x) ∧ w'.cell? ⟨b', off' + k, none⟩ = some (.int .i64 y))
        (first
          | go_keep
          | exact ⟨(hwr1 w (HG.out.alloc _).drew (Nat.le_refl _)).cell D1.out, (hwr1 w (HG.out.alloc _).drew (Nat.le_refl _)).cell D2.out⟩)
        ((refine step_append_int (by rfl) _ _ _ (by rfl) (by kernel_rfl) w.heap.size _ _ (min x y) (by rfl) ((HO.out.alloc _).drew) ⟨wr.heap.size, 0, none⟩ 1 (by rfl) (by simp [min_ite]) (by rw [upTo_len]; omega) (by have := HG.out.size; simp; omega) ?_; intro r' w1 hown1 hwr1))
      have HG1 := Lib.hid (hwr1 w (HG.out.alloc _).drew (Nat.le_refl _))
      have HO1 := Lib.hid hown1
      clear hown1 hwr1
      go_wp2
      go_roundw
      case rel => exact ⟨k + 1, by omega, by go_num, by rw [← upTo_succ, HF.out]; exact HO1.out, HG1.out⟩
      case measure => simp [intOf]; omega
    · obtain rfl : k = min n m := by omega
      obtain ⟨ra, rcap, hr⟩ := HO.out.shape
      have h1 := HO.out.ints (by rw [upTo_len]; omega)
      have HR := Lib.hid h1
      clear hr h1
      rcases Nat.lt_or_ge (min n m) n with hmn | hmn
      all_goals
        go_wp2_with (first
          | (go_at_call 32; refine (least_ok _ (HX.out.gr HG.out) (HY.out.gr HG.out) HC.out).mono ?_; rintro e w' ⟨r2, rfl, hr2, hg1⟩; have R2 := Lib.hid hr2; have G1 := Lib.hid hg1; clear hg1 hr2)
          | (go_at_call 14; refine (bare_yes _ (HGl.out.gr (HG.out.trans G1.out)) (ErrIs.nil _)).mono ?_; rintro e w' ⟨rfl, hg2⟩; have G2 := Lib.hid hg2; clear hg2)
          | (go_at_call 29; refine (sameInts_any _ (R2.out.gr G2.out) (by rw [HN.out, HM.out]; exact HR.out.gr (G1.out.trans G2.out))).mono ?_; rintro e w' ⟨rfl, hg3⟩; have G3 := Lib.hid hg3; clear hg3))
        go_ret
        exact ⟨rfl, HG.out.trans (G1.out.trans (G2.out.trans G3.out))⟩

theorem curveLeast_walk {v u : Value} {xs ys : List Int} (w : World) (hg : Glob w) (hx : Ints w v xs) (_ : ∀ x ∈ xs, -9223372036854775808 ≤ x ∧ x ≤ 9223372036854775807) (hy : Ints w u ys) (_ : ∀ x ∈ ys, -9223372036854775808 ≤ x ∧ x ≤ 9223372036854775807) :
    Calls Tryd.prog 7 #[v, u] w fun e w' => e = .returned (.bool true) ∧ Gr w w' := by
  by_cases hl : 300 < xs.length ∨ 300 < ys.length
  · have B1 := Lib.hid (long_yes w hx hy hl)
    clear hl hg hx hy
    go_enter Tryd.func7, Tryd.ntmps7
    go_wp2_with (go_at_call 30; refine B1.out.mono ?_; rintro e w' ⟨rfl, rfl⟩)
    go_ret
    exact ⟨rfl, Gr.refl _⟩
  · by_cases hc : ckTwo xs ys = 0
    · exact curveLeast_ok w hg hx hy (by omega) (by omega) hc
    · exact curveLeast_bad w hg hx hy (by omega) (by omega) hc
end Go.Proofs.YtamofadbcgeokaaDoor

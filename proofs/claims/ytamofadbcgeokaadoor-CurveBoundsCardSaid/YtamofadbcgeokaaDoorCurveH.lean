/-
  curve.Behind, millraceref.Behind; the law CurveBehind.
-/
import Derived.Test.YtamofadbcgeokaaDoorCurveE
import Derived.Test.YtamofadbcgeokaaDoorCurveF
namespace Go.Proofs.YtamofadbcgeokaaDoor
open Go.RowKit Go.Extern.Stop Go.Stop Go.Extern

/-- the greatest of 0 and the first n of f -/
def maxTo (f : Nat → Int) : Nat → Int
  | 0 => 0
  | n + 1 => max (maxTo f n) (f n)
theorem maxTo_bd {f : Nat → Int} {n : Nat} {hi : Int} (h0 : 0 ≤ hi) (h : ∀ j, j < n → f j ≤ hi) : 0 ≤ maxTo f n ∧ maxTo f n ≤ hi := by
  induction n with
  | zero => exact ⟨Int.le_refl _, h0⟩
  | succ n ih =>
    have h1 := ih (fun j hj => h j (by omega))
    have h2 := h n (by omega)
    simp only [maxTo]
    omega
def behindF (xs ys : List Int) (t s : Nat) : Int := xs.getD (t + s) 0 - ys.getD s 0
def behindAt (xs ys : List Int) (n t : Nat) : Int := maxTo (behindF xs ys t) (n - t)
theorem lt_other2 {a : Int} {q m : Nat} (h : a < (q : Int)) (h' : q ≤ m) : a < (m : Int) := by omega

set_option maxRecDepth 100000 in
set_option maxHeartbeats 4000000 in
theorem behind_ok {v u : Value} {xs ys : List Int} (w : World) (hx : Ints w v xs) (hy : Ints w u ys) (hc : ckTwo xs ys = 0) :
    Calls Tryd.prog 38 #[v, u] w fun e w' => ∃ r, e = .returned (.tuple #[r, .nilIface]) ∧ Ints w' r (upTo (behindAt xs ys (min xs.length ys.length)) ((min xs.length ys.length + 1) / 2)) ∧ Gr w w' := by
  obtain ⟨l1, l2⟩ := ckCurve_pos (ckTwo_ok hc).1
  obtain ⟨l3, l4⟩ := ckCurve_pos (ckTwo_ok hc).2
  have HBX := Lib.hid (ckCurve_bd (ckTwo_ok hc).1)
  have HBY := Lib.hid (ckCurve_bd (ckTwo_ok hc).2)
  have HX := Lib.hid hx
  have HY := Lib.hid hy
  have HC := Lib.hid hc
  obtain ⟨b, off, cap, rfl, CX⟩ := ints_cells hx l1
  obtain ⟨b', off', cap', rfl, CY⟩ := ints_cells hy l3
  clear hx hy hc
  generalize hn : xs.length = n at *
  generalize hm : ys.length = m at *
  clear hn hm
  have hq : (min n m = n ∧ n ≤ m) ∨ (min n m = m ∧ m < n) := by omega
  generalize min n m = q at *
  have HBF : Hid (∀ k, k < q → ∀ j, j < q - k → -1000000000000 ≤ behindF xs ys k j ∧ behindF xs ys k j ≤ 1000000000000) := by
    intro k hk j hj
    have a1 := HBX.out (k + j) (by omega)
    have a2 := HBY.out j (by omega)
    unfold behindF
    omega
  rcases hq with ⟨rfl, hle⟩ | ⟨rfl, hle⟩
  all_goals
    go_enter Tryd.func38, Tryd.ntmps38
    go_wp2_with (go_at_call 55; refine (both_ok _ HX.out HY.out HC.out).mono ?_; rintro e w' ⟨rfl, rfl⟩)
    go_loopw [8, 26] (fun r i wr => ∃ k : Nat, k ≤ (q + 1) / 2 ∧ i = .int .i64 k ∧ Hid (OwnInts wr w.heap.size r (upTo (behindAt xs ys q) k)) ∧ Hid (Gr w wr)) (fun _ i _ => q + 1 - (intOf i).toNat)
    case atStart => exact ⟨0, Nat.zero_le _, rfl, OwnInts.nil _ _, Gr.refl _⟩
    case round =>
      obtain ⟨k, hk, rfl, HO, HG⟩ := hrel
      by_cases hlt : k < (q + 1) / 2
      · go_wp2
        obtain ⟨wo, hwo⟩ : ∃ wo : World, wo = wr := ⟨_, rfl⟩
        rw [← hwo] at HO HG
        rw [← hwo]
        clear hwo
        go_loopw [10, 11] (fun be s wi => ∃ j : Nat, j ≤ q - k ∧ s = .int .i64 j ∧ be = .int .i64 (maxTo (behindF xs ys k) j) ∧ Hid (OwnInts wi w.heap.size u8 (upTo (behindAt xs ys q) k)) ∧ Hid (Gr w wi)) (fun _ s _ => q + 1 - (intOf s).toNat)
        case atStart => exact ⟨0, by omega, rfl, rfl, HO, HG⟩
        case round =>
          obtain ⟨j, hj, rfl, rfl, HO, HG⟩ := hrel
          have hbb := maxTo_bd (f := behindF xs ys k) (n := j) (hi := 1000000000000) (by omega) (fun i hi => (HBF.out k (by omega) i (by omega)).2)
          by_cases hjk : j < q - k
          · have d1 := CX.out (k + j) (by omega)
            have d2 := CY.out j (by omega)
            have j0 : (0 : Int) ≤ (j : Int) := by omega
            have jj0 : (0 : Int) ≤ (k : Int) := by omega
            have jq : (k : Int) + (j : Int) < (q : Int) := by omega
            have jq' : (j : Int) + (k : Int) < (q : Int) := by omega
            have jq2 := by first | exact lt_other2 jq hle | exact lt_other2 jq (Nat.le_of_lt hle)
            have jq3 := by first | exact lt_other2 jq' hle | exact lt_other2 jq' (Nat.le_of_lt hle)
            have j1 : (j : Int) < (q : Int) := by omega
            have j2 := by first | exact lt_other (show j < q by omega) hle | exact lt_other (show j < q by omega) (Nat.le_of_lt hle)
            have e1 := HBX.out (k + j) (by omega)
            have e2 := HBY.out j (by omega)
            have hf : maxTo (behindF xs ys k) (j + 1) = max (maxTo (behindF xs ys k) j) (xs.getD (k + j) 0 - ys.getD j 0) := by
              rfl
            generalize xs.getD (k + j) 0 = x at d1 hf e1
            generalize ys.getD j 0 = y at d2 hf e2
            generalize maxTo (behindF xs ys k) j = best at *
            have HF := Lib.hid hf
            have c1 := HG.out.cell d1
            have c2 := HG.out.cell d2
            clear hf d1 d2
            go_wp2
            go_quiet (fail)
            go_wp2
            go_roundw
            case rel => exact ⟨j + 1, by omega, by go_num, by rw [HF.out, ← max_ite], HO.out.drewN _, HG.out.drewN _⟩
            case measure => simp [intOf]; omega
          · obtain rfl : j = q - k := by omega
            generalize hbest : maxTo (behindF xs ys k) (q - k) = best at *
            have HF2 := Lib.hid (show behindAt xs ys q k = best from hbest)
            clear hbest
            go_wp2_with (at_builtin; refine wpList_append_int (by rfl) _ _ _ (by rfl) (by kernel_rfl) w.heap.size _ _ best (by rfl) (HO.out.alloc _) ⟨wr.heap.size, 0, none⟩ 1 (by rfl) (by simp) (by rw [upTo_len]; omega) (by have := HG.out.size; simp; omega) ?_; intro r' w1 hown1 hwr1; have HG1 := Lib.hid (hwr1 w (HG.out.alloc _) (Nat.le_refl _)); have HO1 := Lib.hid hown1; clear hown1 hwr1)
            go_roundw
            case rel => exact ⟨k + 1, by omega, by go_num, by rw [← upTo_succ, HF2.out]; exact HO1.out, HG1.out⟩
            case measure => simp [intOf]; omega
      · go_wp2
        obtain rfl : k = (q + 1) / 2 := by omega
        go_ret2
        exact ⟨_, rfl, HO.out.ints (by rw [upTo_len]; omega), HG.out⟩

set_option maxRecDepth 100000 in
set_option maxHeartbeats 4000000 in
theorem refbehind_ok {v u : Value} {xs ys : List Int} (w : World) (hx : Ints w v xs) (hy : Ints w u ys) (hc : ckTwo xs ys = 0) :
    Calls Tryd.prog 37 #[v, u] w fun e w' => ∃ r, e = .returned r ∧ Ints w' r (upTo (behindAt xs ys (min xs.length ys.length)) ((min xs.length ys.length + 1) / 2)) ∧ Gr w w' := by
  obtain ⟨l1, l2⟩ := ckCurve_pos (ckTwo_ok hc).1
  obtain ⟨l3, l4⟩ := ckCurve_pos (ckTwo_ok hc).2
  have HBX := Lib.hid (ckCurve_bd (ckTwo_ok hc).1)
  have HBY := Lib.hid (ckCurve_bd (ckTwo_ok hc).2)
  have HX := Lib.hid hx
  have HY := Lib.hid hy
  have HC := Lib.hid hc
  obtain ⟨b, off, cap, rfl, CX⟩ := ints_cells hx l1
  obtain ⟨b', off', cap', rfl, CY⟩ := ints_cells hy l3
  clear hx hy hc
  generalize hn : xs.length = n at *
  generalize hm : ys.length = m at *
  clear hn hm
  have hq : (min n m = n ∧ n ≤ m) ∨ (min n m = m ∧ m < n) := by omega
  generalize min n m = q at *
  have HBF : Hid (∀ k, k < q → ∀ j, j < q - k → -1000000000000 ≤ behindF xs ys k j ∧ behindF xs ys k j ≤ 1000000000000) := by
    intro k hk j hj
    have a1 := HBX.out (k + j) (by omega)
    have a2 := HBY.out j (by omega)
    unfold behindF
    omega
  rcases hq with ⟨rfl, hle⟩ | ⟨rfl, hle⟩
  all_goals
    go_enter Tryd.func37, Tryd.ntmps37
    go_wp2
    go_loopw [6, 7] (fun r i wr => ∃ k : Nat, k ≤ (q + 1) / 2 ∧ i = .int .i64 k ∧ Hid (OwnInts wr w.heap.size r (upTo (behindAt xs ys q) k)) ∧ Hid (Gr w wr)) (fun _ i _ => q + 1 - (intOf i).toNat)
    case atStart => exact ⟨0, Nat.zero_le _, rfl, OwnInts.nil _ _, Gr.refl _⟩
    case round =>
      obtain ⟨k, hk, rfl, HO, HG⟩ := hrel
      by_cases hlt : k < (q + 1) / 2
      · go_wp2
        obtain ⟨wo, hwo⟩ : ∃ wo : World, wo = wr := ⟨_, rfl⟩
        rw [← hwo] at HO HG
        rw [← hwo]
        clear hwo
        go_loopw [8, 9] (fun be s wi => ∃ j : Nat, j ≤ q - k ∧ s = .int .i64 j ∧ be = .int .i64 (maxTo (behindF xs ys k) j) ∧ Hid (OwnInts wi w.heap.size u6 (upTo (behindAt xs ys q) k)) ∧ Hid (Gr w wi)) (fun _ s _ => q + 1 - (intOf s).toNat)
        case atStart => exact ⟨0, by omega, rfl, rfl, HO, HG⟩
        case round =>
          obtain ⟨j, hj, rfl, rfl, HO, HG⟩ := hrel
          have hbb := maxTo_bd (f := behindF xs ys k) (n := j) (hi := 1000000000000) (by omega) (fun i hi => (HBF.out k (by omega) i (by omega)).2)
          by_cases hjk : j < q - k
          · have d1 := CX.out (j + k) (by omega)
            have d2 := CY.out j (by omega)
            have j0 : (0 : Int) ≤ (j : Int) := by omega
            have jj0 : (0 : Int) ≤ (k : Int) := by omega
            have jq : (k : Int) + (j : Int) < (q : Int) := by omega
            have jq' : (j : Int) + (k : Int) < (q : Int) := by omega
            have jq2 := by first | exact lt_other2 jq hle | exact lt_other2 jq (Nat.le_of_lt hle)
            have jq3 := by first | exact lt_other2 jq' hle | exact lt_other2 jq' (Nat.le_of_lt hle)
            have j1 : (j : Int) < (q : Int) := by omega
            have j2 := by first | exact lt_other (show j < q by omega) hle | exact lt_other (show j < q by omega) (Nat.le_of_lt hle)
            have e1 := HBX.out (j + k) (by omega)
            have e2 := HBY.out j (by omega)
            have hf : maxTo (behindF xs ys k) (j + 1) = max (maxTo (behindF xs ys k) j) (xs.getD (j + k) 0 - ys.getD j 0) := by
              rw [Nat.add_comm j k]; rfl
            generalize xs.getD (j + k) 0 = x at d1 hf e1
            generalize ys.getD j 0 = y at d2 hf e2
            generalize maxTo (behindF xs ys k) j = best at *
            have HF := Lib.hid hf
            have c1 := HG.out.cell d1
            have c2 := HG.out.cell d2
            clear hf d1 d2
            go_wp2
            go_quiet (fail)
            go_wp2
            go_roundw
            case rel => exact ⟨j + 1, by omega, by go_num, by rw [HF.out, ← max_ite], HO.out.drewN _, HG.out.drewN _⟩
            case measure => simp [intOf]; omega
          · obtain rfl : j = q - k := by omega
            generalize hbest : maxTo (behindF xs ys k) (q - k) = best at *
            have HF2 := Lib.hid (show behindAt xs ys q k = best from hbest)
            clear hbest
            go_wp2_with (at_builtin; refine wpList_append_int (by rfl) _ _ _ (by rfl) (by kernel_rfl) w.heap.size _ _ best (by rfl) (HO.out.alloc _) ⟨wr.heap.size, 0, none⟩ 1 (by rfl) (by simp) (by rw [upTo_len]; omega) (by have := HG.out.size; simp; omega) ?_; intro r' w1 hown1 hwr1; have HG1 := Lib.hid (hwr1 w (HG.out.alloc _) (Nat.le_refl _)); have HO1 := Lib.hid hown1; clear hown1 hwr1)
            go_roundw
            case rel => exact ⟨k + 1, by omega, by go_num, by rw [← upTo_succ, HF2.out]; exact HO1.out, HG1.out⟩
            case measure => simp [intOf]; omega
      · go_wp2
        obtain rfl : k = (q + 1) / 2 := by omega
        go_ret
        exact ⟨_, rfl, HO.out.ints (by rw [upTo_len]; omega), HG.out⟩

theorem behind_bad {v u : Value} {xs ys : List Int} (w : World) (hx : Ints w v xs) (hy : Ints w u ys) (hc : ckTwo xs ys ≠ 0) :
    Calls Tryd.prog 38 #[v, u] w fun e w' => e = .returned (.tuple #[.slice none 0 0, .iface 24 (.int .i64 (ckTwo xs ys))]) ∧ Gr w w' := by
  have HX := Lib.hid hx
  have HY := Lib.hid hy
  have HC := Lib.hid hc
  clear hx hy hc
  go_enter Tryd.func38, Tryd.ntmps38
  go_wp2_with (go_at_call 55; refine (both_bad _ HX.out HY.out HC.out).mono ?_; rintro e w' ⟨rfl, rfl⟩)
  go_ret2
  exact ⟨rfl, Gr.refl _⟩

set_option maxHeartbeats 1000000 in
theorem curveBehind_walk {v u : Value} {xs ys : List Int} (w : World) (hg : Glob w) (hx : Ints w v xs) (_ : ∀ x ∈ xs, -9223372036854775808 ≤ x ∧ x ≤ 9223372036854775807) (hy : Ints w u ys) (_ : ∀ x ∈ ys, -9223372036854775808 ≤ x ∧ x ≤ 9223372036854775807) :
    Calls Tryd.prog 10 #[v, u] w fun e w' => e = .returned (.bool true) ∧ Gr w w' := by
  by_cases hl : 300 < xs.length ∨ 300 < ys.length
  · have B1 := Lib.hid (long_yes w hx hy hl)
    clear hl hg hx hy
    go_enter Tryd.func10, Tryd.ntmps10
    go_wp2_with (go_at_call 30; refine B1.out.mono ?_; rintro e w' ⟨rfl, rfl⟩)
    go_ret
    exact ⟨rfl, Gr.refl _⟩
  have HG := Lib.hid hg
  have HX := Lib.hid hx
  have HY := Lib.hid hy
  have B1 := Lib.hid (long_no w hx hy (by omega) (by omega))
  have B2 := Lib.hid (curves_any w hx hy)
  clear hg hx hy hl
  by_cases hc : ckTwo xs ys = 0
  · have HC := Lib.hid hc
    clear hc
    go_enter Tryd.func10, Tryd.ntmps10
    go_wp2_with (first
      | (go_at_call 30; refine B1.out.mono ?_; rintro e w' ⟨rfl, rfl⟩)
      | (go_at_call 31; refine B2.out.mono ?_; rintro e w' ⟨rfl, rfl⟩; rw [HC.out])
      | (go_at_call 37; refine (refbehind_ok _ HX.out HY.out HC.out).mono ?_; rintro e w' ⟨r1, rfl, hr1, hg0⟩; have R1 := Lib.hid hr1; have G0 := Lib.hid hg0; clear hg0 hr1)
      | (go_at_call 38; refine (behind_ok _ (HX.out.gr G0.out) (HY.out.gr G0.out) HC.out).mono ?_; rintro e w' ⟨r2, rfl, hr2, hg1⟩; have R2 := Lib.hid hr2; have G1 := Lib.hid hg1; clear hg1 hr2)
      | (go_at_call 14; refine (bare_yes _ (HG.out.gr (G0.out.trans G1.out)) (ErrIs.nil _)).mono ?_; rintro e w' ⟨rfl, hg2⟩; have G2 := Lib.hid hg2; clear hg2)
      | (go_at_call 29; refine (sameInts_any _ (R2.out.gr G2.out) (R1.out.gr (G1.out.trans G2.out))).mono ?_; rintro e w' ⟨rfl, hg3⟩; have G3 := Lib.hid hg3; clear hg3))
    go_ret
    exact ⟨rfl, G0.out.trans (G1.out.trans (G2.out.trans G3.out))⟩
  · have HC := Lib.hid hc
    have hb : (ckTwo xs ys == 0) = false := by simpa using hc
    clear hc
    obtain ⟨c, hcc⟩ : ∃ c, ckTwo xs ys = c := ⟨_, rfl⟩
    rw [hcc] at hb
    have HCC := Lib.hid hcc
    clear hcc
    go_enter Tryd.func10, Tryd.ntmps10
    go_wp2_with (first
      | (go_at_call 30; refine B1.out.mono ?_; rintro e w' ⟨rfl, rfl⟩)
      | (go_at_call 31; refine B2.out.mono ?_; rintro e w' ⟨rfl, rfl⟩; rw [HCC.out])
      | (go_at_call 38; refine (behind_bad _ HX.out HY.out HC.out).mono ?_; rintro e w' ⟨rfl, hg1⟩; rw [HCC.out]; have G1 := Lib.hid hg1; clear hg1)
      | (go_at_call 14; refine (bare_yes _ (HG.out.gr G1.out) (ErrIs.no _ _)).mono ?_; rintro e w' ⟨rfl, hg2⟩; have G2 := Lib.hid hg2; clear hg2)
      | (go_at_call 29; refine (sameInts_any _ (nil_ints _) (nil_ints _)).mono ?_; rintro e w' ⟨rfl, hg3⟩; have G3 := Lib.hid hg3; clear hg3))
    go_ret
    exact ⟨rfl, G1.out.trans (G2.out.trans G3.out)⟩

end Go.Proofs.YtamofadbcgeokaaDoor

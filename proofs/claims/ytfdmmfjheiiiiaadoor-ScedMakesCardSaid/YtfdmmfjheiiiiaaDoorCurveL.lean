/-
  millraceref.Serve; the law CurveServes: its walk.
-/
import Derived.Test.YtfdmmfjheiiiiaaDoorCurveE
import Derived.Test.YtfdmmfjheiiiiaaDoorCurveK
namespace Go.Proofs.YtfdmmfjheiiiiaaDoor
open Go.RowKit Go.Extern.Stop Go.Stop Go.Extern

theorem errV4 : errV 4 = .iface 26 (.int .i64 4) := rfl

/-- curve.Serve where what is served is wrong, or shorter, or nothing comes. -/
theorem serve_check {v u : Value} {xs ys : List Int} (w : World) (hy : Ints w u ys) (hc : ckCurve ys ≠ 0) :
    Calls Tryd.prog 20 #[v, u] w (ServeIs w xs ys errV) := by
  have HC := Lib.hid (check_bad w hy hc)
  have HN := Lib.hid hc
  clear hy hc
  go_enter Tryd.func20, Tryd.ntmps20
  go_wp2_with (go_at_call 19; refine HC.out.mono ?_; rintro e w' ⟨rfl, rfl⟩)
  go_ret2
  have := ServeIs.bad (w := w) (w' := w) (xs := xs) (ys := ys) (mk := errV) (a := none) (cap := 0) (ckServe_check HN.out) HN.out (Gr.refl w)
  rw [errV_ne HN.out] at this
  exact this
theorem serve_len {v u : Value} {xs ys : List Int} (w : World) (hx : Ints w v xs) (hy : Ints w u ys) (hc : ckCurve ys = 0) (hl : ys.length < xs.length) :
    Calls Tryd.prog 20 #[v, u] w (ServeIs w xs ys errV) := by
  have HC := Lib.hid (check_ok w hy hc)
  have HN := Lib.hid (ckServe_len hc hl)
  have l1 := hx.len
  have l2 := hy.len
  obtain ⟨a, cap, rfl⟩ := ints_shape hx
  obtain ⟨a', cap', rfl⟩ := ints_shape hy
  clear hx hy hc
  generalize hn : xs.length = n at *
  generalize hm : ys.length = m at *
  clear hn hm
  go_enter Tryd.func20, Tryd.ntmps20
  go_wp2_with (go_at_call 19; refine HC.out.mono ?_; rintro e w' ⟨rfl, rfl⟩)
  go_ret2
  exact ServeIs.bad (mk := errV) HN.out (by decide) (Gr.refl w)
theorem serve_nil {u : Value} {ys : List Int} (a : Option Addr) (cap : Nat) (w : World) (hy : Ints w u ys) (hc : ckCurve ys = 0) :
    Calls Tryd.prog 20 #[.slice a 0 cap, u] w (ServeIs w [] ys errV) := by
  have HC := Lib.hid (check_ok w hy hc)
  have HN : Hid (ckServe [] ys = 0) := ckServe_ok (n := 0) rfl hc (by simp) (fun j hj => absurd hj (by omega))
  obtain ⟨a', cap', rfl⟩ := ints_shape hy
  have l2 := hy.len
  clear hy hc
  generalize hm : ys.length = m at *
  clear hm
  go_enter Tryd.func20, Tryd.ntmps20
  go_wp2_with (go_at_call 19; refine HC.out.mono ?_; rintro e w' ⟨rfl, rfl⟩)
  refine wp_loop_rounds 1 ?_
  rw [rounds_succ]
  go_wp2
  refine wp_loop_rounds 1 ?_
  rw [rounds_succ]
  go_wp2
  go_ret2
  exact ServeIs.good (n := 0) rfl HN.out (.inl ⟨_, _, rfl, rfl⟩) (Gr.refl _)
theorem serve_any {v u : Value} {xs ys : List Int} (w : World) (hx : Ints w v xs) (hy : Ints w u ys) :
    Calls Tryd.prog 20 #[v, u] w (ServeIs w xs ys errV) := by
  by_cases hc : ckCurve ys = 0
  · by_cases hl : ys.length < xs.length
    · exact serve_len w hx hy hc hl
    · rcases Nat.eq_zero_or_pos xs.length with h0 | h0
      · obtain ⟨a, cap, rfl⟩ := ints_shape hx
        obtain rfl := List.length_eq_zero_iff.1 h0
        exact serve_nil a cap w hy hc
      · obtain ⟨b, off, cap, rfl, CX⟩ := ints_cells hx h0
        exact serve_slice b off cap _ w rfl h0 CX hy hc hl
  · exact serve_check w hy hc

def codeV (c : Int) : Value := .int .i64 c

theorem refserve_check {v u : Value} {xs ys : List Int} (w : World) (hy : Ints w u ys) (hc : ckCurve ys ≠ 0) :
    Calls Tryd.prog 13 #[v, u] w (ServeIs w xs ys codeV) := by
  have HC := Lib.hid (refcheck_any w hy)
  have HN := Lib.hid hc
  have hb : (ckCurve ys != 0) = true := by simpa using hc
  have HS := Lib.hid (ckServe_check (xs := xs) hc)
  clear hy hc
  generalize ckCurve ys = c at *
  go_enter Tryd.func13, Tryd.ntmps13
  go_wp2_with (go_at_call 12; refine HC.out.mono ?_; rintro e w' ⟨rfl, rfl⟩)
  go_ret2
  exact ServeIs.bad (mk := codeV) HS.out HN.out (Gr.refl w)
theorem refserve_len {v u : Value} {xs ys : List Int} (w : World) (hx : Ints w v xs) (hy : Ints w u ys) (hc : ckCurve ys = 0) (hl : ys.length < xs.length) :
    Calls Tryd.prog 13 #[v, u] w (ServeIs w xs ys codeV) := by
  have hcc := refcheck_any w hy
  rw [hc] at hcc
  have HC := Lib.hid hcc
  have HN := Lib.hid (ckServe_len hc hl)
  have l1 := hx.len
  have l2 := hy.len
  obtain ⟨a, cap, rfl⟩ := ints_shape hx
  obtain ⟨a', cap', rfl⟩ := ints_shape hy
  clear hx hy hc hcc
  generalize hn : xs.length = n at *
  generalize hm : ys.length = m at *
  clear hn hm
  go_enter Tryd.func13, Tryd.ntmps13
  go_wp2_with (go_at_call 12; refine HC.out.mono ?_; rintro e w' ⟨rfl, rfl⟩)
  go_ret2
  exact ServeIs.bad (mk := codeV) HN.out (by decide) (Gr.refl w)
theorem refserve_nil {u : Value} {ys : List Int} (a : Option Addr) (cap : Nat) (w : World) (hy : Ints w u ys) (hc : ckCurve ys = 0) :
    Calls Tryd.prog 13 #[.slice a 0 cap, u] w (ServeIs w [] ys codeV) := by
  have hcc := refcheck_any w hy
  rw [hc] at hcc
  have HC := Lib.hid hcc
  have HN : Hid (ckServe [] ys = 0) := ckServe_ok (n := 0) rfl hc (by simp) (fun j hj => absurd hj (by omega))
  obtain ⟨a', cap', rfl⟩ := ints_shape hy
  have l2 := hy.len
  clear hy hc hcc
  generalize hm : ys.length = m at *
  clear hm
  go_enter Tryd.func13, Tryd.ntmps13
  go_wp2_with (go_at_call 12; refine HC.out.mono ?_; rintro e w' ⟨rfl, rfl⟩)
  refine wp_loop_rounds 1 ?_
  rw [rounds_succ]
  go_wp2
  refine wp_loop_rounds 1 ?_
  rw [rounds_succ]
  go_wp2
  go_ret2
  exact ServeIs.good (mk := codeV) (n := 0) rfl HN.out (.inl ⟨_, _, rfl, rfl⟩) (Gr.refl _)

set_option maxRecDepth 100000 in
set_option maxHeartbeats 4000000 in
theorem refserve_slice {u : Value} {xs ys : List Int} (b off cap n : Nat) (w : World) (hn : xs.length = n) (h0 : 0 < n) (hx : Hid (∀ i, i < n → w.cell? ⟨b, off + i, none⟩ = some (.int .i64 (xs.getD i 0)))) (hy : Ints w u ys) (hc : ckCurve ys = 0) (hl : ¬ ys.length < xs.length) :
    Calls Tryd.prog 13 #[.slice (some ⟨b, off, none⟩) n cap, u] w (ServeIs w xs ys codeV) := by
  obtain ⟨l3, l4⟩ := ckCurve_pos hc
  have HBY := Lib.hid (ckCurve_bd hc)
  have hcc := refcheck_any w hy
  rw [hc] at hcc
  have HC := Lib.hid hcc
  have HCC := Lib.hid hc
  have HL := Lib.hid hl
  obtain ⟨b', off', cap', rfl, CY⟩ := ints_cells hy l3
  have HN := Lib.hid hn
  rw [hn] at hl
  clear hy hc hn hcc
  generalize hm : ys.length = m at *
  have HM := Lib.hid hm
  clear hm
  go_enter Tryd.func13, Tryd.ntmps13
  go_wp2_with (go_at_call 12; refine HC.out.mono ?_; rintro e w' ⟨rfl, rfl⟩)
  go_loop [27] (fun i => ∃ k : Nat, k ≤ n ∧ i = .int .i64 k ∧ Hid (∀ j, j < k → comeAt xs j = 0)) (fun i => n - (intOf i).toNat)
  case atStart => exact ⟨0, Nat.zero_le _, rfl, fun j hj => absurd hj (by omega)⟩
  case round =>
    obtain ⟨k, hk, rfl, HZ⟩ := hrel
    by_cases hlt : k < n
    · have c1 := hx.out k hlt
      generalize hxk : xs.getD k 0 = x at c1
      have HXK := Lib.hid hxk
      have i0 : (0 : Int) ≤ (k : Int) := by omega
      have i1 : (k : Int) < (n : Int) := by omega
      clear hxk
      by_cases hbad : x < 0 ∨ 1000000 < x
      · go_wp2_with (go_at_call 11; refine (within_no _ _ _ _ (by omega)).mono ?_; rintro e w' ⟨rfl, rfl⟩)
        go_ret2
        exact ServeIs.bad (mk := codeV) (ckServe_at HN.out HCC.out (by rw [HM.out]; exact HL.out) HZ.out hlt (come_2 HXK.out hbad)) (by decide) (Gr.refl _)
      · have hz1 : Hid (∀ j, j < k + 1 → comeAt xs j = 0) := okTo_succ HZ.out (come_0 HXK.out hbad)
        have hb1 : 0 ≤ x := by omega
        have hb2 : x ≤ 1000000 := by omega
        clear hbad
        go_wp2_with (go_at_call 11; refine (within_yes _ _ _ _ (by omega) (by omega)).mono ?_; rintro e w' ⟨rfl, rfl⟩)
        go_round
        case rel => exact ⟨k + 1, by omega, by go_num, hz1⟩
        case measure => simp [intOf]; omega
    · obtain rfl : k = n := by omega
      have hok := Lib.hid (ckServe_ok HN.out HCC.out (by rw [HM.out]; exact HL.out) HZ.out)
      have HBF : Hid (∀ t, t < k → ∀ j, j ≤ t → 0 ≤ serveF xs ys t j ∧ serveF xs ys t j ≤ 2000000000000) := fun t ht => serveF_bd HZ.out HCC.out (by omega) ht (by rw [HM.out]; omega)
      have HSB : Hid (∀ t, t ≤ k → 0 ≤ sumTo xs t ∧ sumTo xs t ≤ 1000000 * (t : Int)) := fun t ht => sumTo_bd (fun j hj => HZ.out j (by omega))
      have HXB : Hid (∀ t, t < k → 0 ≤ xs.getD t 0 ∧ xs.getD t 0 ≤ 1000000) := by
        intro t ht
        have := HZ.out t ht
        unfold comeAt at this
        split at this <;> omega
      go_wp2
      go_loopw [9, 37] (fun r i wi => ∃ t : Nat, t ≤ k ∧ i = .int .i64 t ∧ Hid (OwnInts wi w.heap.size r (upTo (serveAt xs ys) t)) ∧ Hid (Gr w wi)) (fun _ i _ => k - (intOf i).toNat)
      case atStart => exact ⟨0, Nat.zero_le _, rfl, OwnInts.nil _ _, Gr.refl _⟩
      case round =>
        obtain ⟨t, ht, rfl, HO, HW⟩ := hrel
        by_cases htk : t < k
        · go_wp2
          obtain ⟨wp, hwp⟩ : ∃ wp : World, wp = wr := ⟨_, rfl⟩
          rw [← hwp] at HO HW
          rw [← hwp]
          clear hwp
          go_loopw [11, 12, 13] (fun be ah s wi => ∃ j : Nat, j ≤ t + 1 ∧ s = .int .i64 j ∧ ah = .int .i64 (sumTo xs j) ∧ be = .int .i64 (bestOf (serveF xs ys t) j) ∧ Hid (OwnInts wi w.heap.size u9 (upTo (serveAt xs ys) t)) ∧ Hid (Gr w wi)) (fun _ _ s _ => t + 1 - (intOf s).toNat)
          case atStart => exact ⟨0, by omega, rfl, rfl, rfl, HO, HW⟩
          case round =>
            obtain ⟨j, hj, rfl, rfl, rfl, HO, HW⟩ := hrel
            by_cases hjt : j ≤ t
            · have d1 := hx.out j (by omega)
              have d2 := CY.out (t - j) (by omega)
              have e0 := HXB.out j (by omega)
              have e1 := HSB.out j (by omega)
              have e2 := HBY.out (t - j) (by omega)
              have hs1 : sumTo xs (j + 1) = sumTo xs j + xs.getD j 0 := rfl
              have hf : serveF xs ys t j = sumTo xs j + ys.getD (t - j) 0 := rfl
              have j0 : (0 : Int) ≤ (j : Int) := by omega
              have j1 : (j : Int) < (k : Int) := by omega
              have j2 : (t : Int) < (m : Int) := by omega
              rcases Nat.eq_zero_or_pos j with hz | hz
              · subst hz
                rw [show t - 0 = t from rfl] at d2 e2 hf
                rw [Nat.add_zero] at d1
                rw [show bestOf (serveF xs ys t) 0 = -1 from rfl]
                rw [show sumTo xs 0 = 0 from rfl] at *
                generalize xs.getD 0 0 = z at d1 hs1 e0
                generalize ys.getD t 0 = y at d2 hf e2
                have HF := Lib.hid hf
                have HS := Lib.hid hs1
                have c1 := HW.out.cell d1
                have c2 := HW.out.cell d2
                clear hf d1 d2 hs1
                go_wp2
                go_roundw
                case rel => exact ⟨1, by omega, rfl, by rw [HS.out, Int.zero_add], by show _ = Value.int .i64 (serveF xs ys t 0); rw [HF.out, Int.zero_add], HO, HW⟩
                case measure => simp [intOf]
              · obtain ⟨i, hi⟩ : ∃ i, j = i + 1 := ⟨j - 1, by omega⟩
                have hb1 : bestOf (serveF xs ys t) j = minTo (serveF xs ys t) i := by rw [hi]; rfl
                have hb2 : bestOf (serveF xs ys t) (j + 1) = min (minTo (serveF xs ys t) i) (serveF xs ys t j) := by rw [hi]; rfl
                have hbb := minTo_bd (f := serveF xs ys t) (n := i) (fun i' hi' => HBF.out t htk i' (by omega))
                rw [hb1]
                rw [hf] at hb2
                clear hf hb1 hi
                generalize xs.getD j 0 = z at d1 hs1 e0
                generalize sumTo xs j = x at hb2 hs1 e1
                generalize ys.getD (t - j) 0 = y at d2 hb2 e2
                generalize minTo (serveF xs ys t) i = best at *
                have HF := Lib.hid hb2
                have HS := Lib.hid hs1
                have c1 := HW.out.cell d1
                have c2 := HW.out.cell d2
                clear hb2 d1 d2 hs1
                by_cases hlt2 : x + y < best
                all_goals
                  go_wp2
                  go_roundw
                  case rel => exact ⟨j + 1, by omega, by go_num, by rw [HS.out], by rw [HF.out]; congr 1; omega, HO, HW⟩
                  case measure => simp [intOf]; omega
            · obtain rfl : j = t + 1 := by omega
              rw [show bestOf (serveF xs ys t) (t + 1) = serveAt xs ys t from rfl]
              generalize hbest : serveAt xs ys t = best at *
              have HB := Lib.hid hbest
              clear hbest
              generalize sumTo xs (t + 1) = dummy
              go_wp2_with (at_builtin; refine wpList_append_int (by rfl) _ _ _ (by rfl) (by kernel_rfl) w.heap.size _ _ best (by rfl) (HO.out.alloc _) ⟨wr.heap.size, 0, none⟩ 1 (by rfl) (by simp) (by rw [upTo_len]; omega) (by have := HW.out.size; simp; omega) ?_; intro r' w1 hown1 hwr1; have HG1 := Lib.hid (hwr1 w (HW.out.alloc _) (Nat.le_refl _)); have HO1 := Lib.hid hown1; clear hown1 hwr1)
              go_roundw
              case rel => exact ⟨t + 1, by omega, by go_num, by rw [← upTo_succ, HB.out]; exact HO1.out, HG1.out⟩
              case measure => simp [intOf]; omega
        · obtain rfl : t = k := by omega
          go_wp2
          go_ret2
          exact ServeIs.good (mk := codeV) HN.out hok.out (HO.out.ints (by rw [upTo_len]; omega)) HW.out
theorem refserve_any {v u : Value} {xs ys : List Int} (w : World) (hx : Ints w v xs) (hy : Ints w u ys) :
    Calls Tryd.prog 13 #[v, u] w (ServeIs w xs ys codeV) := by
  by_cases hc : ckCurve ys = 0
  · by_cases hl : ys.length < xs.length
    · exact refserve_len w hx hy hc hl
    · rcases Nat.eq_zero_or_pos xs.length with h0 | h0
      · obtain ⟨a, cap, rfl⟩ := ints_shape hx
        obtain rfl := List.length_eq_zero_iff.1 h0
        exact refserve_nil a cap w hy hc
      · obtain ⟨b, off, cap, rfl, CX⟩ := ints_cells hx h0
        exact refserve_slice b off cap _ w rfl h0 CX hy hc hl
  · exact refserve_check w hy hc

end Go.Proofs.YtfdmmfjheiiiiaaDoor

/-
  curve.Then, millraceref.Then.
-/
import Derived.Test.YtamofadbcgeokaaDoorCurveD
namespace Go.Proofs.YtamofadbcgeokaaDoor
open Go.RowKit Go.Extern.Stop Go.Stop Go.Extern

/-- the least of f 0 .. f n -/
def minTo (f : Nat → Int) : Nat → Int
  | 0 => f 0
  | n + 1 => min (minTo f n) (f (n + 1))
theorem minTo_bd {f : Nat → Int} {n : Nat} {lo hi : Int} (h : ∀ j, j ≤ n → lo ≤ f j ∧ f j ≤ hi) : lo ≤ minTo f n ∧ minTo f n ≤ hi := by
  induction n with
  | zero => exact h 0 (Nat.le_refl _)
  | succ n ih =>
    have h1 := ih (fun j hj => h j (by omega))
    have h2 := h (n + 1) (Nat.le_refl _)
    simp only [minTo]
    omega
theorem ckCurve_bd {xs : List Int} (h : ckCurve xs = 0) : ∀ i, i < xs.length → 0 ≤ xs.getD i 0 ∧ xs.getD i 0 ≤ 1000000000000 := by
  intro i hi
  have h0 := ckCurve_pos h
  have hz : ∀ j, j < xs.length → ckAt xs j = 0 := by
    unfold ckCurve at h
    rw [if_neg (by omega)] at h
    intro j hj
    exact Classical.byContradiction fun hne => by
      have : ∃ k, k < xs.length ∧ (∀ j, j < k → ckAt xs j = 0) ∧ ckAt xs k ≠ 0 := by
        have key : ∀ n, n ≤ j → (∀ i, i < n → ckAt xs i = 0) ∨ ∃ k, k < xs.length ∧ (∀ j, j < k → ckAt xs j = 0) ∧ ckAt xs k ≠ 0 := by
          intro n
          induction n with
          | zero => intro _; exact .inl (fun i hi => absurd hi (by omega))
          | succ n ih =>
            intro hn
            rcases ih (by omega) with h1 | h1
            · by_cases h2 : ckAt xs n = 0
              · exact .inl (okTo_succ h1 h2)
              · exact .inr ⟨n, by omega, h1, h2⟩
            · exact .inr h1
        rcases key j (Nat.le_refl _) with h1 | h1
        · exact ⟨j, hj, h1, hne⟩
        · exact h1
      obtain ⟨k, k1, k2, k3⟩ := this
      exact k3 ((firstOf_at k2 k1 rfl k3).symm.trans h)
  have := hz i hi
  unfold ckAt at this
  split at this
  · omega
  · omega

def thenF (xs ys : List Int) (t s : Nat) : Int := xs.getD s 0 + ys.getD (t - s) 0
def thenAt (xs ys : List Int) (t : Nat) : Int := minTo (thenF xs ys t) t
theorem thenF_bd {xs ys : List Int} (hx : ckCurve xs = 0) (hy : ckCurve ys = 0) {t : Nat} (h1 : t < xs.length) (h2 : t < ys.length) : ∀ j, j ≤ t → 0 ≤ thenF xs ys t j ∧ thenF xs ys t j ≤ 2000000000000 := by
  intro j hj
  have a := ckCurve_bd hx j (by omega)
  have b := ckCurve_bd hy (t - j) (by omega)
  unfold thenF
  omega

set_option maxRecDepth 100000 in
set_option maxHeartbeats 2000000 in
theorem then_ok {v u : Value} {xs ys : List Int} (w : World) (hx : Ints w v xs) (hy : Ints w u ys) (hc : ckTwo xs ys = 0) :
    Calls Tryd.prog 34 #[v, u] w fun e w' => ∃ r, e = .returned (.tuple #[r, .nilIface]) ∧ Ints w' r (upTo (thenAt xs ys) (min xs.length ys.length)) ∧ Gr w w' := by
  obtain ⟨l1, l2⟩ := ckCurve_pos (ckTwo_ok hc).1
  obtain ⟨l3, l4⟩ := ckCurve_pos (ckTwo_ok hc).2
  have HBX := Lib.hid (ckCurve_bd (ckTwo_ok hc).1)
  have HBY := Lib.hid (ckCurve_bd (ckTwo_ok hc).2)
  have HBF := Lib.hid (fun (t : Nat) (h1 : t < xs.length) (h2 : t < ys.length) => thenF_bd (ckTwo_ok hc).1 (ckTwo_ok hc).2 h1 h2)
  have HX := Lib.hid hx
  have HY := Lib.hid hy
  have HC := Lib.hid hc
  obtain ⟨b, off, cap, rfl, CX⟩ := ints_cells hx l1
  obtain ⟨b', off', cap', rfl, CY⟩ := ints_cells hy l3
  clear hx hy hc
  generalize hn : xs.length = n at *
  generalize hm : ys.length = m at *
  clear hn hm
  have hq : (min n m = n ∧ n ≤ m) ∨ (min n m = m ∧ m < n) := by omega
  generalize min n m = q at *
  rcases hq with ⟨rfl, hle⟩ | ⟨rfl, hle⟩
  all_goals
    go_enter Tryd.func34, Tryd.ntmps34
    go_wp2_with (go_at_call 55; refine (both_ok _ HX.out HY.out HC.out).mono ?_; rintro e w' ⟨rfl, rfl⟩)
    go_loopw [7, 22] (fun r i wr => ∃ k : Nat, k ≤ q ∧ i = .int .i64 k ∧ Hid (OwnInts wr w.heap.size r (upTo (thenAt xs ys) k)) ∧ Hid (Gr w wr)) (fun _ i _ => q - (intOf i).toNat)
    case atStart => exact ⟨0, Nat.zero_le _, rfl, OwnInts.nil _ _, Gr.refl _⟩
    case round =>
      obtain ⟨k, hk, rfl, HO, HG⟩ := hrel
      by_cases hlt : k < q
      · have d1 := CX.out 0 (by omega)
        have d2 := CY.out k (by omega)
        rw [Nat.add_zero] at d1
        have i0 : (0 : Int) ≤ (k : Int) := by omega
        have i1 : (k : Int) < (q : Int) := by omega
        have i2 := by first | exact lt_other hlt hle | exact lt_other hlt (Nat.le_of_lt hle)
        have e1 := HBX.out 0 (by omega)
        have e2 := HBY.out k (by omega)
        have hf : minTo (thenF xs ys k) 0 = xs.getD 0 0 + ys.getD k 0 := rfl
        generalize xs.getD 0 0 = x at d1 hf e1
        generalize ys.getD k 0 = y at d2 hf e2
        have HF := Lib.hid hf
        have c1 := HG.out.cell d1
        have c2 := HG.out.cell d2
        clear hf d1 d2
        go_wp2
        go_quiet (fail)
        go_wp2
        clear c1 c2
        obtain ⟨wo, hwo⟩ : ∃ wo : World, wo = wr.drewN nq := ⟨_, rfl⟩
        have HG' : Hid (Gr w wo) := by rw [hwo]; exact HG.out.drewN _
        have HO' : Hid (OwnInts wo w.heap.size u7 (upTo (thenAt xs ys) k)) := by rw [hwo]; exact HO.out.drewN _
        rw [← hwo]
        clear hwo HG HO
        go_loopw [9, 10] (fun be s wi => ∃ j : Nat, 1 ≤ j ∧ j ≤ k + 1 ∧ s = .int .i64 j ∧ be = .int .i64 (minTo (thenF xs ys k) (j - 1)) ∧ Hid (OwnInts wi w.heap.size u7 (upTo (thenAt xs ys) k)) ∧ Hid (Gr w wi)) (fun _ s _ => k + 1 - (intOf s).toNat)
        case atStart => exact ⟨1, Nat.le_refl _, by omega, rfl, by rw [HF.out], HO', HG'⟩
        case round =>
          obtain ⟨j, hj1, hj, rfl, rfl, HO, HG⟩ := hrel
          have hbb := minTo_bd (f := thenF xs ys k) (n := j - 1) (fun i hi => HBF.out k (by omega) (by omega) i (by omega))
          by_cases hjk : j ≤ k
          · have d1 := CX.out j (by omega)
            have d2 := CY.out (k - j) (by omega)
            have j0 : (0 : Int) ≤ (j : Int) := by omega
            have j1 : (j : Int) < (q : Int) := by omega
            have j2 := by first | exact lt_other (show j < q by omega) hle | exact lt_other (show j < q by omega) (Nat.le_of_lt hle)
            have e1 := HBX.out j (by omega)
            have e2 := HBY.out (k - j) (by omega)
            have hf : minTo (thenF xs ys k) (j + 1 - 1) = min (minTo (thenF xs ys k) (j - 1)) (xs.getD j 0 + ys.getD (k - j) 0) := by
              obtain ⟨i, rfl⟩ : ∃ i, j = i + 1 := ⟨j - 1, by omega⟩
              rfl
            generalize xs.getD j 0 = x at d1 hf e1
            generalize ys.getD (k - j) 0 = y at d2 hf e2
            generalize minTo (thenF xs ys k) (j - 1) = best at *
            have HF := Lib.hid hf
            have c1 := HG.out.cell d1
            have c2 := HG.out.cell d2
            clear hf d1 d2
            go_wp2
            go_quiet (fail)
            go_wp2
            go_roundw
            case rel => exact ⟨j + 1, by omega, by omega, by go_num, by rw [HF.out, ← min_ite], HO.out.drewN _, HG.out.drewN _⟩
            case measure => simp [intOf]; omega
          · obtain rfl : j = k + 1 := by omega
            rw [show k + 1 - 1 = k from rfl] at *
            generalize hbest : minTo (thenF xs ys k) k = best at *
            have HF2 := Lib.hid (show thenAt xs ys k = best from hbest)
            clear hbest
            go_wp2_with (at_builtin; refine wpList_append_int (by rfl) _ _ _ (by rfl) (by kernel_rfl) w.heap.size _ _ best (by rfl) (HO.out.alloc _) ⟨wr.heap.size, 0, none⟩ 1 (by rfl) (by simp) (by rw [upTo_len]; omega) (by have := HG.out.size; simp; omega) ?_; intro r' w1 hown1 hwr1; have HG1 := Lib.hid (hwr1 w (HG.out.alloc _) (Nat.le_refl _)); have HO1 := Lib.hid hown1; clear hown1 hwr1)
            go_roundw
            case rel => exact ⟨k + 1, by omega, by go_num, by rw [← upTo_succ, HF2.out]; exact HO1.out, HG1.out⟩
            case measure => simp [intOf]; omega
      · go_wp2
        obtain rfl : k = q := by omega
        go_ret2
        exact ⟨_, rfl, HO.out.ints (by rw [upTo_len]; omega), HG.out⟩

def bestOf (f : Nat → Int) : Nat → Int
  | 0 => -1
  | j + 1 => minTo f j

set_option maxRecDepth 100000 in
set_option maxHeartbeats 4000000 in
theorem refthen_ok {v u : Value} {xs ys : List Int} (w : World) (hx : Ints w v xs) (hy : Ints w u ys) (hc : ckTwo xs ys = 0) :
    Calls Tryd.prog 33 #[v, u] w fun e w' => ∃ r, e = .returned r ∧ Ints w' r (upTo (thenAt xs ys) (min xs.length ys.length)) ∧ Gr w w' := by
  obtain ⟨l1, l2⟩ := ckCurve_pos (ckTwo_ok hc).1
  obtain ⟨l3, l4⟩ := ckCurve_pos (ckTwo_ok hc).2
  have HBX := Lib.hid (ckCurve_bd (ckTwo_ok hc).1)
  have HBY := Lib.hid (ckCurve_bd (ckTwo_ok hc).2)
  have HBF := Lib.hid (fun (t : Nat) (h1 : t < xs.length) (h2 : t < ys.length) => thenF_bd (ckTwo_ok hc).1 (ckTwo_ok hc).2 h1 h2)
  obtain ⟨b, off, cap, rfl, CX⟩ := ints_cells hx l1
  obtain ⟨b', off', cap', rfl, CY⟩ := ints_cells hy l3
  clear hx hy hc
  generalize hn : xs.length = n at *
  generalize hm : ys.length = m at *
  clear hn hm
  go_enter Tryd.func33, Tryd.ntmps33
  go_wp2
  go_loopw [5, 6] (fun r i wr => ∃ k : Nat, k ≤ min n m ∧ i = .int .i64 k ∧ Hid (OwnInts wr w.heap.size r (upTo (thenAt xs ys) k)) ∧ Hid (Gr w wr)) (fun _ i _ => min n m - (intOf i).toNat)
  case atStart => exact ⟨0, Nat.zero_le _, rfl, OwnInts.nil _ _, Gr.refl _⟩
  case round =>
    obtain ⟨k, hk, rfl, HO, HG⟩ := hrel
    by_cases hlt : k < min n m
    · have hk1 : k < n := by omega
      have hk2 : k < m := by omega
      go_wp2
      obtain ⟨wo, hwo⟩ : ∃ wo : World, wo = wr := ⟨_, rfl⟩
      rw [← hwo] at HO HG
      rw [← hwo]
      clear hwo
      go_loopw [7, 8] (fun be s wi => ∃ j : Nat, j ≤ k + 1 ∧ s = .int .i64 j ∧ be = .int .i64 (bestOf (thenF xs ys k) j) ∧ Hid (OwnInts wi w.heap.size u5 (upTo (thenAt xs ys) k)) ∧ Hid (Gr w wi)) (fun _ s _ => k + 1 - (intOf s).toNat)
      case atStart => exact ⟨0, by omega, rfl, rfl, HO, HG⟩
      case round =>
        obtain ⟨j, hj, rfl, rfl, HO, HG⟩ := hrel
        by_cases hjk : j ≤ k
        · have d1 := CX.out j (by omega)
          have d2 := CY.out (k - j) (by omega)
          have j0 : (0 : Int) ≤ (j : Int) := by omega
          have j1 : (j : Int) < (n : Int) := by omega
          have j2 : (k : Int) < (m : Int) := by omega
          have e1 := HBX.out j (by omega)
          have e2 := HBY.out (k - j) (by omega)
          have hf : thenF xs ys k j = xs.getD j 0 + ys.getD (k - j) 0 := rfl
          rcases Nat.eq_zero_or_pos j with hz | hz
          · subst hz
            rw [show k - 0 = k from rfl] at d2 e2 hf
            rw [Nat.add_zero] at d1
            rw [show bestOf (thenF xs ys k) 0 = -1 from rfl]
            generalize xs.getD 0 0 = x at d1 hf e1
            generalize ys.getD k 0 = y at d2 hf e2
            have HF := Lib.hid hf
            have c1 := HG.out.cell d1
            have c2 := HG.out.cell d2
            clear hf d1 d2
            go_wp2
            go_quiet (fail)
            go_wp2
            go_roundw
            case rel => exact ⟨1, by omega, rfl, by rw [← HF.out]; rfl, HO.out.drewN _, HG.out.drewN _⟩
            case measure => simp [intOf]
          · obtain ⟨i, hi⟩ : ∃ i, j = i + 1 := ⟨j - 1, by omega⟩
            have hb1 : bestOf (thenF xs ys k) j = minTo (thenF xs ys k) i := by rw [hi]; rfl
            have hb2 : bestOf (thenF xs ys k) (j + 1) = min (minTo (thenF xs ys k) i) (thenF xs ys k j) := by rw [hi]; rfl
            have hbb := minTo_bd (f := thenF xs ys k) (n := i) (fun i' hi' => HBF.out k (by omega) (by omega) i' (by omega))
            rw [hb1]
            rw [hf] at hb2
            clear hf hb1 hi
            generalize xs.getD j 0 = x at d1 hb2 e1
            generalize ys.getD (k - j) 0 = y at d2 hb2 e2
            generalize minTo (thenF xs ys k) i = best at *
            have HF := Lib.hid hb2
            have c1 := HG.out.cell d1
            have c2 := HG.out.cell d2
            clear hb2 d1 d2
            by_cases hlt2 : x + y < best
            all_goals
              go_wp2
              go_quiet (fail)
              go_wp2
              go_roundw
              case rel => exact ⟨j + 1, by omega, by go_num, by rw [HF.out]; congr 1; omega, HO.out.drewN _, HG.out.drewN _⟩
              case measure => simp [intOf]; omega
        · obtain rfl : j = k + 1 := by omega
          rw [show bestOf (thenF xs ys k) (k + 1) = thenAt xs ys k from rfl]
          generalize hbest : thenAt xs ys k = best at *
          have HF2 := Lib.hid hbest
          clear hbest
          go_wp2_with (at_builtin; refine wpList_append_int (by rfl) _ _ _ (by rfl) (by kernel_rfl) w.heap.size _ _ best (by rfl) (HO.out.alloc _) ⟨wr.heap.size, 0, none⟩ 1 (by rfl) (by simp) (by rw [upTo_len]; omega) (by have := HG.out.size; simp; omega) ?_; intro r' w1 hown1 hwr1; have HG1 := Lib.hid (hwr1 w (HG.out.alloc _) (Nat.le_refl _)); have HO1 := Lib.hid hown1; clear hown1 hwr1)
          go_roundw
          case rel => exact ⟨k + 1, by omega, by go_num, by rw [← upTo_succ, HF2.out]; exact HO1.out, HG1.out⟩
          case measure => simp [intOf]; omega
    · obtain rfl : k = min n m := by omega
      rcases Nat.lt_or_ge (min n m) n with hmn | hmn
      all_goals
        go_wp2
        go_ret
        exact ⟨_, rfl, HO.out.ints (by rw [upTo_len]; omega), HG.out⟩
end Go.Proofs.YtamofadbcgeokaaDoor

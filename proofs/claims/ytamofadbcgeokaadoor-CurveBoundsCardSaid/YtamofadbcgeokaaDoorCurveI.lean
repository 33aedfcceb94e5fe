/-
  curve.Backlog, curve.Delay, millraceref.Delay.
-/
import Derived.Test.YtamofadbcgeokaaDoorCurveH
namespace Go.Proofs.YtamofadbcgeokaaDoor
open Go.RowKit Go.Extern.Stop Go.Stop Go.Extern

def backF (xs ys : List Int) (t : Nat) : Int := xs.getD t 0 - ys.getD t 0

set_option maxRecDepth 100000 in
set_option maxHeartbeats 2000000 in
theorem backlog_ok {v u : Value} {xs ys : List Int} (w : World) (hx : Ints w v xs) (hy : Ints w u ys) (hc : ckTwo xs ys = 0) :
    Calls Tryd.prog 42 #[v, u] w fun e w' => e = .returned (.tuple #[.int .i64 (maxTo (backF xs ys) (min xs.length ys.length)), .nilIface]) ∧ Gr w w' := by
  obtain ⟨l1, l2⟩ := ckCurve_pos (ckTwo_ok hc).1
  obtain ⟨l3, l4⟩ := ckCurve_pos (ckTwo_ok hc).2
  have HBX := Lib.hid (ckCurve_bd (ckTwo_ok hc).1)
  have HBY := Lib.hid (ckCurve_bd (ckTwo_ok hc).2)
  have HX := Lib.hid hx
  have HY := Lib.hid hy
  have HC := Lib.hid hc
  obtain ⟨b, off, cap, rfl, CX⟩ := ints_cells hx l1
  obtain ⟨b', off', cap', rfl, CY⟩ := ints_cells hy l3
  clear hx hy hc
  generalize hn : xs.length = n at *
  generalize hm : ys.length = m at *
  clear hn hm
  have hq : (min n m = n ∧ n ≤ m) ∨ (min n m = m ∧ m < n) := by omega
  generalize min n m = q at *
  have HBF : Hid (∀ j, j < q → backF xs ys j ≤ 1000000000000) := by
    intro j hj
    have a1 := HBX.out j (by omega)
    have a2 := HBY.out j (by omega)
    unfold backF
    omega
  rcases hq with ⟨rfl, hle⟩ | ⟨rfl, hle⟩
  all_goals
    go_enter Tryd.func42, Tryd.ntmps42
    go_wp2_with (go_at_call 55; refine (both_ok _ HX.out HY.out HC.out).mono ?_; rintro e w' ⟨rfl, rfl⟩)
    go_loopw [7, 20] (fun r i wr => ∃ k : Nat, k ≤ q ∧ i = .int .i64 k ∧ r = .int .i64 (maxTo (backF xs ys) k) ∧ Hid (Gr w wr)) (fun _ i _ => q - (intOf i).toNat)
    case atStart => exact ⟨0, Nat.zero_le _, rfl, rfl, Gr.refl _⟩
    case round =>
      obtain ⟨k, hk, rfl, rfl, HG⟩ := hrel
      have hbb := maxTo_bd (f := backF xs ys) (n := k) (hi := 1000000000000) (by omega) (fun i hi => HBF.out i (by omega))
      by_cases hlt : k < q
      · have d1 := CX.out k (by omega)
        have d2 := CY.out k (by omega)
        have i0 : (0 : Int) ≤ (k : Int) := by omega
        have i1 : (k : Int) < (q : Int) := by omega
        have i2 := by first | exact lt_other hlt hle | exact lt_other hlt (Nat.le_of_lt hle)
        have e1 := HBX.out k (by omega)
        have e2 := HBY.out k (by omega)
        have hf : maxTo (backF xs ys) (k + 1) = max (maxTo (backF xs ys) k) (xs.getD k 0 - ys.getD k 0) := rfl
        generalize xs.getD k 0 = x at d1 hf e1
        generalize ys.getD k 0 = y at d2 hf e2
        generalize maxTo (backF xs ys) k = best at *
        have HF := Lib.hid hf
        have c1 := HG.out.cell d1
        have c2 := HG.out.cell d2
        clear hf d1 d2
        go_wp2
        go_quiet (fail)
        go_wp2
        go_roundw
        case rel => exact ⟨k + 1, by omega, by go_num, by rw [HF.out, ← max_ite], HG.out.drewN _⟩
        case measure => simp [intOf]; omega
      · obtain rfl : k = q := by omega
        generalize hbest : maxTo (backF xs ys) k = best at *
        have HB := Lib.hid hbest
        clear hbest
        go_wp2
        go_ret2
        exact ⟨by rw [HB.out]; rfl, HG.out⟩

theorem backlog_bad {v u : Value} {xs ys : List Int} (w : World) (hx : Ints w v xs) (hy : Ints w u ys) (hc : ckTwo xs ys ≠ 0) :
    Calls Tryd.prog 42 #[v, u] w fun e w' => e = .returned (.tuple #[.int .i64 0, .iface 24 (.int .i64 (ckTwo xs ys))]) ∧ Gr w w' := by
  have HX := Lib.hid hx
  have HY := Lib.hid hy
  have HC := Lib.hid hc
  clear hx hy hc
  go_enter Tryd.func42, Tryd.ntmps42
  go_wp2_with (go_at_call 55; refine (both_bad _ HX.out HY.out HC.out).mono ?_; rintro e w' ⟨rfl, rfl⟩)
  go_ret2
  exact ⟨rfl, Gr.refl _⟩
theorem delay_bad {v u : Value} {xs ys : List Int} (w : World) (hx : Ints w v xs) (hy : Ints w u ys) (hc : ckTwo xs ys ≠ 0) :
    Calls Tryd.prog 43 #[v, u] w fun e w' => e = .returned (.tuple #[.int .i64 0, .iface 24 (.int .i64 (ckTwo xs ys))]) ∧ Gr w w' := by
  have HX := Lib.hid hx
  have HY := Lib.hid hy
  have HC := Lib.hid hc
  clear hx hy hc
  go_enter Tryd.func43, Tryd.ntmps43
  go_wp2_with (go_at_call 55; refine (both_bad _ HX.out HY.out HC.out).mono ?_; rintro e w' ⟨rfl, rfl⟩)
  go_ret2
  exact ⟨rfl, Gr.refl _⟩

/-- must one wait longer than j at t? -/
def waits (xs ys : List Int) (t j : Nat) : Prop := t + j < ys.length ∧ ys.getD (t + j) 0 < xs.getD t 0
/-- d is how long one waits at t -/
def WaitIs (xs ys : List Int) (t d : Nat) : Prop := (∀ j, j < d → waits xs ys t j) ∧ ¬ waits xs ys t d
theorem WaitIs.uniq {xs ys : List Int} {t d d' : Nat} (h : WaitIs xs ys t d) (h' : WaitIs xs ys t d') : d = d' := by
  rcases Nat.lt_trichotomy d d' with h1 | h1 | h1
  · exact absurd (h'.1 d h1) h.2
  · exact h1
  · exact absurd (h.1 d' h1) h'.2
noncomputable def waitAt (xs ys : List Int) (t : Nat) : Nat := Classical.epsilon (WaitIs xs ys t)
theorem waitAt_eq {xs ys : List Int} {t d : Nat} (h : WaitIs xs ys t d) : waitAt xs ys t = d :=
  WaitIs.uniq (Classical.epsilon_spec ⟨d, h⟩) h
noncomputable def waitF (xs ys : List Int) (t : Nat) : Int := (waitAt xs ys t : Nat)
/-- somebody waits for ever -/
def Never (xs ys : List Int) : Prop := ∃ t, t < xs.length ∧ ys.length ≤ t + waitAt xs ys t
theorem waits_lt {xs ys : List Int} {t d : Nat} (h : ∀ j, j < d → waits xs ys t j) : d = 0 ∨ t + d ≤ ys.length := by
  rcases Nat.eq_zero_or_pos d with h0 | h0
  · exact .inl h0
  · have := (h (d - 1) (by omega)).1
    exact .inr (by omega)

set_option maxRecDepth 100000 in
set_option maxHeartbeats 4000000 in
theorem delay_all {v u : Value} {xs ys : List Int} (w : World) (hx : Ints w v xs) (hy : Ints w u ys) (hc : ckTwo xs ys = 0) (B : Bool) (hB : B = true ↔ Never xs ys) :
    Calls Tryd.prog 43 #[v, u] w fun e w' => e = .returned (bif B then (.tuple #[.int .i64 0, .iface 24 (.int .i64 8)]) else (.tuple #[.int .i64 (maxTo (waitF xs ys) xs.length), .nilIface])) ∧ Gr w w' := by
  obtain ⟨l1, l2⟩ := ckCurve_pos (ckTwo_ok hc).1
  obtain ⟨l3, l4⟩ := ckCurve_pos (ckTwo_ok hc).2
  have HX := Lib.hid hx
  have HY := Lib.hid hy
  have HC := Lib.hid hc
  obtain ⟨b, off, cap, rfl, CX⟩ := ints_cells hx l1
  obtain ⟨b', off', cap', rfl, CY⟩ := ints_cells hy l3
  have HN1 : Hid (∀ t, t < xs.length → ys.length ≤ t + waitAt xs ys t → B = true) := fun t h1 h2 => hB.2 ⟨t, h1, h2⟩
  have HN2 : Hid ((∀ t, t < xs.length → t + waitAt xs ys t < ys.length) → B = false) := fun h => by
    cases hbb : B with
    | false => rfl
    | true =>
      obtain ⟨t, h1, h2⟩ := hB.1 hbb
      have := h t h1
      omega
  clear hx hy hc hB
  have HWL : Hid (∀ t j, waits xs ys t j ↔ t + j < ys.length ∧ ys.getD (t + j) 0 < xs.getD t 0) := fun t j => Iff.rfl
  generalize hn : xs.length = n at *
  generalize hm : ys.length = m at *
  clear hn hm
  go_enter Tryd.func43, Tryd.ntmps43
  go_wp2_with (go_at_call 55; refine (both_ok _ HX.out HY.out HC.out).mono ?_; rintro e w' ⟨rfl, rfl⟩)
  go_loopw [7, 18] (fun r i wr => ∃ k : Nat, k ≤ n ∧ i = .int .i64 k ∧ r = .int .i64 (maxTo (waitF xs ys) k) ∧ Hid (maxTo (waitF xs ys) k ≤ 201) ∧ Hid (∀ t, t < k → t + waitAt xs ys t < m) ∧ Hid (Gr w wr)) (fun _ i _ => n - (intOf i).toNat)
  case atStart => exact ⟨0, Nat.zero_le _, rfl, rfl, by show (0 : Int) ≤ 201; omega, fun t ht => absurd ht (by omega), Gr.refl _⟩
  case round =>
    obtain ⟨k, hk, rfl, rfl, HM, HA, HG⟩ := hrel
    have hm0 : 0 ≤ maxTo (waitF xs ys) k := by
      cases k with
      | zero => exact Int.le_refl _
      | succ k => have := (maxTo_bd (f := waitF xs ys) (n := k) (hi := 100000000) (by omega) (fun j hj => by have := HA.out j (by omega); unfold waitF; omega)).1; simp only [maxTo]; omega
    have hm1 := HM.out
    by_cases hlt : k < n
    · have d1 := CX.out k (by omega)
      have i0 : (0 : Int) ≤ (k : Int) := by omega
      have i1 : (k : Int) < (n : Int) := by omega
      have hf : maxTo (waitF xs ys) (k + 1) = max (maxTo (waitF xs ys) k) (waitAt xs ys k : Nat) := rfl
      have HXK := Lib.hid (show xs.getD k 0 = xs.getD k 0 from rfl)
      generalize hxk : xs.getD k 0 = x at d1 HXK
      have HX1 := Lib.hid hxk
      clear hxk HXK
      generalize maxTo (waitF xs ys) k = best at *
      have HF := Lib.hid hf
      have D1 := Lib.hid d1
      have c1 := HG.out.cell d1
      clear hf d1
      go_wp2
      clear c1
      obtain ⟨wo, hwo⟩ : ∃ wo : World, wo = wr := ⟨_, rfl⟩
      rw [← hwo] at HG
      rw [← hwo]
      clear hwo
      go_loopw [9] (fun d wi => ∃ j : Nat, d = .int .i64 j ∧ j ≤ m ∧ Hid (∀ i, i < j → waits xs ys k i) ∧ Hid (Gr w wi)) (fun d _ => m + 1 - (intOf d).toNat)
      case atStart => exact ⟨0, rfl, by omega, fun i hi => absurd hi (by omega), HG⟩
      case round =>
        obtain ⟨j, rfl, hj, HW, HG⟩ := hrel
        have j0 : (0 : Int) ≤ (j : Int) := by omega
        by_cases hjm : k + j < m
        · have d2 := CY.out (k + j) (by omega)
          have j1 : (k : Int) + (j : Int) < (m : Int) := by omega
          generalize hyk : ys.getD (k + j) 0 = y at d2
          have HY1 := Lib.hid hyk
          clear hyk
          have c1 := HG.out.cell D1.out
          have c2 := HG.out.cell d2
          clear d2
          by_cases hyx : y < x
          · have HW1 : Hid (∀ i, i < j + 1 → waits xs ys k i) := by
              intro i hi
              rcases Nat.lt_or_ge i j with h1 | h1
              · exact HW.out i h1
              · obtain rfl : i = j := by omega
                exact (HWL.out k i).2 ⟨hjm, by rw [HY1.out, HX1.out]; exact hyx⟩
            go_wp2
            go_quiet (fail)
            go_wp2
            go_roundw
            case rel => exact ⟨j + 1, by go_num, by omega, HW1, HG.out.drewN _⟩
            case measure => simp [intOf]; omega
          · have hwt : waitAt xs ys k = j := waitAt_eq ⟨HW.out, fun hh => by have := (HWL.out k j).1 hh; rw [HY1.out, HX1.out] at this; omega⟩
            have hf2 : maxTo (waitF xs ys) (k + 1) = max best (j : Nat) := by rw [HF.out, hwt]
            have HF2 := Lib.hid hf2
            have HA1 : Hid (∀ t, t < k + 1 → t + waitAt xs ys t < m) := by
              intro t ht
              rcases Nat.lt_or_ge t k with h1 | h1
              · exact HA.out t h1
              · obtain rfl : t = k := by omega
                rw [hwt]; exact hjm
            have HM1 : Hid (maxTo (waitF xs ys) (k + 1) ≤ 201) := by show _ ≤ _; rw [hf2]; omega
            clear hf2 hwt
            go_wp2
            go_quiet (fail)
            go_wp2
            all_goals
              go_roundw
              case rel => exact ⟨k + 1, by omega, by go_num, by rw [HF2.out, ← max_ite], HM1, HA1, HG.out.drewN _⟩
              case measure => simp [intOf]; omega
        · have hwt : waitAt xs ys k = j := waitAt_eq ⟨HW.out, fun hh => absurd ((HWL.out k j).1 hh).1 hjm⟩
          have hbt : B = true := HN1.out k hlt (by rw [hwt]; omega)
          have hjf : decide ((k : Int) + (j : Int) < (m : Int)) = false := by simp; omega
          subst hbt
          clear hwt
          go_wp2
          go_quiet (fail)
          go_wp2
          go_ret2
          exact ⟨rfl, HG.out.drewN _⟩
    · obtain rfl : k = n := by omega
      have hbf := HN2.out HA.out
      subst hbf
      generalize hbest : maxTo (waitF xs ys) k = best at *
      have HB := Lib.hid hbest
      clear hbest
      go_wp2
      go_ret2
      exact ⟨by rw [HB.out]; rfl, HG.out⟩

set_option maxRecDepth 100000 in
set_option maxHeartbeats 4000000 in
theorem refdelay_all {v u : Value} {xs ys : List Int} (w : World) (hx : Ints w v xs) (hy : Ints w u ys) (hc : ckTwo xs ys = 0) (B : Bool) (hB : B = true ↔ Never xs ys) :
    Calls Tryd.prog 41 #[v, u] w fun e w' => e = .returned (bif B then (.tuple #[.int .i64 0, .bool false]) else (.tuple #[.int .i64 (maxTo (waitF xs ys) xs.length), .bool true])) ∧ Gr w w' := by
  obtain ⟨l1, l2⟩ := ckCurve_pos (ckTwo_ok hc).1
  obtain ⟨l3, l4⟩ := ckCurve_pos (ckTwo_ok hc).2
  have HX := Lib.hid hx
  have HY := Lib.hid hy
  have HC := Lib.hid hc
  obtain ⟨b, off, cap, rfl, CX⟩ := ints_cells hx l1
  obtain ⟨b', off', cap', rfl, CY⟩ := ints_cells hy l3
  have HN1 : Hid (∀ t, t < xs.length → ys.length ≤ t + waitAt xs ys t → B = true) := fun t h1 h2 => hB.2 ⟨t, h1, h2⟩
  have HN2 : Hid ((∀ t, t < xs.length → t + waitAt xs ys t < ys.length) → B = false) := fun h => by
    cases hbb : B with
    | false => rfl
    | true =>
      obtain ⟨t, h1, h2⟩ := hB.1 hbb
      have := h t h1
      omega
  clear hx hy hc hB
  have HWL : Hid (∀ t j, waits xs ys t j ↔ t + j < ys.length ∧ ys.getD (t + j) 0 < xs.getD t 0) := fun t j => Iff.rfl
  generalize hn : xs.length = n at *
  generalize hm : ys.length = m at *
  clear hn hm
  go_enter Tryd.func41, Tryd.ntmps41
  go_wp2
  go_loopw [6, 12] (fun r i wr => ∃ k : Nat, k ≤ n ∧ i = .int .i64 k ∧ r = .int .i64 (maxTo (waitF xs ys) k) ∧ Hid (maxTo (waitF xs ys) k ≤ 201) ∧ Hid (∀ t, t < k → t + waitAt xs ys t < m) ∧ Hid (Gr w wr)) (fun _ i _ => n - (intOf i).toNat)
  case atStart => exact ⟨0, Nat.zero_le _, rfl, rfl, by show (0 : Int) ≤ 201; omega, fun t ht => absurd ht (by omega), Gr.refl _⟩
  case round =>
    obtain ⟨k, hk, rfl, rfl, HM, HA, HG⟩ := hrel
    have hm0 : 0 ≤ maxTo (waitF xs ys) k := by
      cases k with
      | zero => exact Int.le_refl _
      | succ k => have := (maxTo_bd (f := waitF xs ys) (n := k) (hi := 100000000) (by omega) (fun j hj => by have := HA.out j (by omega); unfold waitF; omega)).1; simp only [maxTo]; omega
    have hm1 := HM.out
    by_cases hlt : k < n
    · have d1 := CX.out k (by omega)
      have i0 : (0 : Int) ≤ (k : Int) := by omega
      have i1 : (k : Int) < (n : Int) := by omega
      have hf : maxTo (waitF xs ys) (k + 1) = max (maxTo (waitF xs ys) k) (waitAt xs ys k : Nat) := rfl
      have HXK := Lib.hid (show xs.getD k 0 = xs.getD k 0 from rfl)
      generalize hxk : xs.getD k 0 = x at d1 HXK
      have HX1 := Lib.hid hxk
      clear hxk HXK
      generalize maxTo (waitF xs ys) k = best at *
      have HF := Lib.hid hf
      have D1 := Lib.hid d1
      have c1 := HG.out.cell d1
      clear hf d1
      go_wp2
      clear c1
      obtain ⟨wo, hwo⟩ : ∃ wo : World, wo = wr := ⟨_, rfl⟩
      rw [← hwo] at HG
      rw [← hwo]
      clear hwo
      go_loopw [9] (fun d wi => ∃ j : Nat, d = .int .i64 ((k + j : Nat) : Int) ∧ j ≤ m ∧ Hid (∀ i, i < j → waits xs ys k i) ∧ Hid (Gr w wi)) (fun d _ => m + n + 1 - (intOf d).toNat)
      case atStart => exact ⟨0, rfl, by omega, fun i hi => absurd hi (by omega), HG⟩
      case round =>
        obtain ⟨j, rfl, hj, HW, HG⟩ := hrel
        have j0 : (0 : Int) ≤ (j : Int) := by omega
        by_cases hjm : k + j < m
        · have d2 := CY.out (k + j) (by omega)
          have j1 : (k : Int) + (j : Int) < (m : Int) := by omega
          generalize hyk : ys.getD (k + j) 0 = y at d2
          have HY1 := Lib.hid hyk
          clear hyk
          have c1 := HG.out.cell D1.out
          have c2 := HG.out.cell d2
          clear d2
          by_cases hyx : y < x
          · have HW1 : Hid (∀ i, i < j + 1 → waits xs ys k i) := by
              intro i hi
              rcases Nat.lt_or_ge i j with h1 | h1
              · exact HW.out i h1
              · obtain rfl : i = j := by omega
                exact (HWL.out k i).2 ⟨hjm, by rw [HY1.out, HX1.out]; exact hyx⟩
            go_wp2
            skip
            skip
            go_roundw
            case rel => exact ⟨j + 1, by go_num, by omega, HW1, HG⟩
            case measure => simp [intOf]; omega
          · have hwt : waitAt xs ys k = j := waitAt_eq ⟨HW.out, fun hh => by have := (HWL.out k j).1 hh; rw [HY1.out, HX1.out] at this; omega⟩
            have hf2 : maxTo (waitF xs ys) (k + 1) = max best (j : Nat) := by rw [HF.out, hwt]
            have HF2 := Lib.hid hf2
            have HA1 : Hid (∀ t, t < k + 1 → t + waitAt xs ys t < m) := by
              intro t ht
              rcases Nat.lt_or_ge t k with h1 | h1
              · exact HA.out t h1
              · obtain rfl : t = k := by omega
                rw [hwt]; exact hjm
            have HM1 : Hid (maxTo (waitF xs ys) (k + 1) ≤ 201) := by show _ ≤ _; rw [hf2]; omega
            clear hf2 hwt
            go_wp2
            skip
            skip
            all_goals
              go_roundw
              case rel => exact ⟨k + 1, by omega, by go_num, by rw [HF2.out, ← max_ite]; congr 1; omega, HM1, HA1, HG⟩
              case measure => simp [intOf]; omega
        · have hwt : waitAt xs ys k = j := waitAt_eq ⟨HW.out, fun hh => absurd ((HWL.out k j).1 hh).1 hjm⟩
          have hbt : B = true := HN1.out k hlt (by rw [hwt]; omega)
          have hjf : decide ((k : Int) + (j : Int) < (m : Int)) = false := by simp; omega
          subst hbt
          clear hwt
          go_wp2
          skip
          skip
          go_ret2
          exact ⟨rfl, HG.out⟩
    · obtain rfl : k = n := by omega
      have hbf := HN2.out HA.out
      subst hbf
      generalize hbest : maxTo (waitF xs ys) k = best at *
      have HB := Lib.hid hbest
      clear hbest
      go_wp2
      go_ret2
      exact ⟨by rw [HB.out]; rfl, HG.out⟩
end Go.Proofs.YtamofadbcgeokaaDoor

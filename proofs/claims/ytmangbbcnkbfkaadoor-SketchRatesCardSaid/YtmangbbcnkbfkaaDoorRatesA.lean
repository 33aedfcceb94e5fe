/-
  sketch.Rate, millraceref.Means, and the law SketchRates.
-/
import Derived.Test.YtmangbbcnkbfkaaDoorErr
import Derived.Test.YtmangbbcnkbfkaaDoorSame
import Derived.BigGuardPart
namespace Go.Proofs.YtmangbbcnkbfkaaDoor
open Go.RowKit Go.Extern.Stop Go.Stop Go.Extern

/-- The mean behind k numbers. -/
def mn (xs : List Int) (h : Nat) : Nat → Int
  | 0 => 0
  | k + 1 => mn xs h k + (1000 * xs.getD k 0 - mn xs h k) / 2 ^ h

theorem pow_ten {h : Nat} (hh : h ≤ 10) : (1 : Int) ≤ 2 ^ h ∧ (2 : Int) ^ h ≤ 1024 := by
  have h1 : (2 : Nat) ^ h ≤ 2 ^ 10 := Nat.pow_le_pow_right (by omega) hh
  have h2 : 0 < (2 : Nat) ^ h := Nat.pow_pos (by omega)
  have e : ((2 ^ h : Nat) : Int) = (2 : Int) ^ h := by simp
  omega

theorem step_in {m n p : Int} (hp : 1 ≤ p) (hm : 0 ≤ m ∧ m ≤ 1000000000) (hn : 0 ≤ n ∧ n ≤ 1000000) : 0 ≤ m + (1000 * n - m) / p ∧ m + (1000 * n - m) / p ≤ 1000000000 := by
  rcases Int.le_total 0 (1000 * n - m) with h | h
  · have h1 : 0 ≤ (1000 * n - m) / p := Int.ediv_nonneg h (by omega)
    have h2 : (1000 * n - m) / p ≤ 1000 * n - m := Int.ediv_le_self _ h
    omega
  · have h1 : (1000 * n - m) / p ≤ 0 := by
      have := Int.ediv_le_ediv (a := 1000 * n - m) (b := 0) (c := p) (by omega) h
      simpa using this
    have h2 : 1000 * n - m ≤ (1000 * n - m) / p := by
      rw [Int.le_ediv_iff_mul_le (by omega)]
      have : (1000 * n - m) * p ≤ (1000 * n - m) * 1 := Int.mul_le_mul_of_nonpos_left h hp
      omega
    omega

theorem mn_in {xs : List Int} {h k : Nat} (hh : h ≤ 10) (hx : ∀ i, i < k → 0 ≤ xs.getD i 0 ∧ xs.getD i 0 ≤ 1000000) : 0 ≤ mn xs h k ∧ mn xs h k ≤ 1000000000 := by
  induction k with
  | zero => simp [mn]
  | succ k ih =>
    have := ih fun i hi => hx i (by omega)
    exact step_in (pow_ten hh).1 this (hx k (by omega))

theorem floor_of_trunc {d p : Int} (hp : 0 < p) : (if d.tmod p < 0 then d.tdiv p - 1 else d.tdiv p) = d / p := by
  have e1 := Int.mul_tdiv_add_tmod d p
  rw [Int.mul_comm] at e1
  have m1 : -p < d.tmod p := by
    have := Int.tmod_lt_of_pos (-d) hp
    rw [Int.neg_tmod] at this
    omega
  have m2 : d.tmod p < p := Int.tmod_lt_of_pos d hp
  generalize d.tmod p = r at *
  generalize d.tdiv p = q at *
  split
  · subst e1
    rename_i hr
    have : (q * p + r) = (q - 1) * p + (r + p) := by rw [Int.sub_mul]; omega
    rw [this, Int.add_comm, Int.add_mul_ediv_right _ _ (by omega), Int.ediv_eq_zero_of_lt (by omega) (by omega)]
    omega
  · subst e1
    rename_i hr
    rw [Int.add_comm, Int.add_mul_ediv_right _ _ (by omega), Int.ediv_eq_zero_of_lt (by omega) (by omega)]
    omega

/-- what is told of a number that may not be -/
noncomputable def ckMean (x : Int) : Int := @ite _ (0 ≤ x ∧ x ≤ 1000000) (Classical.propDecidable _) 0 2
theorem ckMean_ok {x : Int} (h : 0 ≤ x ∧ x ≤ 1000000) : ckMean x = 0 := by unfold ckMean; rw [if_pos h]
theorem ckMean_no {x : Int} (h : ¬ (0 ≤ x ∧ x ≤ 1000000)) : ckMean x = 2 := by unfold ckMean; rw [if_neg h]
theorem ckMean_zero {x : Int} (h : ckMean x = 0) : 0 ≤ x ∧ x ≤ 1000000 := Classical.byContradiction fun hh => by rw [ckMean_no hh] at h; exact absurd h (by decide)
def means (xs : List Int) (h : Nat) (k : Nat) : List Int := upTo (fun i => mn xs h (i + 1)) k

set_option maxRecDepth 100000 in
set_option maxHeartbeats 4000000 in
theorem rmeans_ok {xs : List Int} (a : Option Addr) (n cap h : Nat) (w : World) (hh : h ≤ 10) (hn : n ≤ 100) (hx : Hid (∀ i, i < n → ckMean (xs.getD i 0) = 0))
    (hA : Hid (0 < n → ∃ b off, a = some ⟨b, off, none⟩ ∧ ∀ i, i < n → w.cell? ⟨b, off + i, none⟩ = some (.int .i64 (xs.getD i 0)))) :
    Calls Tryd.prog 7 #[.slice a n cap, .int .i64 (h : Int)] w fun e w' => ∃ r, e = .returned r ∧ Ints w' r (means xs h n) ∧ Gr w w' := by
  go_enter Tryd.func7, Tryd.ntmps7
  go_wp2
  go_loopw [6, 13] (fun p i wr => ∃ k : Nat, k ≤ h ∧ i = .int .i64 k ∧ p = .int .i64 (2 ^ k) ∧ wr = w) (fun _ i _ => h - (intOf i).toNat)
  case atStart => exact ⟨0, Nat.zero_le _, rfl, rfl, rfl⟩
  case round =>
    obtain ⟨k, hk, rfl, rfl, rfl⟩ := hrel
    by_cases hlt : k < h
    · have hp := pow_ten (h := k) (by omega)
      have hs : (2 : Int) ^ (k + 1) = 2 ^ k * 2 := Int.pow_succ _ _
      generalize (2 : Int) ^ k = p at *
      go_wp2
      go_roundw
      case rel => exact ⟨k + 1, by omega, by go_num, by rw [hs], trivial⟩
      case measure => simp [intOf]; omega
    · obtain rfl : k = h := by omega
      have hp := pow_ten (h := k) (by omega)
      have HP := Lib.hid (show (2 : Int) ^ k = (2 : Int) ^ k from rfl)
      generalize hpp : (2 : Int) ^ k = p at hp
      clear HP
      have HPP := Lib.hid hpp
      clear hpp
      obtain ⟨wo, hwo⟩ : ∃ wo : World, wo = wr := ⟨_, rfl⟩
      rw [← hwo] at hA
      rw [← hwo]
      have HWO := Lib.hid hwo
      clear hwo
      go_wp2
      go_loopw [5, 7, 20] (fun m r i w' => ∃ j : Nat, j ≤ n ∧ i = .int .i64 j ∧ m = .int .i64 (mn xs k j) ∧ Hid (OwnInts w' wo.heap.size r (means xs k j)) ∧ Hid (Gr wo w')) (fun _ _ i _ => n - (intOf i).toNat)
      case atStart => exact ⟨0, Nat.zero_le _, rfl, rfl, OwnInts.nil _ _, Gr.refl _⟩
      case round =>
        obtain ⟨j, hj, rfl, rfl, HO, HG⟩ := hrel
        by_cases hlt : j < n
        · obtain ⟨b, off, rfl, hA2⟩ := hA.out (by omega)
          have D0 := Lib.hid (hA2 j hlt)
          have c0 := HG.out.cell D0.out
          have hnj := ckMean_zero (hx.out j hlt)
          have hmj := mn_in (k := j) hh (fun i hi => ckMean_zero (hx.out i (by omega)))
          have hms := mn_in (k := j + 1) hh (fun i hi => ckMean_zero (hx.out i (by omega)))
          have hme : mn xs k (j + 1) = mn xs k j + (1000 * xs.getD j 0 - mn xs k j) / 2 ^ k := rfl
          have HU := Lib.hid (upTo_succ (fun i => mn xs k (i + 1)) j)
          have HL := Lib.hid (show (means xs k j).length ≤ 1000000000 by unfold means; rw [upTo_len]; omega)
          rw [HPP.out] at hme
          have HE := Lib.hid hme
          clear hme
          clear hA2
          generalize xs.getD j 0 = x at c0 hnj HE
          generalize mn xs k j = m at *
          have i0 : (0 : Int) ≤ (j : Int) := by omega
          have i1 : (j : Int) < (n : Int) := by omega
          have hdz : ¬ p = 0 := by omega
          have hfl := floor_of_trunc (d := 1000 * x - m) (p := p) (by omega)
          rw [HE.out] at hms
          clear hdz
          have hdz : ¬ p = 0 := by omega
          generalize (1000 * x - m) / p = q at *
          have hq1 : -1000000000 ≤ q ∧ q ≤ 1000000000 := by omega
          by_cases hneg : (1000 * x - m).tmod p < 0
          · rw [if_pos hneg] at hfl
            have htd : (1000 * x - m).tdiv p = q + 1 := by omega
            clear hfl
            go_wp2_with (at_builtin; refine wpList_append_int (by rfl) _ _ _ (by rfl) (by kernel_rfl) wo.heap.size _ _ (m + q) (by rfl) (HO.out.alloc _) ⟨wr.heap.size, 0, none⟩ 1 (by rfl) (by simp) HL.out (by have := HG.out.size; simp; omega) ?_; intro r' w1 hown1 hwr1; have HG1 := Lib.hid (hwr1 wo (HG.out.alloc _) (Nat.le_refl _)); have HO1 := Lib.hid hown1; clear hown1 hwr1)
            go_roundw
            case rel => exact ⟨j + 1, by omega, by go_num, by rw [HE.out], by have := HO1.out; rw [← HE.out, means, HU.out] at this; exact this, HG1⟩
            case measure => simp [intOf]; omega
          · rw [if_neg hneg] at hfl
            go_wp2_with (at_builtin; refine wpList_append_int (by rfl) _ _ _ (by rfl) (by kernel_rfl) wo.heap.size _ _ (m + q) (by rfl) (HO.out.alloc _) ⟨wr.heap.size, 0, none⟩ 1 (by rfl) (by simp) HL.out (by have := HG.out.size; simp; omega) ?_; intro r' w1 hown1 hwr1; have HG1 := Lib.hid (hwr1 wo (HG.out.alloc _) (Nat.le_refl _)); have HO1 := Lib.hid hown1; clear hown1 hwr1)
            go_roundw
            case rel => exact ⟨j + 1, by omega, by go_num, by rw [HE.out], by have := HO1.out; rw [← HE.out, means, HU.out] at this; exact this, HG1⟩
            case measure => simp [intOf]; omega
        · obtain rfl : j = n := by omega
          go_wp2
          go_ret
          exact ⟨_, rfl, HO.out.ints (by unfold means; rw [upTo_len]; omega), HWO.out ▸ HG.out⟩

set_option maxRecDepth 100000 in
set_option maxHeartbeats 4000000 in
/-- sketch.Rate where all may be. -/
theorem rate_ok {xs : List Int} (a : Option Addr) (n cap h : Nat) (w : World) (hh : h ≤ 10) (hn : n ≤ 100) (hx : Hid (∀ i, i < n → ckMean (xs.getD i 0) = 0))
    (hA : Hid (0 < n → ∃ b off, a = some ⟨b, off, none⟩ ∧ ∀ i, i < n → w.cell? ⟨b, off + i, none⟩ = some (.int .i64 (xs.getD i 0)))) :
    Calls Tryd.prog 8 #[.slice a n cap, .int .i64 (h : Int)] w fun e w' => ∃ r, e = .returned (.tuple #[r, .nilIface]) ∧ Ints w' r (means xs h n) ∧ Gr w w' := by
  have g0 : (0 : Int) ≤ (h : Int) := by omega
  have g1 : (h : Int) ≤ 10 := by omega
  have g2 : (n : Int) ≤ 100 := by omega
  go_enter Tryd.func8, Tryd.ntmps8
  go_wp2
  go_loopw [6, 7, 23] (fun m r i w' => ∃ j : Nat, j ≤ n ∧ i = .int .i64 j ∧ m = .int .i64 (mn xs h j) ∧ Hid (OwnInts w' w.heap.size r (means xs h j)) ∧ Hid (Gr w w')) (fun _ _ i _ => n - (intOf i).toNat)
  case atStart => exact ⟨0, Nat.zero_le _, rfl, rfl, OwnInts.nil _ _, Gr.refl _⟩
  case round =>
    obtain ⟨j, hj, rfl, rfl, HO, HG⟩ := hrel
    by_cases hlt : j < n
    · obtain ⟨b, off, rfl, hA2⟩ := hA.out (by omega)
      have D0 := Lib.hid (hA2 j hlt)
      have c0 := HG.out.cell D0.out
      have hnj := ckMean_zero (hx.out j hlt)
      have hmj := mn_in (k := j) hh (fun i hi => ckMean_zero (hx.out i (by omega)))
      have hms := mn_in (k := j + 1) hh (fun i hi => ckMean_zero (hx.out i (by omega)))
      have hme : mn xs h (j + 1) = mn xs h j + (1000 * xs.getD j 0 - mn xs h j) / 2 ^ h := rfl
      have HU := Lib.hid (upTo_succ (fun i => mn xs h (i + 1)) j)
      have HL := Lib.hid (show (means xs h j).length ≤ 1000000000 by unfold means; rw [upTo_len]; omega)
      have hme2 := hme
      rw [hme] at hms
      have HE := Lib.hid hme
      clear hme hme2
      clear hA2
      generalize xs.getD j 0 = x at c0 hnj HE hms
      generalize mn xs h j = m at *
      have i0 : (0 : Int) ≤ (j : Int) := by omega
      have i1 : (j : Int) < (n : Int) := by omega
      generalize hq : (1000 * x - m) / 2 ^ h = q at *
      have hsh : (1000 * x - m).shiftRight h = q := by
        rw [← hq]
        show ((1000 * x - m) >>> h : Int) = _
        rw [Int.shiftRight_eq_div_pow]
        simp
      have hq1 : -1000000000 ≤ q ∧ q ≤ 1000000000 := by omega
      go_wp2_with (at_builtin; refine wpList_append_int (by rfl) _ _ _ (by rfl) (by kernel_rfl) w.heap.size _ _ (m + q) (by rfl) (HO.out.alloc _) ⟨wr.heap.size, 0, none⟩ 1 (by rfl) (by simp) HL.out (by have := HG.out.size; simp; omega) ?_; intro r' w1 hown1 hwr1; have HG1 := Lib.hid (hwr1 w (HG.out.alloc _) (Nat.le_refl _)); have HO1 := Lib.hid hown1; clear hown1 hwr1)
      go_roundw
      case rel => exact ⟨j + 1, by omega, by go_num, by rw [HE.out], by have := HO1.out; rw [← HE.out, means, HU.out] at this; exact this, HG1⟩
      case measure => simp [intOf]; omega
    · obtain rfl : j = n := by omega
      go_wp2
      exact bodyPost_ret (v := .tuple #[_, .nilIface]) (by simp [results, Tryd.results8, go_sem]) rfl ⟨_, rfl, HO.out.ints (by unfold means; rw [upTo_len]; omega), HG.out⟩

/-- what sketch.Rate says of h halvings of xs -/
noncomputable def ckMeans (xs : List Int) (h : Int) : Int := @ite _ (0 ≤ h ∧ h ≤ 10) (Classical.propDecidable _) (@ite _ (xs.length ≤ 100) (Classical.propDecidable _) (firstOf (fun i => ckMean (xs.getD i 0)) xs.length) 4) 2

set_option maxRecDepth 100000 in
set_option maxHeartbeats 4000000 in
/-- .. where one of them may not. -/
theorem rate_bad {xs : List Int} (a : Option Addr) (n cap h q : Nat) (w : World) (hh : h ≤ 10) (hn : n ≤ 100) (hqn : q < n) (hx : Hid (∀ i, i < q → ckMean (xs.getD i 0) = 0)) (hxq : ckMean (xs.getD q 0) ≠ 0) (hb : Hid (∀ i, i < n → Bd (xs.getD i 0)))
    (hA : Hid (0 < n → ∃ b off, a = some ⟨b, off, none⟩ ∧ ∀ i, i < n → w.cell? ⟨b, off + i, none⟩ = some (.int .i64 (xs.getD i 0)))) :
    Calls Tryd.prog 8 #[.slice a n cap, .int .i64 (h : Int)] w fun e w' => e = .returned (.tuple #[.slice none 0 0, .iface 23 (.int .i64 2)]) ∧ Gr w w' := by
  have g0 : (0 : Int) ≤ (h : Int) := by omega
  have g1 : (h : Int) ≤ 10 := by omega
  have g2 : (n : Int) ≤ 100 := by omega
  have HXQ := Lib.hid hxq
  clear hxq
  go_enter Tryd.func8, Tryd.ntmps8
  go_wp2
  go_loopw [6, 7, 23] (fun m r i w' => ∃ j : Nat, j ≤ q ∧ i = .int .i64 j ∧ m = .int .i64 (mn xs h j) ∧ Hid (OwnInts w' w.heap.size r (means xs h j)) ∧ Hid (Gr w w')) (fun _ _ i _ => n - (intOf i).toNat)
  case atStart => exact ⟨0, Nat.zero_le _, rfl, rfl, OwnInts.nil _ _, Gr.refl _⟩
  case round =>
    obtain ⟨j, hj, rfl, rfl, HO, HG⟩ := hrel
    obtain ⟨b, off, rfl, hA2⟩ := hA.out (by omega)
    have D0 := Lib.hid (hA2 j (by omega))
    have c0 := HG.out.cell D0.out
    have i0 : (0 : Int) ≤ (j : Int) := by omega
    have i1 : (j : Int) < (n : Int) := by omega
    have hbj := hb.out j (by omega)
    have hbl := hbj.1
    have hbr := hbj.2
    clear hbj
    clear hA2
    by_cases hlt : j < q
    · have hnj := ckMean_zero (hx.out j hlt)
      have hmj := mn_in (k := j) hh (fun i hi => ckMean_zero (hx.out i (by omega)))
      have hms := mn_in (k := j + 1) hh (fun i hi => ckMean_zero (hx.out i (by omega)))
      have hme : mn xs h (j + 1) = mn xs h j + (1000 * xs.getD j 0 - mn xs h j) / 2 ^ h := rfl
      have HU := Lib.hid (upTo_succ (fun i => mn xs h (i + 1)) j)
      have HL := Lib.hid (show (means xs h j).length ≤ 1000000000 by unfold means; rw [upTo_len]; omega)
      rw [hme] at hms
      have HE := Lib.hid hme
      clear hme
      clear hbl hbr
      generalize xs.getD j 0 = x at c0 hnj HE hms
      generalize mn xs h j = m at *
      generalize hq : (1000 * x - m) / 2 ^ h = q' at *
      have hsh : (1000 * x - m).shiftRight h = q' := by
        rw [← hq]
        show ((1000 * x - m) >>> h : Int) = _
        rw [Int.shiftRight_eq_div_pow]
        simp
      have hq1 : -1000000000 ≤ q' ∧ q' ≤ 1000000000 := by omega
      go_wp2_with (at_builtin; refine wpList_append_int (by rfl) _ _ _ (by rfl) (by kernel_rfl) w.heap.size _ _ (m + q') (by rfl) (HO.out.alloc _) ⟨wr.heap.size, 0, none⟩ 1 (by rfl) (by simp) HL.out (by have := HG.out.size; simp; omega) ?_; intro r' w1 hown1 hwr1; have HG1 := Lib.hid (hwr1 w (HG.out.alloc _) (Nat.le_refl _)); have HO1 := Lib.hid hown1; clear hown1 hwr1)
      go_roundw
      case rel => exact ⟨j + 1, by omega, by go_num, by rw [HE.out], by have := HO1.out; rw [← HE.out, means, HU.out] at this; exact this, HG1⟩
      case measure => simp [intOf]; omega
    · obtain rfl : j = q := by omega
      have hno : xs.getD j 0 < 0 ∨ 1000000 < xs.getD j 0 := Classical.byContradiction fun hh => HXQ.out (ckMean_ok (by omega))
      generalize xs.getD j 0 = x at c0 hno hbl hbr
      clear HO
      rcases hno with hno | hno
      · go_wp2
        exact bodyPost_ret (v := .tuple #[.slice none 0 0, .iface 23 (.int .i64 2)]) (by simp [results, Tryd.results8, go_sem]) rfl ⟨rfl, HG.out⟩
      · have hno2 : ¬ x < 0 := by omega
        go_wp2
        exact bodyPost_ret (v := .tuple #[.slice none 0 0, .iface 23 (.int .i64 2)]) (by simp [results, Tryd.results8, go_sem]) rfl ⟨rfl, HG.out⟩

set_option maxHeartbeats 4000000 in
theorem rate_range (a : Option Addr) (n cap : Nat) (h : Int) (w : World) (hb : Bd h) (hh : h < 0 ∨ 10 < h) :
    Calls Tryd.prog 8 #[.slice a n cap, .int .i64 h] w fun e w' => e = .returned (.tuple #[.slice none 0 0, .iface 23 (.int .i64 2)]) ∧ Gr w w' := by
  have hbl := hb.1
  have hbr := hb.2
  clear hb
  rcases hh with hh | hh
  · go_enter Tryd.func8, Tryd.ntmps8
    go_wp2
    exact bodyPost_ret (v := .tuple #[.slice none 0 0, .iface 23 (.int .i64 2)]) (by simp [results, Tryd.results8, go_sem]) rfl ⟨rfl, Gr.refl _⟩
  · have hh2 : ¬ h < 0 := by omega
    go_enter Tryd.func8, Tryd.ntmps8
    go_wp2
    exact bodyPost_ret (v := .tuple #[.slice none 0 0, .iface 23 (.int .i64 2)]) (by simp [results, Tryd.results8, go_sem]) rfl ⟨rfl, Gr.refl _⟩

set_option maxHeartbeats 4000000 in
theorem rate_long (a : Option Addr) (n cap h : Nat) (w : World) (hh : h ≤ 10) (hn : 100 < n) (hm : n ≤ 150) :
    Calls Tryd.prog 8 #[.slice a n cap, .int .i64 (h : Int)] w fun e w' => e = .returned (.tuple #[.slice none 0 0, .iface 23 (.int .i64 4)]) ∧ Gr w w' := by
  have g0 : (0 : Int) ≤ (h : Int) := by omega
  have g1 : (h : Int) ≤ 10 := by omega
  have g2 : (100 : Int) < (n : Int) := by omega
  go_enter Tryd.func8, Tryd.ntmps8
  go_wp2
  exact bodyPost_ret (v := .tuple #[.slice none 0 0, .iface 23 (.int .i64 4)]) (by simp [results, Tryd.results8, go_sem]) rfl ⟨rfl, Gr.refl _⟩
end Go.Proofs.YtmangbbcnkbfkaaDoor

/-
  curve.Fits, millraceref.Fits; the law CurveFits: its walk.
-/
import Derived.Test.YtamofadbcgeokaaDoorCurveE
import Derived.Test.YtamofadbcgeokaaDoorCurveL
namespace Go.Proofs.YtamofadbcgeokaaDoor
open Go.RowKit Go.Extern.Stop Go.Stop Go.Extern

def psum (xs : List Int) (s : Nat) : Nat → Int
  | 0 => 0
  | n + 1 => psum xs s n + xs.getD (s + n) 0
def fitAt (xs ys : List Int) (s i : Nat) : Int := if comeAt xs (s + i) = 2 then 2 else if ys.getD (i + 1) 0 < psum xs s (i + 1) then 1 else 0
def fitRow (xs ys : List Int) (s : Nat) : Int := firstOf (fitAt xs ys s) (xs.length - s)
def fitCode (xs ys : List Int) : Int := firstOf (fitRow xs ys) xs.length
def fitsC (xs ys : List Int) : Int := if ckCurve ys ≠ 0 then ckCurve ys else if ys.length ≤ xs.length then 4 else if fitCode xs ys = 2 then 2 else 0
def fitsB (xs ys : List Int) : Bool := decide (ckCurve ys = 0 ∧ xs.length < ys.length ∧ fitCode xs ys = 0)
def FitsIs (xs ys : List Int) (mk : Int → Value) (e : Ending) : Prop := e = .returned (.tuple #[.bool (fitsB xs ys), mk (fitsC xs ys)])

theorem comeAt_cases (xs : List Int) (i : Nat) : comeAt xs i = 2 ∨ comeAt xs i = 0 := by
  unfold comeAt; split
  · exact .inl rfl
  · exact .inr rfl
theorem comeAt_bd {xs : List Int} {i : Nat} (h : comeAt xs i = 0) : 0 ≤ xs.getD i 0 ∧ xs.getD i 0 ≤ 1000000 := by
  unfold comeAt at h
  split at h <;> omega
theorem fitAt_come {xs ys : List Int} {s i : Nat} (h : fitAt xs ys s i ≠ 2) : comeAt xs (s + i) = 0 := by
  rcases comeAt_cases xs (s + i) with h1 | h1
  · exact absurd (by unfold fitAt; rw [if_pos h1]) h
  · exact h1
theorem psum_bd {xs ys : List Int} {s k : Nat} (h : ∀ j, j < k → fitAt xs ys s j = 0) : 0 ≤ psum xs s k ∧ psum xs s k ≤ 1000000 * (k : Int) := by
  induction k with
  | zero => simp [psum]
  | succ k ih =>
    have h1 := ih (fun j hj => h j (by omega))
    have h2 := comeAt_bd (fitAt_come (by rw [h k (by omega)]; decide))
    simp only [psum]
    omega
theorem fitAt_2 {xs ys : List Int} {s i : Nat} {x : Int} (hx : xs.getD (s + i) 0 = x) (h : x < 0 ∨ 1000000 < x) : fitAt xs ys s i = 2 := by
  unfold fitAt; rw [if_pos (come_2 hx h)]
theorem fitAt_1 {xs ys : List Int} {s i : Nat} {x y p : Int} (hx : xs.getD (s + i) 0 = x) (hy : ys.getD (i + 1) 0 = y) (hp : psum xs s i = p) (h : ¬ (x < 0 ∨ 1000000 < x)) (h1 : y < p + x) : fitAt xs ys s i = 1 := by
  unfold fitAt; rw [if_neg (by rw [come_0 hx h]; decide), hy, psum, hp, hx, if_pos h1]
theorem fitAt_0 {xs ys : List Int} {s i : Nat} {x y p : Int} (hx : xs.getD (s + i) 0 = x) (hy : ys.getD (i + 1) 0 = y) (hp : psum xs s i = p) (h : ¬ (x < 0 ∨ 1000000 < x)) (h1 : ¬ y < p + x) : fitAt xs ys s i = 0 := by
  unfold fitAt; rw [if_neg (by rw [come_0 hx h]; decide), hy, psum, hp, hx, if_neg h1]
theorem fitRow_at {xs ys : List Int} {n s i : Nat} {c : Int} (hn : xs.length = n) (hj : ∀ j, j < i → fitAt xs ys s j = 0) (hi : i < n - s) (hc : fitAt xs ys s i = c) (h0 : c ≠ 0) : fitRow xs ys s = c := by
  unfold fitRow; rw [hn]; exact firstOf_at hj hi hc h0
theorem fitRow_ok {xs ys : List Int} {n s : Nat} (hn : xs.length = n) (hj : ∀ j, j < n - s → fitAt xs ys s j = 0) : fitRow xs ys s = 0 := by
  unfold fitRow; rw [hn]; exact firstOf_zero hj
theorem fitCode_at {xs ys : List Int} {n s : Nat} {c : Int} (hn : xs.length = n) (hj : ∀ j, j < s → fitRow xs ys j = 0) (hs : s < n) (hc : fitRow xs ys s = c) (h0 : c ≠ 0) : fitCode xs ys = c := by
  unfold fitCode; rw [hn]; exact firstOf_at hj hs hc h0
theorem fitCode_ok {xs ys : List Int} {n : Nat} (hn : xs.length = n) (hj : ∀ j, j < n → fitRow xs ys j = 0) : fitCode xs ys = 0 := by
  unfold fitCode; rw [hn]; exact firstOf_zero hj
theorem fits_check {xs ys : List Int} {mk : Int → Value} {c : Int} (hc : ckCurve ys = c) (h0 : c ≠ 0) : FitsIs xs ys mk (.returned (.tuple #[.bool false, mk c])) := by
  unfold FitsIs fitsB fitsC; rw [if_pos (by omega), hc]; simp [h0]
theorem fits_len {xs ys : List Int} {mk : Int → Value} (hc : ckCurve ys = 0) (hl : ys.length ≤ xs.length) : FitsIs xs ys mk (.returned (.tuple #[.bool false, mk 4])) := by
  unfold FitsIs fitsB fitsC; rw [if_neg (by omega), if_pos hl]; simp; omega
theorem fits_2 {xs ys : List Int} {mk : Int → Value} (hc : ckCurve ys = 0) (hl : xs.length < ys.length) (h : fitCode xs ys = 2) : FitsIs xs ys mk (.returned (.tuple #[.bool false, mk 2])) := by
  unfold FitsIs fitsB fitsC; rw [if_neg (by omega), if_neg (by omega), if_pos h, h]; simp
theorem fits_1 {xs ys : List Int} {mk : Int → Value} (hc : ckCurve ys = 0) (hl : xs.length < ys.length) (h : fitCode xs ys = 1) : FitsIs xs ys mk (.returned (.tuple #[.bool false, mk 0])) := by
  unfold FitsIs fitsB fitsC; rw [if_neg (by omega), if_neg (by omega), if_neg (by rw [h]; decide), h]; simp
theorem fits_0 {xs ys : List Int} {mk : Int → Value} (hc : ckCurve ys = 0) (hl : xs.length < ys.length) (h : fitCode xs ys = 0) : FitsIs xs ys mk (.returned (.tuple #[.bool true, mk 0])) := by
  unfold FitsIs fitsB fitsC; rw [if_neg (by omega), if_neg (by omega), if_neg (by rw [h]; decide), h]; simp [hc, hl]

theorem pfits_check {v u : Value} {xs ys : List Int} (w : World) (hy : Ints w u ys) (hc : ckCurve ys ≠ 0) :
    Calls Tryd.prog 36 #[v, u] w fun e w' => FitsIs xs ys errV e ∧ w = w' := by
  have HC := Lib.hid (check_bad w hy hc)
  have HN := Lib.hid hc
  clear hy hc
  go_enter Tryd.func36, Tryd.ntmps36
  go_wp2_with (go_at_call 18; refine HC.out.mono ?_; rintro e w' ⟨rfl, rfl⟩)
  go_ret2
  have := fits_check (xs := xs) (mk := errV) rfl HN.out
  rw [errV_ne HN.out] at this
  exact ⟨this, rfl⟩
theorem pfits_len {v u : Value} {xs ys : List Int} (w : World) (hx : Ints w v xs) (hy : Ints w u ys) (hc : ckCurve ys = 0) (hl : ys.length ≤ xs.length) :
    Calls Tryd.prog 36 #[v, u] w fun e w' => FitsIs xs ys errV e ∧ w = w' := by
  have HC := Lib.hid (check_ok w hy hc)
  have HN := Lib.hid (fits_len (mk := errV) hc hl)
  have l1 := hx.len
  have l2 := hy.len
  obtain ⟨a, cap, rfl⟩ := ints_shape hx
  obtain ⟨a', cap', rfl⟩ := ints_shape hy
  clear hx hy hc
  generalize hn : xs.length = n at *
  generalize hm : ys.length = m at *
  clear hn hm
  go_enter Tryd.func36, Tryd.ntmps36
  go_wp2_with (go_at_call 18; refine HC.out.mono ?_; rintro e w' ⟨rfl, rfl⟩)
  go_ret2
  exact ⟨HN.out, rfl⟩
theorem pfits_nil {u : Value} {ys : List Int} (a : Option Addr) (cap : Nat) (w : World) (hy : Ints w u ys) (hc : ckCurve ys = 0) :
    Calls Tryd.prog 36 #[.slice a 0 cap, u] w fun e w' => FitsIs [] ys errV e ∧ w = w' := by
  have HC := Lib.hid (check_ok w hy hc)
  have hp := ckCurve_pos hc
  have HN := Lib.hid (fits_0 (xs := []) (mk := errV) hc (by simp; omega) (fitCode_ok (n := 0) rfl (fun j hj => absurd hj (by omega))))
  obtain ⟨a', cap', rfl⟩ := ints_shape hy
  clear hy hc
  generalize hm : ys.length = m at *
  clear hm
  go_enter Tryd.func36, Tryd.ntmps36
  go_wp2_with (go_at_call 18; refine HC.out.mono ?_; rintro e w' ⟨rfl, rfl⟩)
  refine wp_loop_rounds 1 ?_
  rw [rounds_succ]
  go_wp2
  go_ret2
  exact ⟨HN.out, rfl⟩

set_option maxRecDepth 100000 in
set_option maxHeartbeats 4000000 in
theorem pfits_slice {u : Value} {xs ys : List Int} (b off cap n : Nat) (w : World) (hn : xs.length = n) (h0 : 0 < n) (hx : Hid (∀ i, i < n → w.cell? ⟨b, off + i, none⟩ = some (.int .i64 (xs.getD i 0)))) (hy : Ints w u ys) (hc : ckCurve ys = 0) (hl : xs.length < ys.length) :
    Calls Tryd.prog 36 #[.slice (some ⟨b, off, none⟩) n cap, u] w fun e w' => FitsIs xs ys errV e ∧ w = w' := by
  obtain ⟨l3, l4⟩ := ckCurve_pos hc
  have HBY := Lib.hid (ckCurve_bd hc)
  have HC := Lib.hid (check_ok w hy hc)
  have F2 := Lib.hid (fits_2 (mk := errV) hc hl)
  have F1 := Lib.hid (fits_1 (mk := errV) hc hl)
  have F0 := Lib.hid (fits_0 (mk := errV) hc hl)
  obtain ⟨b', off', cap', rfl, CY⟩ := ints_cells hy l3
  have HN := Lib.hid hn
  rw [hn] at hl
  clear hy hc hn
  generalize hm : ys.length = m at *
  clear hm
  go_enter Tryd.func36, Tryd.ntmps36
  go_wp2_with (go_at_call 18; refine HC.out.mono ?_; rintro e w' ⟨rfl, rfl⟩)
  go_loop [4, 5, 23] (fun r4 r5 i => r4 = .bool false ∧ r5 = .nilIface ∧ ∃ s : Nat, s ≤ n ∧ i = .int .i64 s ∧ Hid (∀ j, j < s → fitRow xs ys j = 0)) (fun _ _ i => n - (intOf i).toNat)
  case atStart => exact ⟨rfl, rfl, 0, Nat.zero_le _, rfl, fun j hj => absurd hj (by omega)⟩
  case round =>
    obtain ⟨rfl, rfl, s, hs, rfl, HR⟩ := hrel
    by_cases hsn : s < n
    · go_wp2
      go_loop [4, 5, 8, 9] (fun r4 r5 p t => r4 = .bool false ∧ r5 = .nilIface ∧ ∃ i : Nat, i ≤ n - s ∧ t = .int .i64 ((s + i : Nat) : Int) ∧ p = .int .i64 (psum xs s i) ∧ Hid (∀ j, j < i → fitAt xs ys s j = 0)) (fun _ _ _ t => n - (intOf t).toNat)
      case atStart => exact ⟨rfl, rfl, 0, by omega, rfl, rfl, fun j hj => absurd hj (by omega)⟩
      case round =>
        obtain ⟨rfl, rfl, i, hi, rfl, rfl, HZ⟩ := hrel
        have hpb := psum_bd HZ.out
        by_cases hin : i < n - s
        · have c1 := hx.out (s + i) (by omega)
          have c2 := CY.out (i + 1) (by omega)
          have e2 := HBY.out (i + 1) (by omega)
          have hp1 : psum xs s (i + 1) = psum xs s i + xs.getD (s + i) 0 := rfl
          have i0 : (0 : Int) ≤ (i : Int) := by omega
          have s0 : (0 : Int) ≤ (s : Int) := by omega
          have i1 : (s : Int) + (i : Int) < (n : Int) := by omega
          generalize hxk : xs.getD (s + i) 0 = x at c1 hp1
          generalize hyk : ys.getD (i + 1) 0 = y at c2 e2
          generalize hpk : psum xs s i = p at *
          have HXK := Lib.hid hxk
          have HYK := Lib.hid hyk
          have HPK := Lib.hid hpk
          have HP1 := Lib.hid hp1
          clear hxk hyk hpk hp1
          by_cases hbad : x < 0 ∨ 1000000 < x
          · have hcode := Lib.hid (F2.out (fitCode_at HN.out HR.out hsn (fitRow_at HN.out HZ.out hin (fitAt_2 HXK.out hbad) (by decide)) (by decide)))
            rcases hbad with hbad | hbad
            all_goals
              go_wp2
              go_ret2
              exact ⟨hcode.out, rfl⟩
          · have hb1 : 0 ≤ x := by omega
            have hb2 : x ≤ 1000000 := by omega
            by_cases hgt : y < p + x
            · have hcode := Lib.hid (F1.out (fitCode_at HN.out HR.out hsn (fitRow_at HN.out HZ.out hin (fitAt_1 HXK.out HYK.out HPK.out hbad hgt) (by decide)) (by decide)))
              clear hbad
              have w1 : (s : Int) + (i : Int) - (s : Int) + 1 = (i : Int) + 1 := by omega
              go_wp2
              go_ret2
              exact ⟨hcode.out, rfl⟩
            · have hz1 : Hid (∀ j, j < i + 1 → fitAt xs ys s j = 0) := okTo_succ HZ.out (fitAt_0 HXK.out HYK.out HPK.out hbad hgt)
              clear hbad
              go_wp2
              go_round
              case rel => exact ⟨rfl, rfl, i + 1, by omega, by go_num, by rw [HP1.out], hz1⟩
              case measure => simp [intOf]; omega
        · obtain rfl : i = n - s := by omega
          have hz1 : Hid (∀ j, j < s + 1 → fitRow xs ys j = 0) := okTo_succ HR.out (fitRow_ok HN.out HZ.out)
          have hsum : (s : Int) + ((n - s : Nat) : Int) = (n : Int) := by omega
          generalize psum xs s (n - s) = p at *
          rw [show ((s + (n - s) : Nat) : Int) = (n : Int) by omega]
          clear hsum
          go_wp2
          refine ⟨⟨_, _, _, _, _, _, ⟨rfl, rfl, s + 1, by omega, by go_num, hz1⟩, rfl, rfl, rfl, rfl, rfl, rfl⟩, by simp [intOf]; omega⟩
    · obtain rfl : s = n := by omega
      have hcode := Lib.hid (F0.out (fitCode_ok HN.out HR.out))
      go_wp2
      go_ret2
      exact ⟨hcode.out, rfl⟩
theorem pfits_any {v u : Value} {xs ys : List Int} (w : World) (hx : Ints w v xs) (hy : Ints w u ys) :
    Calls Tryd.prog 36 #[v, u] w fun e w' => FitsIs xs ys errV e ∧ w = w' := by
  by_cases hc : ckCurve ys = 0
  · by_cases hl : ys.length ≤ xs.length
    · exact pfits_len w hx hy hc hl
    · rcases Nat.eq_zero_or_pos xs.length with h0 | h0
      · obtain ⟨a, cap, rfl⟩ := ints_shape hx
        obtain rfl := List.length_eq_zero_iff.1 h0
        exact pfits_nil a cap w hy hc
      · obtain ⟨b, off, cap, rfl, CX⟩ := ints_cells hx h0
        exact pfits_slice b off cap _ w rfl h0 CX hy hc (by omega)
  · exact pfits_check w hy hc

theorem rfits_check {v u : Value} {xs ys : List Int} (w : World) (hy : Ints w u ys) (hc : ckCurve ys ≠ 0) :
    Calls Tryd.prog 35 #[v, u] w fun e w' => FitsIs xs ys codeV e ∧ w = w' := by
  have HC := Lib.hid (refcheck_any w hy)
  have hb : (ckCurve ys != 0) = true := by simpa using hc
  have HN := Lib.hid (fits_check (xs := xs) (ys := ys) (mk := codeV) rfl hc)
  clear hy hc
  generalize ckCurve ys = c at *
  go_enter Tryd.func35, Tryd.ntmps35
  go_wp2_with (go_at_call 19; refine HC.out.mono ?_; rintro e w' ⟨rfl, rfl⟩)
  go_ret2
  exact ⟨HN.out, rfl⟩
theorem rfits_len {v u : Value} {xs ys : List Int} (w : World) (hx : Ints w v xs) (hy : Ints w u ys) (hc : ckCurve ys = 0) (hl : ys.length ≤ xs.length) :
    Calls Tryd.prog 35 #[v, u] w fun e w' => FitsIs xs ys codeV e ∧ w = w' := by
  have hcc := refcheck_any w hy
  rw [hc] at hcc
  have HC := Lib.hid hcc
  have HN := Lib.hid (fits_len (mk := codeV) hc hl)
  have l1 := hx.len
  have l2 := hy.len
  obtain ⟨a, cap, rfl⟩ := ints_shape hx
  obtain ⟨a', cap', rfl⟩ := ints_shape hy
  clear hx hy hc hcc
  generalize hn : xs.length = n at *
  generalize hm : ys.length = m at *
  clear hn hm
  go_enter Tryd.func35, Tryd.ntmps35
  go_wp2_with (go_at_call 19; refine HC.out.mono ?_; rintro e w' ⟨rfl, rfl⟩)
  go_ret2
  exact ⟨HN.out, rfl⟩
theorem rfits_nil {u : Value} {ys : List Int} (a : Option Addr) (cap : Nat) (w : World) (hy : Ints w u ys) (hc : ckCurve ys = 0) :
    Calls Tryd.prog 35 #[.slice a 0 cap, u] w fun e w' => FitsIs [] ys codeV e ∧ w = w' := by
  have hcc := refcheck_any w hy
  rw [hc] at hcc
  have HC := Lib.hid hcc
  have hp := ckCurve_pos hc
  have HN := Lib.hid (fits_0 (xs := []) (mk := codeV) hc (by simp; omega) (fitCode_ok (n := 0) rfl (fun j hj => absurd hj (by omega))))
  obtain ⟨a', cap', rfl⟩ := ints_shape hy
  clear hy hc hcc
  generalize hm : ys.length = m at *
  clear hm
  go_enter Tryd.func35, Tryd.ntmps35
  go_wp2_with (go_at_call 19; refine HC.out.mono ?_; rintro e w' ⟨rfl, rfl⟩)
  refine wp_loop_rounds 1 ?_
  rw [rounds_succ]
  go_wp2
  go_ret2
  exact ⟨HN.out, rfl⟩

set_option maxRecDepth 100000 in
set_option maxHeartbeats 4000000 in
theorem rfits_slice {u : Value} {xs ys : List Int} (b off cap n : Nat) (w : World) (hn : xs.length = n) (h0 : 0 < n) (hcap : n ≤ cap) (hcap2 : cap ≤ 9223372036854775807) (hx : Hid (∀ i, i < n → w.cell? ⟨b, off + i, none⟩ = some (.int .i64 (xs.getD i 0)))) (hy : Ints w u ys) (hc : ckCurve ys = 0) (hl : xs.length < ys.length) :
    Calls Tryd.prog 35 #[.slice (some ⟨b, off, none⟩) n cap, u] w fun e w' => FitsIs xs ys codeV e ∧ w = w' := by
  obtain ⟨l3, l4⟩ := ckCurve_pos hc
  have HBY := Lib.hid (ckCurve_bd hc)
  have hcc := refcheck_any w hy
  rw [hc] at hcc
  have HC := Lib.hid hcc
  have F2 := Lib.hid (fits_2 (mk := codeV) hc hl)
  have F1 := Lib.hid (fits_1 (mk := codeV) hc hl)
  have F0 := Lib.hid (fits_0 (mk := codeV) hc hl)
  obtain ⟨b', off', cap', rfl, CY⟩ := ints_cells hy l3
  have HN := Lib.hid hn
  rw [hn] at hl
  clear hy hc hn hcc
  generalize hm : ys.length = m at *
  clear hm
  go_enter Tryd.func35, Tryd.ntmps35
  go_wp2_with (go_at_call 19; refine HC.out.mono ?_; rintro e w' ⟨rfl, rfl⟩)
  go_loop [4, 5, 24] (fun r4 r5 i => r4 = .bool false ∧ r5 = .int .i64 0 ∧ ∃ s : Nat, s ≤ n ∧ i = .int .i64 s ∧ Hid (∀ j, j < s → fitRow xs ys j = 0)) (fun _ _ i => n - (intOf i).toNat)
  case atStart => exact ⟨rfl, rfl, 0, Nat.zero_le _, rfl, fun j hj => absurd hj (by omega)⟩
  case round =>
    obtain ⟨rfl, rfl, s, hs, rfl, HR⟩ := hrel
    by_cases hsn : s < n
    · go_wp2
      go_loop [4, 5, 8] (fun r4 r5 t => r4 = .bool false ∧ r5 = .int .i64 0 ∧ ∃ i : Nat, i ≤ n - s ∧ t = .int .i64 ((i + 1 : Nat) : Int) ∧ Hid (∀ j, j < i → fitAt xs ys s j = 0)) (fun _ _ t => n + 1 - (intOf t).toNat)
      case atStart => exact ⟨rfl, rfl, 0, by omega, rfl, fun j hj => absurd hj (by omega)⟩
      case round =>
        obtain ⟨rfl, rfl, i, hi, rfl, HZ⟩ := hrel
        have s0 : (0 : Int) ≤ (s : Int) := by omega
        by_cases hin : i < n - s
        · have i1 : (s : Int) + ((i : Int) + 1) ≤ (n : Int) := by omega
          have HPB : Hid (∀ k, k ≤ i → 0 ≤ psum xs s k ∧ psum xs s k ≤ 1000000 * (k : Int)) := fun k hk => psum_bd (fun j hj => HZ.out j (by omega))
          have HCM : Hid (∀ k, k < i → 0 ≤ xs.getD (s + k) 0 ∧ xs.getD (s + k) 0 ≤ 1000000) := fun k hk => comeAt_bd (fitAt_come (by rw [HZ.out k hk]; decide))
          rw [show ((i + 1 : Nat) : Int) = (i : Int) + 1 from by omega]
          go_wp2
          go_loop [9, 42] (fun z t => ∃ k : Nat, ∃ p : Int, k ≤ i + 1 ∧ t = .int .i64 k ∧ z = .int .i64 p ∧ Hid (k ≤ i ∨ comeAt xs (s + i) = 0 → p = psum xs s k)) (fun _ t => n + 1 - (intOf t).toNat)
          case atStart => exact ⟨0, 0, by omega, rfl, rfl, fun _ => rfl⟩
          case round =>
            obtain ⟨k, p, hk, rfl, rfl, HP⟩ := hrel
            have k0 : (0 : Int) ≤ (k : Int) := by omega
            by_cases hki : k ≤ i
            · have hp := HP.out (.inl hki)
              have c1 := hx.out (s + k) (by omega)
              rw [← Nat.add_assoc] at c1
              have e1 := HPB.out k hki
              have hp1 : psum xs s (k + 1) = psum xs s k + xs.getD (s + k) 0 := rfl
              rw [← hp] at e1 hp1
              have HC1 := Lib.hid (HCM.out k)
              have HX0 := Lib.hid (show comeAt xs (s + k) = 0 → 0 ≤ xs.getD (s + k) 0 ∧ xs.getD (s + k) 0 ≤ 1000000 from fun h => comeAt_bd h)
              have HXX := Lib.hid (show 0 ≤ xs.getD (s + k) 0 ∧ xs.getD (s + k) 0 ≤ 1000000 → comeAt xs (s + k) = 0 from fun h => come_0 rfl (by omega))
              generalize xs.getD (s + k) 0 = x at c1 hp1 HC1 HX0 HXX
              have HP1 := Lib.hid hp1
              clear hp hp1
              by_cases hgood : 0 ≤ x ∧ x ≤ 1000000
              · obtain ⟨g1, g2⟩ := hgood
                go_wp2
                go_round
                case rel => exact ⟨k + 1, _, by omega, by go_num, rfl, fun _ => by rw [HP1.out]⟩
                case measure => simp [intOf]; omega
              · have hki2 : k = i := Classical.byContradiction fun hne => hgood (HC1.out (by omega))
                have HBad : Hid (¬ (k + 1 ≤ i ∨ comeAt xs (s + i) = 0)) := fun hh => by
                  rcases hh with hh | hh
                  · omega
                  · rw [← hki2] at hh; exact hgood (HX0.out hh)
                have HKI := Lib.hid hki2
                clear hki2 hgood
                go_wp2
                go_round
                case rel => exact ⟨k + 1, _, by omega, by go_num, rfl, fun hh => absurd hh HBad.out⟩
                case measure => simp [intOf]; omega
            · obtain rfl : k = i + 1 := by omega
              have c1 := hx.out (s + i) (by omega)
              have c2 := CY.out (i + 1) (by omega)
              have HP1 := Lib.hid (show psum xs s (i + 1) = psum xs s i + xs.getD (s + i) 0 from rfl)
              have HX0 := Lib.hid (show comeAt xs (s + i) = 0 → 0 ≤ xs.getD (s + i) 0 ∧ xs.getD (s + i) 0 ≤ 1000000 from fun h => comeAt_bd h)
              generalize hxk : xs.getD (s + i) 0 = x at c1 HP1 HX0
              generalize hyk : ys.getD (i + 1) 0 = y at c2
              have HXK := Lib.hid hxk
              have HYK := Lib.hid hyk
              have q1 : (s : Int) + ((i : Int) + 1) - 1 = (s : Int) + (i : Int) := by omega
              have Q1 := Lib.hid q1
              have i2 : (i : Int) + 1 < (m : Int) := by omega
              clear hxk hyk q1
              by_cases hbad : x < 0 ∨ 1000000 < x
              · have hcode := Lib.hid (F2.out (fitCode_at HN.out HR.out hsn (fitRow_at HN.out HZ.out hin (fitAt_2 HXK.out hbad) (by decide)) (by decide)))
                go_wp2_with (go_at_call 44; refine (within_no _ _ _ _ (by omega)).mono ?_; rintro e w' ⟨rfl, rfl⟩)
                go_ret2
                exact ⟨hcode.out, rfl⟩
              · have hpp := HP.out (.inr (come_0 HXK.out hbad))
                rw [HP1.out] at hpp
                generalize hpk : psum xs s i = q at hpp
                have HPK := Lib.hid hpk
                have HPP := Lib.hid hpp
                clear hpk hpp
                by_cases hgt : y < p
                · have hcode := Lib.hid (F1.out (fitCode_at HN.out HR.out hsn (fitRow_at HN.out HZ.out hin (fitAt_1 HXK.out HYK.out HPK.out hbad (by rw [← HPP.out]; exact hgt)) (by decide)) (by decide)))
                  go_wp2_with (go_at_call 44; refine (within_yes _ _ _ _ (by omega) (by omega)).mono ?_; rintro e w' ⟨rfl, rfl⟩)
                  go_ret2
                  exact ⟨hcode.out, rfl⟩
                · have hz1 : Hid (∀ j, j < i + 1 → fitAt xs ys s j = 0) := okTo_succ HZ.out (fitAt_0 HXK.out HYK.out HPK.out hbad (by rw [← HPP.out]; exact hgt))
                  go_wp2_with (go_at_call 44; refine (within_yes _ _ _ _ (by omega) (by omega)).mono ?_; rintro e w' ⟨rfl, rfl⟩)
                  go_round
                  case rel => exact ⟨rfl, rfl, i + 1, by omega, by go_num, hz1⟩
                  case measure => simp [intOf]; omega
        · obtain rfl : i = n - s := by omega
          have hz1 : Hid (∀ j, j < s + 1 → fitRow xs ys j = 0) := okTo_succ HR.out (fitRow_ok HN.out HZ.out)
          have hgt : (n : Int) < (s : Int) + ((n - s + 1 : Nat) : Int) := by omega
          have hbd : ((n - s + 1 : Nat) : Int) ≤ 201 := by omega
          generalize ((n - s + 1 : Nat) : Int) = q at *
          go_wp2
          first
            | exact ⟨⟨_, _, _, _, _, _, _, ⟨rfl, rfl, s + 1, by omega, by go_num, hz1⟩, rfl, rfl, rfl, rfl, rfl, rfl, rfl⟩, by simp [intOf]; omega⟩
            | exact ⟨⟨_, _, _, _, _, _, _, _, ⟨rfl, rfl, s + 1, by omega, by go_num, hz1⟩, rfl, rfl, rfl, rfl, rfl, rfl, rfl, rfl⟩, by simp [intOf]; omega⟩
            | go_show
    · obtain rfl : s = n := by omega
      have hcode := Lib.hid (F0.out (fitCode_ok HN.out HR.out))
      go_wp2
      go_ret2
      exact ⟨hcode.out, rfl⟩
theorem rfits_any {v u : Value} {xs ys : List Int} (w : World) (hx : Ints w v xs) (hy : Ints w u ys) :
    Calls Tryd.prog 35 #[v, u] w fun e w' => FitsIs xs ys codeV e ∧ w = w' := by
  by_cases hc : ckCurve ys = 0
  · by_cases hl : ys.length ≤ xs.length
    · exact rfits_len w hx hy hc hl
    · rcases Nat.eq_zero_or_pos xs.length with h0 | h0
      · obtain ⟨a, cap, rfl⟩ := ints_shape hx
        obtain rfl := List.length_eq_zero_iff.1 h0
        exact rfits_nil a cap w hy hc
      · obtain ⟨b, off, cap, rfl, k1, k2, CX⟩ := ints_cap hx h0
        exact rfits_slice b off cap _ w rfl h0 k1 k2 CX hy hc (by omega)
  · exact rfits_check w hy hc

set_option maxHeartbeats 1000000 in
theorem curveFits_walk {v u : Value} {xs ys : List Int} (w : World) (hg : Glob w) (hx : Ints w v xs) (_ : ∀ x ∈ xs, -9223372036854775808 ≤ x ∧ x ≤ 9223372036854775807) (hy : Ints w u ys) (_ : ∀ x ∈ ys, -9223372036854775808 ≤ x ∧ x ≤ 9223372036854775807) :
    Calls Tryd.prog 9 #[v, u] w fun e w' => e = .returned (.bool true) ∧ Gr w w' := by
  have HG := Lib.hid hg
  have HX := Lib.hid hx
  have HY := Lib.hid hy
  have lm1 := hx.len
  have lm2 := hy.len
  by_cases hl : 300 < xs.length ∨ 300 < ys.length
  · have B1 := Lib.hid (long_yes w hx hy hl)
    obtain ⟨a, cap, rfl⟩ := ints_shape hx
    obtain ⟨a', cap', rfl⟩ := ints_shape hy
    clear hl hg hx hy
    go_enter Tryd.func9, Tryd.ntmps9
    go_wp2_with (go_at_call 30; refine B1.out.mono ?_; rintro e w' ⟨rfl, rfl⟩)
    go_ret
    exact ⟨rfl, Gr.refl _⟩
  have B1 := Lib.hid (long_no w hx hy (by omega) (by omega))
  have B2 := Lib.hid (fun W (h : Gr w W) => rfits_any W (hx.gr h) (hy.gr h))
  have B3 := Lib.hid (fun W (h : Gr w W) => pfits_any W (hx.gr h) (hy.gr h))
  obtain ⟨a, cap, rfl⟩ := ints_shape hx
  obtain ⟨a', cap', rfl⟩ := ints_shape hy
  clear hg hx hy
  generalize hn : xs.length = n at *
  generalize hm : ys.length = m at *
  generalize hfb : fitsB xs ys = fb at *
  by_cases hs : 60 < n ∧ n < m
  · obtain ⟨hs1, hs2⟩ := hs
    clear hn hm
    go_enter Tryd.func9, Tryd.ntmps9
    go_wp2_with (go_at_call 30; refine B1.out.mono ?_; rintro e w' ⟨rfl, rfl⟩)
    go_ret
    exact ⟨by simp, Gr.refl _⟩
  · have hs3 : n ≤ 60 ∨ m ≤ n := by omega
    clear hn hm hs
    have HFB := Lib.hid hfb
    clear hfb
    rcases hs3 with hs3 | hs3
    · have h60 : ¬ 60 < (n : Int) := by omega
      have hd : decide ((60 : Int) < (n : Int)) = false := by simp; omega
      go_enter Tryd.func9, Tryd.ntmps9
      go_wp2_with (first
        | (go_at_call 30; refine B1.out.mono ?_; rintro e w' ⟨rfl, rfl⟩)
        | (go_at_call 35; refine (B2.out _ (Gr.refl _)).mono ?_; rintro e w' ⟨rfl, rfl⟩; rw [HFB.out])
        | (go_at_call 36; refine (B3.out _ (Gr.refl _)).mono ?_; rintro e w' ⟨rfl, rfl⟩; rw [HFB.out])
        | (go_at_call 14; refine (bare_yes _ HG.out (errV_is _ _)).mono ?_; rintro e w' ⟨rfl, hg3⟩; have G3 := Lib.hid hg3; clear hg3))
      go_ret
      exact ⟨by simp, G3.out⟩
    · have hd : decide ((n : Int) < (m : Int)) = false := by simp; omega
      by_cases h60 : 60 < n
      all_goals
        go_enter Tryd.func9, Tryd.ntmps9
        go_wp2_with (first
          | (go_at_call 30; refine B1.out.mono ?_; rintro e w' ⟨rfl, rfl⟩)
          | (go_at_call 35; refine (B2.out _ (Gr.refl _)).mono ?_; rintro e w' ⟨rfl, rfl⟩; rw [HFB.out])
          | (go_at_call 36; refine (B3.out _ (Gr.refl _)).mono ?_; rintro e w' ⟨rfl, rfl⟩; rw [HFB.out])
          | (go_at_call 14; refine (bare_yes _ HG.out (errV_is _ _)).mono ?_; rintro e w' ⟨rfl, hg3⟩; have G3 := Lib.hid hg3; clear hg3))
        go_ret
        exact ⟨by simp, G3.out⟩
end Go.Proofs.YtamofadbcgeokaaDoor

/-
  curve.Check and millraceref.CurveCheck: both tell 'ckCurve'.
-/
import Derived.Test.YtfdmmfjheiiiiaaDoorErr
import Derived.Test.YtfdmmfjheiiiiaaDoorPlain
import Derived.Test.YtfdmmfjheiiiiaaDoorWithin
namespace Go.Proofs.YtfdmmfjheiiiiaaDoor
open Go.RowKit Go.Extern.Stop Go.Stop Go.Extern

/-- what is wrong with number i of a curve -/
def ckAt (xs : List Int) (i : Nat) : Int :=
  if xs.getD i 0 < 0 ∨ 1000000000000 < xs.getD i 0 then 2 else if 0 < i ∧ xs.getD i 0 < xs.getD (i - 1) 0 then 10 else 0
/-- what is wrong with a curve -/
def ckCurve (xs : List Int) : Int :=
  if xs.length < 1 ∨ 201 < xs.length then 4 else firstOf (ckAt xs) xs.length

theorem ckCurve_len {xs : List Int} {n : Nat} (hn : xs.length = n) (h : n < 1 ∨ 201 < n) : ckCurve xs = 4 := by
  unfold ckCurve; rw [if_pos (by omega)]
theorem ckCurve_at {xs : List Int} {n k : Nat} {c : Int} (hn : xs.length = n) (h : ¬ (n < 1 ∨ 201 < n)) (hj : ∀ j, j < k → ckAt xs j = 0) (hk : k < n) (hc : ckAt xs k = c) (hne : c ≠ 0) : ckCurve xs = c := by
  unfold ckCurve; rw [if_neg (by omega), hn]; exact firstOf_at hj hk hc hne
theorem ckCurve_ok {xs : List Int} {n : Nat} (hn : xs.length = n) (h : ¬ (n < 1 ∨ 201 < n)) (hj : ∀ j, j < n → ckAt xs j = 0) : ckCurve xs = 0 := by
  unfold ckCurve; rw [if_neg (by omega), hn]; exact firstOf_zero hj
theorem ckAt_2 {xs : List Int} {k : Nat} {x : Int} (hx : xs.getD k 0 = x) (h : x < 0 ∨ 1000000000000 < x) : ckAt xs k = 2 := by
  unfold ckAt; rw [hx, if_pos h]
theorem ckAt_10 {xs : List Int} {k : Nat} {x y : Int} (hx : xs.getD k 0 = x) (hy : xs.getD (k - 1) 0 = y) (h : ¬ (x < 0 ∨ 1000000000000 < x)) (h0 : 0 < k) (h1 : x < y) : ckAt xs k = 10 := by
  unfold ckAt; rw [hx, hy, if_neg h, if_pos ⟨h0, h1⟩]
theorem ckAt_0 {xs : List Int} {k : Nat} {x y : Int} (hx : xs.getD k 0 = x) (hy : xs.getD (k - 1) 0 = y) (h : ¬ (x < 0 ∨ 1000000000000 < x)) (h1 : 0 < k → ¬ x < y) : ckAt xs k = 0 := by
  unfold ckAt; rw [hx, hy, if_neg h, if_neg (fun hh => h1 hh.1 hh.2)]

set_option maxHeartbeats 1000000 in
theorem check_slice (b off cap : Nat) (xs : List Int) (n : Nat) (hn : xs.length = n) (w : World) (hl : n ≤ 9223372036854775807) (hc : ∀ i, i < n → w.cell? ⟨b, off + i, none⟩ = some (.int .i64 (xs.getD i 0))) :
    Calls Tryd.prog 19 #[.slice (some ⟨b, off, none⟩) n cap] w fun e w' => e = .returned (errV (ckCurve xs)) ∧ w = w' := by
  have HC := Lib.hid hc
  have HN := Lib.hid hn
  clear hc hn
  by_cases hlen : n < 1 ∨ 201 < n
  · rcases hlen with hlen | hlen
    all_goals
      go_enter Tryd.func19, Tryd.ntmps19
      go_wp2
      go_ret
      rw [ckCurve_len HN.out (by omega)]
      exact ⟨rfl, rfl⟩
  have h1 : 1 ≤ n := by omega
  have h2 : n ≤ 201 := by omega
  have HL := Lib.hid hlen
  clear hlen
  go_enter Tryd.func19, Tryd.ntmps19
  go_wp2
  go_loop [16] (fun i => ∃ k : Nat, k ≤ n ∧ i = .int .i64 k ∧ Hid (∀ j, j < k → ckAt xs j = 0)) (fun i => n - (intOf i).toNat)
  case atStart => exact ⟨0, Nat.zero_le _, rfl, fun j hj => absurd hj (by omega)⟩
  case round =>
    obtain ⟨k, hk, rfl, HJ⟩ := hrel
    by_cases hlt : k < n
    · have hcell := HC.out k hlt
      generalize hx : xs.getD k 0 = x at hcell
      have HX := Lib.hid hx
      clear hx
      rcases Nat.eq_zero_or_pos k with hk0 | hk0
      · subst hk0
        rw [Nat.add_zero] at hcell
        go_wp2
        all_goals first
          | (go_ret; rw [ckCurve_at HN.out HL.out HJ.out hlt (ckAt_2 HX.out (by omega)) (by decide)]; exact ⟨rfl, rfl⟩)
          | (go_round
             case rel => exact ⟨1, by omega, rfl, okTo_succ HJ.out (ckAt_0 HX.out rfl (by omega) (by omega))⟩
             case measure => simp [intOf]; omega)
      · have hcell1 := HC.out (k - 1) (by omega)
        generalize hy : xs.getD (k - 1) 0 = y at hcell1
        have HY := Lib.hid hy
        clear hy
        go_wp2
        all_goals first
          | (go_ret; rw [ckCurve_at HN.out HL.out HJ.out hlt (ckAt_2 HX.out (by omega)) (by decide)]; exact ⟨rfl, rfl⟩)
          | (go_ret; rw [ckCurve_at HN.out HL.out HJ.out hlt (ckAt_10 HX.out HY.out (by omega) hk0 (by omega)) (by decide)]; exact ⟨rfl, rfl⟩)
          | (go_round
             case rel => exact ⟨k + 1, by omega, by go_num, okTo_succ HJ.out (ckAt_0 HX.out HY.out (by omega) (by omega))⟩
             case measure => simp [intOf]; omega)
    · go_wp2
      go_ret
      obtain rfl : k = n := by omega
      rw [ckCurve_ok HN.out HL.out HJ.out]
      exact ⟨rfl, rfl⟩
theorem check_nil (a : Option Addr) (cap : Nat) (w : World) : Calls Tryd.prog 19 #[.slice a 0 cap] w fun e w' => e = .returned (errV (ckCurve [])) ∧ w = w' := by
  go_enter Tryd.func19, Tryd.ntmps19
  go_wp2
  go_ret
  exact ⟨rfl, rfl⟩
theorem check_any {v : Value} {xs : List Int} (w : World) (h : Ints w v xs) : Calls Tryd.prog 19 #[v] w fun e w' => e = .returned (errV (ckCurve xs)) ∧ w = w' := by
  rcases h with ⟨a, cap, rfl, rfl⟩ | ⟨b, off, cap, rfl, _, h2, h3⟩
  · exact check_nil a cap w
  · exact check_slice b off cap xs _ rfl w (by omega) h3

set_option maxHeartbeats 1000000 in
theorem refcheck_slice (b off cap : Nat) (xs : List Int) (n : Nat) (hn : xs.length = n) (w : World) (hl : n ≤ 9223372036854775807) (hc : ∀ i, i < n → w.cell? ⟨b, off + i, none⟩ = some (.int .i64 (xs.getD i 0))) :
    Calls Tryd.prog 12 #[.slice (some ⟨b, off, none⟩) n cap] w fun e w' => e = .returned (.int .i64 (ckCurve xs)) ∧ w = w' := by
  have HC := Lib.hid hc
  have HN := Lib.hid hn
  clear hc hn
  by_cases hlen : n < 1 ∨ 201 < n
  · rcases hlen with hlen | hlen
    all_goals
      go_enter Tryd.func12, Tryd.ntmps12
      go_wp2_with (go_at_call 11; (first | refine (within_yes _ _ _ _ (by omega) (by omega)).mono ?_ | refine (within_no _ _ _ _ (by omega)).mono ?_); rintro e w' ⟨rfl, rfl⟩)
      go_ret
      rw [ckCurve_len HN.out (by omega)]
      exact ⟨rfl, rfl⟩
  have h1 : 1 ≤ n := by omega
  have h2 : n ≤ 201 := by omega
  have HL := Lib.hid hlen
  clear hlen
  go_enter Tryd.func12, Tryd.ntmps12
  go_wp2_with (go_at_call 11; (first | refine (within_yes _ _ _ _ (by omega) (by omega)).mono ?_ | refine (within_no _ _ _ _ (by omega)).mono ?_); rintro e w' ⟨rfl, rfl⟩)
  go_loop [11] (fun i => ∃ k : Nat, k ≤ n ∧ i = .int .i64 k ∧ Hid (∀ j, j < k → ckAt xs j = 0)) (fun i => n - (intOf i).toNat)
  case atStart => exact ⟨0, Nat.zero_le _, rfl, fun j hj => absurd hj (by omega)⟩
  case round =>
    obtain ⟨k, hk, rfl, HJ⟩ := hrel
    by_cases hlt : k < n
    · have hcell := HC.out k hlt
      generalize hx : xs.getD k 0 = x at hcell
      have HX := Lib.hid hx
      clear hx
      by_cases hb : x < 0 ∨ 1000000000000 < x
      · go_wp2_with (go_at_call 11; (first | refine (within_yes _ _ _ _ (by omega) (by omega)).mono ?_ | refine (within_no _ _ _ _ (by omega)).mono ?_); rintro e w' ⟨rfl, rfl⟩)
        go_ret; rw [ckCurve_at HN.out HL.out HJ.out hlt (ckAt_2 HX.out hb) (by decide)]; exact ⟨rfl, rfl⟩
      rcases Nat.eq_zero_or_pos k with hk0 | hk0
      · subst hk0
        rw [Nat.add_zero] at hcell
        go_wp2_with (go_at_call 11; (first | refine (within_yes _ _ _ _ (by omega) (by omega)).mono ?_ | refine (within_no _ _ _ _ (by omega)).mono ?_); rintro e w' ⟨rfl, rfl⟩)
        all_goals first
          | (go_ret; rw [ckCurve_at HN.out HL.out HJ.out hlt (ckAt_2 HX.out (by omega)) (by decide)]; exact ⟨rfl, rfl⟩)
          | (go_round
             case rel => exact ⟨1, by omega, rfl, okTo_succ HJ.out (ckAt_0 HX.out rfl (by omega) (by omega))⟩
             case measure => simp [intOf]; omega)
      · have hcell1 := HC.out (k - 1) (by omega)
        generalize hy : xs.getD (k - 1) 0 = y at hcell1
        have HY := Lib.hid hy
        clear hy
        go_wp2_with (go_at_call 11; (first | refine (within_yes _ _ _ _ (by omega) (by omega)).mono ?_ | refine (within_no _ _ _ _ (by omega)).mono ?_); rintro e w' ⟨rfl, rfl⟩)
        all_goals first
          | (go_ret; rw [ckCurve_at HN.out HL.out HJ.out hlt (ckAt_2 HX.out (by omega)) (by decide)]; exact ⟨rfl, rfl⟩)
          | (go_ret; rw [ckCurve_at HN.out HL.out HJ.out hlt (ckAt_10 HX.out HY.out (by omega) hk0 (by omega)) (by decide)]; exact ⟨rfl, rfl⟩)
          | (go_round
             case rel => exact ⟨k + 1, by omega, by go_num, okTo_succ HJ.out (ckAt_0 HX.out HY.out (by omega) (by omega))⟩
             case measure => simp [intOf]; omega)
    · go_wp2_with (go_at_call 11; (first | refine (within_yes _ _ _ _ (by omega) (by omega)).mono ?_ | refine (within_no _ _ _ _ (by omega)).mono ?_); rintro e w' ⟨rfl, rfl⟩)
      go_ret
      obtain rfl : k = n := by omega
      rw [ckCurve_ok HN.out HL.out HJ.out]
      exact ⟨rfl, rfl⟩
theorem refcheck_nil (a : Option Addr) (cap : Nat) (w : World) : Calls Tryd.prog 12 #[.slice a 0 cap] w fun e w' => e = .returned (.int .i64 (ckCurve [])) ∧ w = w' := by
  go_enter Tryd.func12, Tryd.ntmps12
  go_wp2_with (go_at_call 11; (first | refine (within_yes _ _ _ _ (by omega) (by omega)).mono ?_ | refine (within_no _ _ _ _ (by omega)).mono ?_); rintro e w' ⟨rfl, rfl⟩)
  go_ret
  exact ⟨rfl, rfl⟩
theorem refcheck_any {v : Value} {xs : List Int} (w : World) (h : Ints w v xs) : Calls Tryd.prog 12 #[v] w fun e w' => e = .returned (.int .i64 (ckCurve xs)) ∧ w = w' := by
  rcases h with ⟨a, cap, rfl, rfl⟩ | ⟨b, off, cap, rfl, _, h2, h3⟩
  · exact refcheck_nil a cap w
  · exact refcheck_slice b off cap xs _ rfl w (by omega) h3

end Go.Proofs.YtfdmmfjheiiiiaaDoor

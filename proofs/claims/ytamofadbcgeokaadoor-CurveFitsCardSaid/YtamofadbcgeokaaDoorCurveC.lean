/-
  curve.both, millraceref.Curves, millracelaw.long, millracelaw.sameInts; curve.Least.
-/
import Derived.Test.YtamofadbcgeokaaDoorCurveA
import Derived.Test.YtamofadbcgeokaaDoorApp
namespace Go.Proofs.YtamofadbcgeokaaDoor
open Go.RowKit Go.Extern.Stop Go.Stop Go.Extern

theorem check_ok {v : Value} {xs : List Int} (w : World) (h : Ints w v xs) (hc : ckCurve xs = 0) : Calls Tryd.prog 18 #[v] w fun e w' => e = .returned .nilIface ∧ w = w' := by
  have := check_any w h; rw [errV_zero hc] at this; exact this
theorem check_bad {v : Value} {xs : List Int} (w : World) (h : Ints w v xs) (hc : ckCurve xs ≠ 0) : Calls Tryd.prog 18 #[v] w fun e w' => e = .returned (.iface 24 (.int .i64 (ckCurve xs))) ∧ w = w' := by
  have := check_any w h; rw [errV_ne hc] at this; exact this

/-- what is wrong with two curves -/
def ckTwo (xs ys : List Int) : Int := if ckCurve xs ≠ 0 then ckCurve xs else ckCurve ys

theorem both_any {v u : Value} {xs ys : List Int} (w : World) (hx : Ints w v xs) (hy : Ints w u ys) :
    Calls Tryd.prog 55 #[v, u] w fun e w' => e = .returned (errV (ckTwo xs ys)) ∧ w = w' := by
  have HX := Lib.hid hx
  have HY := Lib.hid hy
  clear hx hy
  by_cases hc : ckCurve xs = 0
  · have e : ckTwo xs ys = ckCurve ys := by unfold ckTwo; rw [if_neg (by omega)]
    rw [e]
    have HC := Lib.hid hc
    clear hc e
    go_enter Tryd.func55, Tryd.ntmps55
    go_wp2_with fail
    refine (check_ok _ HX.out HC.out).mono ?_
    rintro e w' ⟨rfl, rfl⟩
    go_wp2_with fail
    refine (check_any _ HY.out).mono ?_
    rintro e w' ⟨rfl, rfl⟩
    go_wp2
    go_ret
    exact ⟨rfl, rfl⟩
  · have e : ckTwo xs ys = ckCurve xs := by unfold ckTwo; rw [if_pos hc]
    rw [e, errV_ne hc]
    have HC := Lib.hid hc
    clear hc e
    go_enter Tryd.func55, Tryd.ntmps55
    go_wp2_with fail
    refine (check_bad _ HX.out HC.out).mono ?_
    rintro e w' ⟨rfl, rfl⟩
    go_wp2
    go_ret
    exact ⟨rfl, rfl⟩
theorem both_ok {v u : Value} {xs ys : List Int} (w : World) (hx : Ints w v xs) (hy : Ints w u ys) (hc : ckTwo xs ys = 0) :
    Calls Tryd.prog 55 #[v, u] w fun e w' => e = .returned .nilIface ∧ w = w' := by
  have := both_any w hx hy; rw [errV_zero hc] at this; exact this
theorem both_bad {v u : Value} {xs ys : List Int} (w : World) (hx : Ints w v xs) (hy : Ints w u ys) (hc : ckTwo xs ys ≠ 0) :
    Calls Tryd.prog 55 #[v, u] w fun e w' => e = .returned (.iface 24 (.int .i64 (ckTwo xs ys))) ∧ w = w' := by
  have := both_any w hx hy; rw [errV_ne hc] at this; exact this

theorem curves_any {v u : Value} {xs ys : List Int} (w : World) (hx : Ints w v xs) (hy : Ints w u ys) :
    Calls Tryd.prog 31 #[v, u] w fun e w' => e = .returned (.int .i64 (ckTwo xs ys)) ∧ w = w' := by
  have HX := Lib.hid hx
  have HY := Lib.hid hy
  clear hx hy
  by_cases hc : ckCurve xs = 0
  · have e : ckTwo xs ys = ckCurve ys := by unfold ckTwo; rw [if_neg (by omega)]
    rw [e]
    have HC := Lib.hid hc
    clear hc e
    go_enter Tryd.func31, Tryd.ntmps31
    go_wp2_with fail
    refine (refcheck_any _ HX.out).mono ?_
    rintro e w' ⟨rfl, rfl⟩
    rw [HC.out]
    go_wp2_with fail
    refine (refcheck_any _ HY.out).mono ?_
    rintro e w' ⟨rfl, rfl⟩
    go_wp2
    go_ret
    exact ⟨rfl, rfl⟩
  · have e : ckTwo xs ys = ckCurve xs := by unfold ckTwo; rw [if_pos hc]
    rw [e]
    have hb : (ckCurve xs != 0) = true := by simpa using hc
    clear hc e
    generalize hk : ckCurve xs = k at *
    have HK := Lib.hid hk
    clear hk
    go_enter Tryd.func31, Tryd.ntmps31
    go_wp2_with fail
    refine (refcheck_any _ HX.out).mono ?_
    rintro e w' ⟨rfl, rfl⟩
    rw [HK.out]
    go_wp2
    go_ret
    exact ⟨rfl, rfl⟩

theorem ints_shape {w : World} {v : Value} {xs : List Int} (h : Ints w v xs) : ∃ a cap, v = .slice a xs.length cap := by
  rcases h with ⟨a, cap, rfl, rfl⟩ | ⟨b, off, cap, rfl, _⟩
  · exact ⟨_, _, rfl⟩
  · exact ⟨_, _, rfl⟩

/-- The cells of a slice that is not empty. -/
theorem ints_cells {w : World} {v : Value} {xs : List Int} (h : Ints w v xs) (h0 : 0 < xs.length) : ∃ b off cap, v = .slice (some ⟨b, off, none⟩) xs.length cap ∧ Hid (∀ i, i < xs.length → w.cell? ⟨b, off + i, none⟩ = some (.int .i64 (xs.getD i 0))) := by
  rcases h with ⟨a, cap, rfl, rfl⟩ | ⟨b, off, cap, rfl, _, _, h⟩
  · simp at h0
  · exact ⟨_, _, _, rfl, h⟩

/-- .. with what is known of its capacity. -/
theorem ints_cap {w : World} {v : Value} {xs : List Int} (h : Ints w v xs) (h0 : 0 < xs.length) : ∃ b off cap, v = .slice (some ⟨b, off, none⟩) xs.length cap ∧ xs.length ≤ cap ∧ cap ≤ 9223372036854775807 ∧ Hid (∀ i, i < xs.length → w.cell? ⟨b, off + i, none⟩ = some (.int .i64 (xs.getD i 0))) := by
  rcases h with ⟨a, cap, rfl, rfl⟩ | ⟨b, off, cap, rfl, _, hcap, h⟩
  · simp at h0
  · exact ⟨_, _, _, rfl, hcap.1, hcap.2, h⟩

theorem long_yes {v u : Value} {xs ys : List Int} (w : World) (hx : Ints w v xs) (hy : Ints w u ys) (h : 300 < xs.length ∨ 300 < ys.length) :
    Calls Tryd.prog 30 #[v, u] w fun e w' => e = .returned (.bool true) ∧ w = w' := by
  obtain ⟨a, cap, rfl⟩ := ints_shape hx
  obtain ⟨a', cap', rfl⟩ := ints_shape hy
  have l1 := hx.len
  have l2 := hy.len
  clear hx hy
  generalize xs.length = n at *
  generalize ys.length = m at *
  by_cases h1 : 300 < n
  · clear h
    go_enter Tryd.func30, Tryd.ntmps30
    go_wp2
    go_ret
    exact ⟨by simp, rfl⟩
  · have h2 : 300 < m := by omega
    clear h
    go_enter Tryd.func30, Tryd.ntmps30
    go_wp2
    go_ret
    exact ⟨by simp; omega, rfl⟩
theorem long_no {v u : Value} {xs ys : List Int} (w : World) (hx : Ints w v xs) (hy : Ints w u ys) (h1 : xs.length ≤ 300) (h2 : ys.length ≤ 300) :
    Calls Tryd.prog 30 #[v, u] w fun e w' => e = .returned (.bool false) ∧ w = w' := by
  obtain ⟨a, cap, rfl⟩ := ints_shape hx
  obtain ⟨a', cap', rfl⟩ := ints_shape hy
  clear hx hy
  generalize xs.length = n at *
  generalize ys.length = m at *
  go_enter Tryd.func30, Tryd.ntmps30
  go_wp2
  go_ret
  exact ⟨by simp; omega, rfl⟩

set_option maxHeartbeats 1000000 in
theorem sameInts_slice (b off cap b' off' cap' : Nat) (xs : List Int) (n : Nat) (w : World) (hm : n ≤ 9223372036854775807)
    (hx : Hid (∀ i, i < n → w.cell? ⟨b, off + i, none⟩ = some (.int .i64 (xs.getD i 0)))) (hy : Hid (∀ i, i < n → w.cell? ⟨b', off' + i, none⟩ = some (.int .i64 (xs.getD i 0)))) :
    Calls Tryd.prog 29 #[.slice (some ⟨b, off, none⟩) n cap, .slice (some ⟨b', off', none⟩) n cap'] w fun e w' => e = .returned (.bool true) ∧ Gr w w' := by
  go_enter Tryd.func29, Tryd.ntmps29
  go_wp2
  go_loopw [5] (fun i wr => ∃ k : Nat, k ≤ n ∧ i = .int .i64 k ∧ Hid (Gr w wr)) (fun i _ => n - (intOf i).toNat)
  case atStart => exact ⟨0, Nat.zero_le _, rfl, Gr.refl _⟩
  case round =>
    obtain ⟨k, hk, rfl, HG⟩ := hrel
    by_cases hlt : k < n
    · have c1 := HG.out.cell (hx.out k hlt)
      have c2 := HG.out.cell (hy.out k hlt)
      generalize xs.getD k 0 = x at c1 c2
      go_wp2
      go_quiet (fail)
      go_wp2
      go_roundw
      case rel => exact ⟨k + 1, by omega, by go_num, HG.out.drewN _⟩
      case measure => simp [intOf]; omega
    · go_wp2
      go_ret
      exact ⟨rfl, HG.out⟩
theorem sameInts_nil (a a' : Option Addr) (cap cap' : Nat) (w : World) :
    Calls Tryd.prog 29 #[.slice a 0 cap, .slice a' 0 cap'] w fun e w' => e = .returned (.bool true) ∧ Gr w w' := by
  go_enter Tryd.func29, Tryd.ntmps29
  go_wp2
  refine wp_loop_rounds 1 ?_
  rw [rounds_succ]
  go_wp2
  go_ret
  exact ⟨rfl, Gr.refl _⟩
/-- sameInts at two slices that hold the same. -/
theorem sameInts_any {v u : Value} {xs : List Int} (w : World) (hx : Ints w v xs) (hy : Ints w u xs) :
    Calls Tryd.prog 29 #[v, u] w fun e w' => e = .returned (.bool true) ∧ Gr w w' := by
  rcases Nat.eq_zero_or_pos xs.length with h0 | h0
  · obtain ⟨a, cap, rfl⟩ := ints_shape hx
    obtain ⟨a', cap', rfl⟩ := ints_shape hy
    rw [h0]
    exact sameInts_nil a a' cap cap' w
  · have hm := hx.len
    obtain ⟨b, off, cap, rfl, hc⟩ := ints_cells hx h0
    obtain ⟨b', off', cap', rfl, hc'⟩ := ints_cells hy h0
    exact sameInts_slice b off cap b' off' cap' xs _ w hm hc hc'
end Go.Proofs.YtamofadbcgeokaaDoor

/-
  bucket.State: Has, When, and none at all.
-/
import Derived.Test.YtogmjjaoflaogaaGreatDoorBktB
import Derived.IntWalk
namespace Go.Proofs.YtogmjjaoflaogaaGreatDoor
open Go.RowKit Go.Extern.Stop Go.Stop Go.Extern

theorem ceil_pos {a b : Int} (hb : 0 < b) (ha : 0 < a) : max 0 (-((-a) / b)) = (a + b - 1) / b ∧ 0 ≤ (a + b - 1) / b ∧ (a + b - 1) / b ≤ a + b - 1 := by
  have h1 := Int.mul_ediv_add_emod (-a) b
  have h2 := Int.emod_nonneg (-a) (show b ≠ 0 by omega)
  have h3 := Int.emod_lt_of_pos (-a) hb
  have h4 := Int.mul_ediv_add_emod (a + b - 1) b
  have h5 := Int.emod_nonneg (a + b - 1) (show b ≠ 0 by omega)
  have h6 := Int.emod_lt_of_pos (a + b - 1) hb
  have h7 : 0 ≤ (a + b - 1) / b := Int.ediv_nonneg (by omega) (by omega)
  have h8 : (a + b - 1) / b ≤ a + b - 1 := Int.ediv_le_self _ (by omega)
  generalize (-a) / b = x at *
  generalize (a + b - 1) / b = y at *
  have h9 : b * (x + y) = b * x + b * y := Int.mul_add _ _ _
  have h10 : x + y = 0 := by
    rcases Int.lt_trichotomy (x + y) 0 with h | h | h
    · have := Int.mul_le_mul_of_nonneg_left (show x + y ≤ -1 by omega) (show (0 : Int) ≤ b by omega); omega
    · exact h
    · have := Int.mul_le_mul_of_nonneg_left (show 1 ≤ x + y by omega) (show (0 : Int) ≤ b by omega); omega
  exact ⟨by omega, h7, h8⟩
theorem ceil_neg {a b : Int} (hb : 0 < b) (ha : a ≤ 0) : max 0 (-((-a) / b)) = 0 := by
  have := Int.ediv_nonneg (show 0 ≤ -a by omega) (show (0 : Int) ≤ b by omega)
  omega
theorem tdiv_pos {a b : Int} (ha : 0 ≤ a) : a.tdiv b = a / b := Int.tdiv_eq_ediv_of_nonneg ha
/-- What is filled is not behind the time asked for. -/
theorem Bkt.fill_last (B : Bkt) (s : BSt) (now : Int) : now ≤ (B.fill s now).last := by
  unfold Bkt.fill
  split
  · exact Int.le_refl _
  · omega

set_option maxRecDepth 100000 in
set_option maxHeartbeats 8000000 in
theorem has_any (p : Nat) (B : Bkt) (s : BSt) (now : Int) (w : World) (h : StAt w p B s) (hok : B.Ok s) (hn0 : -9223372036854775808 ≤ now) :
    Calls Tryz.prog 11 #[.pointer (some ⟨p, 0, none⟩), .int .i64 now] w fun e w' => e = .returned (.int .i64 (B.has s now).1) ∧ StAt w' p B (B.has s now).2 ∧ Only p 3 w w' := by
  have H := Lib.hid h
  clear h
  by_cases h1 : 1000000000 < now
  · have HT : Hid (B.has s now = (0, s)) := Lib.hid (by unfold Bkt.has; rw [if_pos h1])
    rw [HT.out]
    clear hok
    go_enter Tryz.func11, Tryz.ntmps11
    go_wp2
    go_ret
    exact ⟨rfl, H.out, Only.refl _ _ _⟩
  · have HF := Lib.hid (fill_any p B s now w H.out hok (by omega) hn0)
    have hf := B.fill_ok hok (now := now) (by omega)
    have hx0 := hf.x0
    have hx1 := hf.x1
    have hr := B.room
    have ht := B.ht
    have HT : Hid (B.has s now = ((B.fill s now).x / (B.t : Int), B.fill s now)) := Lib.hid (by unfold Bkt.has; rw [if_neg h1])
    have hx2 : (B.fill s now).x ≤ 1000000000000 := by omega
    rw [HT.out]
    clear hok hf HT H hx1 hr
    generalize B.fill s now = s' at *
    have hdv : s'.x.tdiv (B.t : Int) = s'.x / (B.t : Int) := tdiv_pos hx0
    have hq0 : 0 ≤ s'.x / (B.t : Int) := Int.ediv_nonneg hx0 (by omega)
    have hq1 : s'.x / (B.t : Int) ≤ s'.x := Int.ediv_le_self _ hx0
    generalize s'.x / (B.t : Int) = q at *
    have ht0 : ¬ (B.t : Int) = 0 := by omega
    have ht1 : (1 : Int) ≤ (B.t : Int) := by omega
    go_enter Tryz.func11, Tryz.ntmps11
    go_wp2_with (go_at_call 27; refine HF.out.mono ?_; rintro e w1 ⟨rfl, hs, ho⟩; have HS := Lib.hid hs; have HO := Lib.hid ho; have c1 := hs.c1; have c4 := hs.c4; clear hs ho)
    go_quiet (fail)
    go_wp2
    go_ret
    exact ⟨rfl, HS.out.gr ((Gr.refl _).drewN _), HO.out.trans (.of_gr ((Gr.refl _).drewN _))⟩
theorem has_none (now : Int) (w : World) : Calls Tryz.prog 11 #[.pointer none, .int .i64 now] w fun e w' => e = .returned (.int .i64 0) ∧ w = w' := by
  go_enter Tryz.func11, Tryz.ntmps11
  go_wp2
  go_ret
  exact ⟨rfl, rfl⟩
theorem take_none (now n : Int) (w : World) : Calls Tryz.prog 12 #[.pointer none, .int .i64 now, .int .i64 n] w fun e w' => e = .returned (.bool false) ∧ w = w' := by
  go_enter Tryz.func12, Tryz.ntmps12
  go_wp2
  go_ret
  exact ⟨rfl, rfl⟩
theorem when_none (now n : Int) (w : World) : Calls Tryz.prog 10 #[.pointer none, .int .i64 now, .int .i64 n] w fun e w' => e = .returned (.tuple #[.int .i64 0, .bool false]) ∧ w = w' := by
  go_enter Tryz.func10, Tryz.ntmps10
  go_wp2
  go_ret2
  exact ⟨rfl, rfl⟩
theorem when_no (p : Nat) (B : Bkt) (s : BSt) (now n : Int) (w : World) (h : StAt w p B s) (hh : 1000000000 < now ∨ n < 0 ∨ (B.r : Int) < n) :
    Calls Tryz.prog 10 #[.pointer (some ⟨p, 0, none⟩), .int .i64 now, .int .i64 n] w fun e w' => e = .returned (.tuple #[.int .i64 0, .bool false]) ∧ StAt w' p B s ∧ Only p 3 w w' := by
  have H := Lib.hid h
  have c2 := h.c2
  clear h
  by_cases h1 : 1000000000 < now
  · clear hh
    go_enter Tryz.func10, Tryz.ntmps10
    go_wp2
    go_ret2
    exact ⟨rfl, H.out, Only.refl _ _ _⟩
  · by_cases h2 : n < 0
    · clear hh
      go_enter Tryz.func10, Tryz.ntmps10
      go_wp2
      go_ret2
      exact ⟨rfl, H.out, Only.refl _ _ _⟩
    · have h3 : (B.r : Int) < n := by omega
      clear hh
      go_enter Tryz.func10, Tryz.ntmps10
      go_wp2
      go_ret2
      exact ⟨rfl, H.out, Only.refl _ _ _⟩
set_option maxRecDepth 100000 in
set_option maxHeartbeats 8000000 in
theorem when_any (p : Nat) (B : Bkt) (s : BSt) (now n : Int) (w : World) (h : StAt w p B s) (hok : B.Ok s) (hn0 : -9223372036854775808 ≤ now) :
    Calls Tryz.prog 10 #[.pointer (some ⟨p, 0, none⟩), .int .i64 now, .int .i64 n] w fun e w' => e = .returned (.tuple #[.int .i64 (B.when s now n).1.1, .bool (B.when s now n).1.2]) ∧ StAt w' p B (B.when s now n).2 ∧ Only p 3 w w' := by
  by_cases hh : 1000000000 < now ∨ n < 0 ∨ (B.r : Int) < n
  · have HT : Hid (B.when s now n = ((0, false), s)) := Lib.hid (by unfold Bkt.when; rw [if_pos hh])
    rw [HT.out]
    exact when_no p B s now n w h hh
  · have g1 : ¬ 1000000000 < now := by omega
    have g2 : ¬ n < 0 := by omega
    have g3 : ¬ (B.r : Int) < n := by omega
    have c2 := h.c2
    have HF := Lib.hid (fill_any p B s now w h hok (by omega) hn0)
    have hf := B.fill_ok hok (now := now) (by omega)
    have hbr := B.hr
    have hnd := B.need (n := n) (by omega)
    have HT : Hid (B.when s now n = ((B.at (B.fill s now) n, true), B.fill s now)) := Lib.hid (by unfold Bkt.when; rw [if_neg hh])
    have ⟨l0, l1, hx0, hx1⟩ := hf
    have hr := B.room
    have hb := B.hb
    have hl := B.fill_last s now
    have hx2 : (B.fill s now).x ≤ 1000000000000 := by omega
    rw [HT.out]
    clear h hok hh hx1 hr HT hf
    generalize B.fill s now = s' at *
    have HAT : Hid (B.at s' n = s'.last + max 0 (-((-(n * (B.t : Int) - s'.x)) / (B.b : Int)))) := Lib.hid rfl
    have HAT2 := HAT.out
    generalize B.at s' n = at_ at *
    generalize hm : n * (B.t : Int) = m at *
    have b0 : (0 : Int) < (B.b : Int) := by omega
    have b1 : (B.b : Int) ≤ 1000000 := by omega
    have b2 : ¬ (B.b : Int) = 0 := by omega
    by_cases hlt : 0 < m - s'.x
    · have hc := ceil_pos b0 hlt
      have hdv : (m - s'.x + (B.b : Int) - 1).tdiv (B.b : Int) = (m - s'.x + (B.b : Int) - 1) / (B.b : Int) := tdiv_pos (by omega)
      rw [hc.1] at HAT2
      have hc2 := hc.2
      clear hc HAT
      generalize (m - s'.x + (B.b : Int) - 1) / (B.b : Int) = q at *
      have HA := Lib.hid HAT2
      clear HAT2
      go_enter Tryz.func10, Tryz.ntmps10
      go_wp2_with (go_at_call 27; refine HF.out.mono ?_; rintro e w1 ⟨rfl, hs, ho⟩; have HS := Lib.hid hs; have HO := Lib.hid ho; have d0 := hs.c0; have d1 := hs.c1; have d3 := hs.c3; have d4 := hs.c4; clear hs ho)
      all_goals
        go_quiet (fail)
        go_wp2
        go_quiet (fail)
        go_wp2
        go_ret2
        exact ⟨by rw [HA.out]; rfl, HS.out.gr (((Gr.refl _).drewN _).trans ((Gr.refl _).drewN _)), HO.out.trans (.of_gr (((Gr.refl _).drewN _).trans ((Gr.refl _).drewN _)))⟩
    · rw [ceil_neg b0 (by omega), Int.add_zero] at HAT2
      subst HAT2
      clear HAT
      go_enter Tryz.func10, Tryz.ntmps10
      go_wp2_with (go_at_call 27; refine HF.out.mono ?_; rintro e w1 ⟨rfl, hs, ho⟩; have HS := Lib.hid hs; have HO := Lib.hid ho; have d0 := hs.c0; have d1 := hs.c1; have d3 := hs.c3; have d4 := hs.c4; clear hs ho)
      all_goals
        go_quiet (fail)
        go_wp2
        go_ret2
        exact ⟨by (first | rfl | (rw [show s'.last = now by omega]; rfl)), HS.out.gr ((Gr.refl _).drewN _), HO.out.trans (.of_gr ((Gr.refl _).drewN _))⟩
end Go.Proofs.YtogmjjaoflaogaaGreatDoor

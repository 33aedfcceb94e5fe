/-
  bucket.State: fill, Take.
-/
import Derived.Test.YtgifghbnpdanhaaGreatDoorShaperPlaysPart1
import Derived.Test.YtgifghbnpdanhaaGreatDoorBigI
import Derived.StillTailTactics
import Derived.BigQuiet
import Derived.IntWalk
namespace Go.Proofs.YtgifghbnpdanhaaGreatDoor
open Go.RowKit

/-- The State at block p. -/
structure StAt (w : World) (p : Nat) (B : Bkt) (s : BSt) : Prop where
  c0 : w.cell? ⟨p, 0, none⟩ = some (.int .i64 (B.b : Int))
  c1 : w.cell? ⟨p, 1, none⟩ = some (.int .i64 (B.t : Int))
  c2 : w.cell? ⟨p, 2, none⟩ = some (.int .i64 (B.r : Int))
  c3 : w.cell? ⟨p, 3, none⟩ = some (.int .i64 s.last)
  c4 : w.cell? ⟨p, 4, none⟩ = some (.int .i64 s.x)
  f3 : w.frozen? ⟨p, 3, none⟩ = false
  f4 : w.frozen? ⟨p, 4, none⟩ = false
theorem StAt.gr {w w' : World} {p : Nat} {B : Bkt} {s : BSt} (h : StAt w p B s) (k : Gr w w') : StAt w' p B s := by
  have hl := cell_lt h.c0
  exact ⟨k.cell h.c0, k.cell h.c1, k.cell h.c2, k.cell h.c3, k.cell h.c4, by rw [k.frozen (p := ⟨p, 3, none⟩) hl]; exact h.f3, by rw [k.frozen (p := ⟨p, 4, none⟩) hl]; exact h.f4⟩
theorem StAt.only {w w' : World} {p q : Nat} {B : Bkt} {s : BSt} (h : StAt w p B s) (k : Only q 3 w w') (hne : p ≠ q) : StAt w' p B s := by
  have hl := cell_lt h.c0
  exact ⟨(k.cell p 0 hl (.inl hne)).trans h.c0, (k.cell p 1 hl (.inl hne)).trans h.c1, (k.cell p 2 hl (.inl hne)).trans h.c2, (k.cell p 3 hl (.inl hne)).trans h.c3, (k.cell p 4 hl (.inl hne)).trans h.c4, (k.frozen p 3 hl).trans h.f3, (k.frozen p 4 hl).trans h.f4⟩
theorem only_set4 {w : World} {p : Nat} (v : Value) : Only p 3 w (w.setCell ⟨p, 4, none⟩ v) :=
  ⟨fun u hu hp => hu.setCell hp _, by simp, fun q i _ ho => by rw [World.cell?_setCell_other _ _ _ _ (by simp; omega)], fun q i _ => by simp, fun q _ hne => Below.heap_setCell _ _ _ _ hne⟩
theorem only_set3 {w : World} {p : Nat} (v : Value) : Only p 3 w (w.setCell ⟨p, 3, none⟩ v) :=
  ⟨fun u hu hp => hu.setCell hp _, by simp, fun q i _ ho => by rw [World.cell?_setCell_other _ _ _ _ (by simp; omega)], fun q i _ => by simp, fun q _ hne => Below.heap_setCell _ _ _ _ hne⟩
theorem StAt.set4 {w : World} {p : Nat} {B : Bkt} {s : BSt} (h : StAt w p B s) (x : Int) : StAt (w.setCell ⟨p, 4, none⟩ (.int .i64 x)) p B ⟨s.last, x⟩ :=
  ⟨by rw [World.cell?_setCell_other _ _ _ _ (by simp)]; exact h.c0, by rw [World.cell?_setCell_other _ _ _ _ (by simp)]; exact h.c1, by rw [World.cell?_setCell_other _ _ _ _ (by simp)]; exact h.c2, by rw [World.cell?_setCell_other _ _ _ _ (by simp)]; exact h.c3, World.cell?_setCell_same _ _ _ h.c4, by simpa using h.f3, by simpa using h.f4⟩
theorem StAt.set3 {w : World} {p : Nat} {B : Bkt} {s : BSt} (h : StAt w p B s) (t : Int) : StAt (w.setCell ⟨p, 3, none⟩ (.int .i64 t)) p B ⟨t, s.x⟩ :=
  ⟨by rw [World.cell?_setCell_other _ _ _ _ (by simp)]; exact h.c0, by rw [World.cell?_setCell_other _ _ _ _ (by simp)]; exact h.c1, by rw [World.cell?_setCell_other _ _ _ _ (by simp)]; exact h.c2, World.cell?_setCell_same _ _ _ h.c3, by rw [World.cell?_setCell_other _ _ _ _ (by simp)]; exact h.c4, by simpa using h.f3, by simpa using h.f4⟩

theorem wrap_small {x : Int} (h : -9223372036854775808 ≤ x ∧ x ≤ 9223372036854775807) : IntKind.i64.wrap x = x := by rw [IntKind.wrap_i64]; omega
set_option maxRecDepth 100000 in
set_option maxHeartbeats 8000000 in
theorem fill_any (p : Nat) (B : Bkt) (s : BSt) (now : Int) (w : World) (h : StAt w p B s) (hok : B.Ok s) (hn : now ≤ 1000000000) (hn0 : -9223372036854775808 ≤ now) :
    Calls Tryz.prog 99 #[.pointer (some ⟨p, 0, none⟩), .int .i64 now] w fun e w' => e = .returned (.tuple #[]) ∧ StAt w' p B (B.fill s now) ∧ Only p 3 w w' := by
  have H := Lib.hid h
  have c0 := h.c0
  have c1 := h.c1
  have c2 := h.c2
  have c3 := h.c3
  have c4 := h.c4
  have f3 := h.f3
  have f4 := h.f4
  clear h
  have l0 := hok.l0
  have l1 := hok.l1
  by_cases hlt : s.last < now
  · have hm := B.more hok hn hlt
    have hr := B.room
    have hx0 := hok.x0
    have hx1 := hok.x1
    have HW1 := Lib.hid (wrap_small (x := (B.r : Int) * (B.t : Int)) (by omega))
    have HW2 := Lib.hid (wrap_small (x := now - s.last) (by omega))
    have HW3 := Lib.hid (wrap_small (x := (now - s.last) * (B.b : Int)) (by omega))
    have HW4 := Lib.hid (wrap_small (x := s.x + (now - s.last) * (B.b : Int)) (by omega))
    have HF := Lib.hid (B.fill_yes hlt)
    have HS := Lib.hid (((H.out.gr (Gr.refl w).drew).set4 (min ((B.r : Int) * (B.t : Int)) (s.x + (now - s.last) * (B.b : Int)))).set3 now)
    have HO := Lib.hid (((Only.of_gr (p := p) (o := 3) (Gr.refl w).drew).trans (only_set4 (.int .i64 (min ((B.r : Int) * (B.t : Int)) (s.x + (now - s.last) * (B.b : Int)))))).trans (only_set3 (.int .i64 now)))
    clear hok hr hx0 hx1 hm
    go_enter Tryz.func99, Tryz.ntmps99
    go_wp2
    go_still_tail 32, (by kernel_rfl)
    repeat still_step
    try rw [HW1.out]
    try rw [HW2.out]
    try rw [HW3.out]
    try rw [HW4.out]
    go_wp2
    all_goals
      go_end0
      first
        | (have hm : min ((B.r : Int) * (B.t : Int)) (s.x + (now - s.last) * (B.b : Int)) = s.x + (now - s.last) * (B.b : Int) := by omega
           rw [hm] at HS HO HF
           exact ⟨rfl, by rw [HF.out]; exact HS.out, HO.out⟩)
        | (have hm : min ((B.r : Int) * (B.t : Int)) (s.x + (now - s.last) * (B.b : Int)) = (B.r : Int) * (B.t : Int) := by omega
           rw [hm] at HS HO HF
           exact ⟨rfl, by rw [HF.out]; exact HS.out, HO.out⟩)
  · have HF := Lib.hid (B.fill_no hlt)
    rw [HF.out]
    clear hok
    go_enter Tryz.func99, Tryz.ntmps99
    go_wp2
    go_end0
    exact ⟨rfl, H.out, Only.refl _ _ _⟩

/-- What Take asks, and what is there. -/
theorem take_no (p : Nat) (B : Bkt) (s : BSt) (now n : Int) (w : World) (h : StAt w p B s) (hh : 1000000000 < now ∨ n < 0 ∨ 1000000 < n) :
    Calls Tryz.prog 97 #[.pointer (some ⟨p, 0, none⟩), .int .i64 now, .int .i64 n] w fun e w' => e = .returned (.bool false) ∧ StAt w' p B s ∧ Only p 3 w w' := by
  have H := Lib.hid h
  have HC := Lib.hid hh
  clear h
  by_cases h1 : 1000000000 < now
  · clear hh
    go_enter Tryz.func97, Tryz.ntmps97
    go_wp2
    go_ret
    exact ⟨rfl, H.out, Only.refl _ _ _⟩
  · by_cases h2 : n < 0
    · clear hh
      go_enter Tryz.func97, Tryz.ntmps97
      go_wp2
      go_ret
      exact ⟨rfl, H.out, Only.refl _ _ _⟩
    · have h3 : 1000000 < n := by omega
      clear hh
      go_enter Tryz.func97, Tryz.ntmps97
      go_wp2
      go_ret
      exact ⟨rfl, H.out, Only.refl _ _ _⟩
set_option maxRecDepth 100000 in
set_option maxHeartbeats 8000000 in
theorem take_any (p : Nat) (B : Bkt) (s : BSt) (now n : Int) (w : World) (h : StAt w p B s) (hok : B.Ok s) (hn0 : -9223372036854775808 ≤ now) :
    Calls Tryz.prog 97 #[.pointer (some ⟨p, 0, none⟩), .int .i64 now, .int .i64 n] w fun e w' => e = .returned (.bool (B.take s now n).1) ∧ StAt w' p B (B.take s now n).2 ∧ Only p 3 w w' := by
  by_cases hh : 1000000000 < now ∨ n < 0 ∨ 1000000 < n
  · have HT : Hid (B.take s now n = (false, s)) := Lib.hid (by unfold Bkt.take; rw [if_pos hh])
    rw [HT.out]
    exact take_no p B s now n w h hh
  · have g1 : ¬ 1000000000 < now := by omega
    have g2 : ¬ n < 0 := by omega
    have g3 : ¬ 1000000 < n := by omega
    have HF := Lib.hid (fill_any p B s now w h hok (by omega) hn0)
    have HOK := Lib.hid (B.fill_ok hok (now := now) (by omega))
    have hnd := B.need (n := n) (by omega)
    have HT : Hid (B.take s now n = if (B.fill s now).x < n * (B.t : Int) then (false, B.fill s now) else (true, ⟨(B.fill s now).last, (B.fill s now).x - n * (B.t : Int)⟩)) := Lib.hid (by unfold Bkt.take; rw [if_neg hh])
    have hx0 := HOK.out.x0
    have hx1 := HOK.out.x1
    have hr := B.room
    have hx2 : (B.fill s now).x ≤ 1000000000000 := by omega
    rw [HT.out]
    clear h hok hh hx1 hr HT
    generalize B.fill s now = s' at *
    generalize hm : n * (B.t : Int) = m at *
    by_cases hlt : s'.x < m
    · rw [if_pos hlt]
      go_enter Tryz.func97, Tryz.ntmps97
      go_wp2_with (go_at_call 99; refine HF.out.mono ?_; rintro e w1 ⟨rfl, hs, ho⟩; have HS := Lib.hid hs; have HO := Lib.hid ho; have c1 := hs.c1; have c4 := hs.c4; clear hs ho)
      go_ret
      exact ⟨rfl, HS.out, HO.out⟩
    · rw [if_neg hlt]
      go_enter Tryz.func97, Tryz.ntmps97
      go_wp2_with (go_at_call 99; refine HF.out.mono ?_; rintro e w1 ⟨rfl, hs, ho⟩; have HS := Lib.hid hs; have HO := Lib.hid ho; have c1 := hs.c1; have c4 := hs.c4; have f4 := hs.f4; clear hs ho)
      go_ret
      exact ⟨rfl, HS.out.set4 _, HO.out.trans (only_set4 _)⟩
end Go.Proofs.YtgifghbnpdanhaaGreatDoor
/-
  bucket.State: Has, When, and none at all.
-/
namespace Go.Proofs.YtgifghbnpdanhaaGreatDoor
open Go.RowKit Go.Extern.Stop Go.Stop Go.Extern

theorem ceil_pos {a b : Int} (hb : 0 < b) (ha : 0 < a) : max 0 (-((-a) / b)) = (a + b - 1) / b ∧ 0 ≤ (a + b - 1) / b ∧ (a + b - 1) / b ≤ a + b - 1 := by
  have h1 := Int.mul_ediv_add_emod (-a) b
  have h2 := Int.emod_nonneg (-a) (show b ≠ 0 by omega)
  have h3 := Int.emod_lt_of_pos (-a) hb
  have h4 := Int.mul_ediv_add_emod (a + b - 1) b
  have h5 := Int.emod_nonneg (a + b - 1) (show b ≠ 0 by omega)
  have h6 := Int.emod_lt_of_pos (a + b - 1) hb
  have h7 : 0 ≤ (a + b - 1) / b := Int.ediv_nonneg (by omega) (by omega)
  have h8 : (a + b - 1) / b ≤ a + b - 1 := Int.ediv_le_self _ (by omega)
  generalize (-a) / b = x at *
  generalize (a + b - 1) / b = y at *
  have h9 : b * (x + y) = b * x + b * y := Int.mul_add _ _ _
  have h10 : x + y = 0 := by
    rcases Int.lt_trichotomy (x + y) 0 with h | h | h
    · have := Int.mul_le_mul_of_nonneg_left (show x + y ≤ -1 by omega) (show (0 : Int) ≤ b by omega); omega
    · exact h
    · have := Int.mul_le_mul_of_nonneg_left (show 1 ≤ x + y by omega) (show (0 : Int) ≤ b by omega); omega
  exact ⟨by omega, h7, h8⟩
theorem ceil_neg {a b : Int} (hb : 0 < b) (ha : a ≤ 0) : max 0 (-((-a) / b)) = 0 := by
  have := Int.ediv_nonneg (show 0 ≤ -a by omega) (show (0 : Int) ≤ b by omega)
  omega
theorem tdiv_pos {a b : Int} (ha : 0 ≤ a) : a.tdiv b = a / b := Int.tdiv_eq_ediv_of_nonneg ha
/-- What is filled is not behind the time asked for. -/
theorem Bkt.fill_last (B : Bkt) (s : BSt) (now : Int) : now ≤ (B.fill s now).last := by
  unfold Bkt.fill
  split
  · exact Int.le_refl _
  · omega

set_option maxRecDepth 100000 in
set_option maxHeartbeats 8000000 in
theorem has_any (p : Nat) (B : Bkt) (s : BSt) (now : Int) (w : World) (h : StAt w p B s) (hok : B.Ok s) (hn0 : -9223372036854775808 ≤ now) :
    Calls Tryz.prog 151 #[.pointer (some ⟨p, 0, none⟩), .int .i64 now] w fun e w' => e = .returned (.int .i64 (B.has s now).1) ∧ StAt w' p B (B.has s now).2 ∧ Only p 3 w w' := by
  have H := Lib.hid h
  clear h
  by_cases h1 : 1000000000 < now
  · have HT : Hid (B.has s now = (0, s)) := Lib.hid (by unfold Bkt.has; rw [if_pos h1])
    rw [HT.out]
    clear hok
    go_enter Tryz.func151, Tryz.ntmps151
    go_wp2
    go_ret
    exact ⟨rfl, H.out, Only.refl _ _ _⟩
  · have HF := Lib.hid (fill_any p B s now w H.out hok (by omega) hn0)
    have hf := B.fill_ok hok (now := now) (by omega)
    have hx0 := hf.x0
    have hx1 := hf.x1
    have hr := B.room
    have ht := B.ht
    have HT : Hid (B.has s now = ((B.fill s now).x / (B.t : Int), B.fill s now)) := Lib.hid (by unfold Bkt.has; rw [if_neg h1])
    have hx2 : (B.fill s now).x ≤ 1000000000000 := by omega
    rw [HT.out]
    clear hok hf HT H hx1 hr
    generalize B.fill s now = s' at *
    have hdv : s'.x.tdiv (B.t : Int) = s'.x / (B.t : Int) := tdiv_pos hx0
    have hq0 : 0 ≤ s'.x / (B.t : Int) := Int.ediv_nonneg hx0 (by omega)
    have hq1 : s'.x / (B.t : Int) ≤ s'.x := Int.ediv_le_self _ hx0
    generalize s'.x / (B.t : Int) = q at *
    have ht0 : ¬ (B.t : Int) = 0 := by omega
    have ht1 : (1 : Int) ≤ (B.t : Int) := by omega
    go_enter Tryz.func151, Tryz.ntmps151
    go_wp2_with (go_at_call 99; refine HF.out.mono ?_; rintro e w1 ⟨rfl, hs, ho⟩; have HS := Lib.hid hs; have HO := Lib.hid ho; have c1 := hs.c1; have c4 := hs.c4; clear hs ho)
    go_quiet (fail)
    go_wp2
    go_ret
    exact ⟨rfl, HS.out.gr ((Gr.refl _).drewN _), HO.out.trans (.of_gr ((Gr.refl _).drewN _))⟩
theorem has_none (now : Int) (w : World) : Calls Tryz.prog 151 #[.pointer none, .int .i64 now] w fun e w' => e = .returned (.int .i64 0) ∧ w = w' := by
  go_enter Tryz.func151, Tryz.ntmps151
  go_wp2
  go_ret
  exact ⟨rfl, rfl⟩
theorem take_none (now n : Int) (w : World) : Calls Tryz.prog 97 #[.pointer none, .int .i64 now, .int .i64 n] w fun e w' => e = .returned (.bool false) ∧ w = w' := by
  go_enter Tryz.func97, Tryz.ntmps97
  go_wp2
  go_ret
  exact ⟨rfl, rfl⟩
theorem when_none (now n : Int) (w : World) : Calls Tryz.prog 98 #[.pointer none, .int .i64 now, .int .i64 n] w fun e w' => e = .returned (.tuple #[.int .i64 0, .bool false]) ∧ w = w' := by
  go_enter Tryz.func98, Tryz.ntmps98
  go_wp2
  go_ret2
  exact ⟨rfl, rfl⟩
theorem when_no (p : Nat) (B : Bkt) (s : BSt) (now n : Int) (w : World) (h : StAt w p B s) (hh : 1000000000 < now ∨ n < 0 ∨ (B.r : Int) < n) :
    Calls Tryz.prog 98 #[.pointer (some ⟨p, 0, none⟩), .int .i64 now, .int .i64 n] w fun e w' => e = .returned (.tuple #[.int .i64 0, .bool false]) ∧ StAt w' p B s ∧ Only p 3 w w' := by
  have H := Lib.hid h
  have c2 := h.c2
  clear h
  by_cases h1 : 1000000000 < now
  · clear hh
    go_enter Tryz.func98, Tryz.ntmps98
    go_wp2
    go_ret2
    exact ⟨rfl, H.out, Only.refl _ _ _⟩
  · by_cases h2 : n < 0
    · clear hh
      go_enter Tryz.func98, Tryz.ntmps98
      go_wp2
      go_ret2
      exact ⟨rfl, H.out, Only.refl _ _ _⟩
    · have h3 : (B.r : Int) < n := by omega
      clear hh
      go_enter Tryz.func98, Tryz.ntmps98
      go_wp2
      go_ret2
      exact ⟨rfl, H.out, Only.refl _ _ _⟩
set_option maxRecDepth 100000 in
set_option maxHeartbeats 8000000 in
theorem when_any (p : Nat) (B : Bkt) (s : BSt) (now n : Int) (w : World) (h : StAt w p B s) (hok : B.Ok s) (hn0 : -9223372036854775808 ≤ now) :
    Calls Tryz.prog 98 #[.pointer (some ⟨p, 0, none⟩), .int .i64 now, .int .i64 n] w fun e w' => e = .returned (.tuple #[.int .i64 (B.when s now n).1.1, .bool (B.when s now n).1.2]) ∧ StAt w' p B (B.when s now n).2 ∧ Only p 3 w w' := by
  by_cases hh : 1000000000 < now ∨ n < 0 ∨ (B.r : Int) < n
  · have HT : Hid (B.when s now n = ((0, false), s)) := Lib.hid (by unfold Bkt.when; rw [if_pos hh])
    rw [HT.out]
    exact when_no p B s now n w h hh
  · have g1 : ¬ 1000000000 < now := by omega
    have g2 : ¬ n < 0 := by omega
    have g3 : ¬ (B.r : Int) < n := by omega
    have c2 := h.c2
    have HF := Lib.hid (fill_any p B s now w h hok (by omega) hn0)
    have hf := B.fill_ok hok (now := now) (by omega)
    have hbr := B.hr
    have hnd := B.need (n := n) (by omega)
    have HT : Hid (B.when s now n = ((B.at (B.fill s now) n, true), B.fill s now)) := Lib.hid (by unfold Bkt.when; rw [if_neg hh])
    have ⟨l0, l1, hx0, hx1⟩ := hf
    have hr := B.room
    have hb := B.hb
    have hl := B.fill_last s now
    have hx2 : (B.fill s now).x ≤ 1000000000000 := by omega
    rw [HT.out]
    clear h hok hh hx1 hr HT hf
    generalize B.fill s now = s' at *
    have HAT : Hid (B.at s' n = s'.last + max 0 (-((-(n * (B.t : Int) - s'.x)) / (B.b : Int)))) := Lib.hid rfl
    have HAT2 := HAT.out
    generalize B.at s' n = at_ at *
    generalize hm : n * (B.t : Int) = m at *
    have b0 : (0 : Int) < (B.b : Int) := by omega
    have b1 : (B.b : Int) ≤ 1000000 := by omega
    have b2 : ¬ (B.b : Int) = 0 := by omega
    by_cases hlt : 0 < m - s'.x
    · have hc := ceil_pos b0 hlt
      have hdv : (m - s'.x + (B.b : Int) - 1).tdiv (B.b : Int) = (m - s'.x + (B.b : Int) - 1) / (B.b : Int) := tdiv_pos (by omega)
      rw [hc.1] at HAT2
      have hc2 := hc.2
      clear hc HAT
      generalize (m - s'.x + (B.b : Int) - 1) / (B.b : Int) = q at *
      have HA := Lib.hid HAT2
      clear HAT2
      go_enter Tryz.func98, Tryz.ntmps98
      go_wp2_with (go_at_call 99; refine HF.out.mono ?_; rintro e w1 ⟨rfl, hs, ho⟩; have HS := Lib.hid hs; have HO := Lib.hid ho; have d0 := hs.c0; have d1 := hs.c1; have d3 := hs.c3; have d4 := hs.c4; clear hs ho)
      all_goals
        go_quiet (fail)
        go_wp2
        go_quiet (fail)
        go_wp2
        go_ret2
        exact ⟨by rw [HA.out]; rfl, HS.out.gr (((Gr.refl _).drewN _).trans ((Gr.refl _).drewN _)), HO.out.trans (.of_gr (((Gr.refl _).drewN _).trans ((Gr.refl _).drewN _)))⟩
    · rw [ceil_neg b0 (by omega), Int.add_zero] at HAT2
      subst HAT2
      clear HAT
      go_enter Tryz.func98, Tryz.ntmps98
      go_wp2_with (go_at_call 99; refine HF.out.mono ?_; rintro e w1 ⟨rfl, hs, ho⟩; have HS := Lib.hid hs; have HO := Lib.hid ho; have d0 := hs.c0; have d1 := hs.c1; have d3 := hs.c3; have d4 := hs.c4; clear hs ho)
      all_goals
        go_quiet (fail)
        go_wp2
        go_ret2
        exact ⟨by (first | rfl | (rw [show s'.last = now by omega]; rfl)), HS.out.gr ((Gr.refl _).drewN _), HO.out.trans (.of_gr ((Gr.refl _).drewN _))⟩
end Go.Proofs.YtgifghbnpdanhaaGreatDoor

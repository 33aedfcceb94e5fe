/-
  bucket.State: fill, Take.
-/
import Derived.Test.YtjghgafeoimgiaaDoorBktP
import Derived.Test.YtjghgafeoimgiaaDoorBigI
import Derived.StillTailTactics
import Derived.BigQuiet
namespace Go.Proofs.YtjghgafeoimgiaaDoor
open Go.RowKit

/-- The State at block p. -/
structure StAt (w : World) (p : Nat) (B : Bkt) (s : BSt) : Prop where
  c0 : w.cell? ⟨p, 0, none⟩ = some (.int .i64 (B.b : Int))
  c1 : w.cell? ⟨p, 1, none⟩ = some (.int .i64 (B.t : Int))
  c2 : w.cell? ⟨p, 2, none⟩ = some (.int .i64 (B.r : Int))
  c3 : w.cell? ⟨p, 3, none⟩ = some (.int .i64 s.last)
  c4 : w.cell? ⟨p, 4, none⟩ = some (.int .i64 s.x)
  f3 : w.frozen? ⟨p, 3, none⟩ = false
  f4 : w.frozen? ⟨p, 4, none⟩ = false
theorem StAt.gr {w w' : World} {p : Nat} {B : Bkt} {s : BSt} (h : StAt w p B s) (k : Gr w w') : StAt w' p B s := by
  have hl := cell_lt h.c0
  exact ⟨k.cell h.c0, k.cell h.c1, k.cell h.c2, k.cell h.c3, k.cell h.c4, by rw [k.frozen (p := ⟨p, 3, none⟩) hl]; exact h.f3, by rw [k.frozen (p := ⟨p, 4, none⟩) hl]; exact h.f4⟩
theorem StAt.only {w w' : World} {p q : Nat} {B : Bkt} {s : BSt} (h : StAt w p B s) (k : Only q 3 w w') (hne : p ≠ q) : StAt w' p B s := by
  have hl := cell_lt h.c0
  exact ⟨(k.cell p 0 hl (.inl hne)).trans h.c0, (k.cell p 1 hl (.inl hne)).trans h.c1, (k.cell p 2 hl (.inl hne)).trans h.c2, (k.cell p 3 hl (.inl hne)).trans h.c3, (k.cell p 4 hl (.inl hne)).trans h.c4, (k.frozen p 3 hl).trans h.f3, (k.frozen p 4 hl).trans h.f4⟩
theorem only_set4 {w : World} {p : Nat} (v : Value) : Only p 3 w (w.setCell ⟨p, 4, none⟩ v) :=
  ⟨fun u hu hp => hu.setCell hp _, by simp, fun q i _ ho => by rw [World.cell?_setCell_other _ _ _ _ (by simp; omega)], fun q i _ => by simp, fun q _ hne => Below.heap_setCell _ _ _ _ hne⟩
theorem only_set3 {w : World} {p : Nat} (v : Value) : Only p 3 w (w.setCell ⟨p, 3, none⟩ v) :=
  ⟨fun u hu hp => hu.setCell hp _, by simp, fun q i _ ho => by rw [World.cell?_setCell_other _ _ _ _ (by simp; omega)], fun q i _ => by simp, fun q _ hne => Below.heap_setCell _ _ _ _ hne⟩
theorem StAt.set4 {w : World} {p : Nat} {B : Bkt} {s : BSt} (h : StAt w p B s) (x : Int) : StAt (w.setCell ⟨p, 4, none⟩ (.int .i64 x)) p B ⟨s.last, x⟩ :=
  ⟨by rw [World.cell?_setCell_other _ _ _ _ (by simp)]; exact h.c0, by rw [World.cell?_setCell_other _ _ _ _ (by simp)]; exact h.c1, by rw [World.cell?_setCell_other _ _ _ _ (by simp)]; exact h.c2, by rw [World.cell?_setCell_other _ _ _ _ (by simp)]; exact h.c3, World.cell?_setCell_same _ _ _ h.c4, by simpa using h.f3, by simpa using h.f4⟩
theorem StAt.set3 {w : World} {p : Nat} {B : Bkt} {s : BSt} (h : StAt w p B s) (t : Int) : StAt (w.setCell ⟨p, 3, none⟩ (.int .i64 t)) p B ⟨t, s.x⟩ :=
  ⟨by rw [World.cell?_setCell_other _ _ _ _ (by simp)]; exact h.c0, by rw [World.cell?_setCell_other _ _ _ _ (by simp)]; exact h.c1, by rw [World.cell?_setCell_other _ _ _ _ (by simp)]; exact h.c2, World.cell?_setCell_same _ _ _ h.c3, by rw [World.cell?_setCell_other _ _ _ _ (by simp)]; exact h.c4, by simpa using h.f3, by simpa using h.f4⟩

theorem wrap_small {x : Int} (h : -9223372036854775808 ≤ x ∧ x ≤ 9223372036854775807) : IntKind.i64.wrap x = x := by rw [IntKind.wrap_i64]; omega
set_option maxRecDepth 100000 in
set_option maxHeartbeats 8000000 in
theorem fill_any (p : Nat) (B : Bkt) (s : BSt) (now : Int) (w : World) (h : StAt w p B s) (hok : B.Ok s) (hn : now ≤ 1000000000) (hn0 : -9223372036854775808 ≤ now) :
    Calls Tryd.prog 28 #[.pointer (some ⟨p, 0, none⟩), .int .i64 now] w fun e w' => e = .returned (.tuple #[]) ∧ StAt w' p B (B.fill s now) ∧ Only p 3 w w' := by
  have H := Lib.hid h
  have c0 := h.c0
  have c1 := h.c1
  have c2 := h.c2
  have c3 := h.c3
  have c4 := h.c4
  have f3 := h.f3
  have f4 := h.f4
  clear h
  have l0 := hok.l0
  have l1 := hok.l1
  by_cases hlt : s.last < now
  · have hm := B.more hok hn hlt
    have hr := B.room
    have hx0 := hok.x0
    have hx1 := hok.x1
    have HW1 := Lib.hid (wrap_small (x := (B.r : Int) * (B.t : Int)) (by omega))
    have HW2 := Lib.hid (wrap_small (x := now - s.last) (by omega))
    have HW3 := Lib.hid (wrap_small (x := (now - s.last) * (B.b : Int)) (by omega))
    have HW4 := Lib.hid (wrap_small (x := s.x + (now - s.last) * (B.b : Int)) (by omega))
    have HF := Lib.hid (B.fill_yes hlt)
    have HS := Lib.hid (((H.out.gr (Gr.refl w).drew).set4 (min ((B.r : Int) * (B.t : Int)) (s.x + (now - s.last) * (B.b : Int)))).set3 now)
    have HO := Lib.hid (((Only.of_gr (p := p) (o := 3) (Gr.refl w).drew).trans (only_set4 (.int .i64 (min ((B.r : Int) * (B.t : Int)) (s.x + (now - s.last) * (B.b : Int)))))).trans (only_set3 (.int .i64 now)))
    clear hok hr hx0 hx1 hm
    go_enter Tryd.func28, Tryd.ntmps28
    go_wp2
    go_still_tail 32, (by kernel_rfl)
    repeat still_step
    try rw [HW1.out]
    try rw [HW2.out]
    try rw [HW3.out]
    try rw [HW4.out]
    go_wp2
    all_goals
      go_end0
      first
        | (have hm : min ((B.r : Int) * (B.t : Int)) (s.x + (now - s.last) * (B.b : Int)) = s.x + (now - s.last) * (B.b : Int) := by omega
           rw [hm] at HS HO HF
           exact ⟨rfl, by rw [HF.out]; exact HS.out, HO.out⟩)
        | (have hm : min ((B.r : Int) * (B.t : Int)) (s.x + (now - s.last) * (B.b : Int)) = (B.r : Int) * (B.t : Int) := by omega
           rw [hm] at HS HO HF
           exact ⟨rfl, by rw [HF.out]; exact HS.out, HO.out⟩)
  · have HF := Lib.hid (B.fill_no hlt)
    rw [HF.out]
    clear hok
    go_enter Tryd.func28, Tryd.ntmps28
    go_wp2
    go_end0
    exact ⟨rfl, H.out, Only.refl _ _ _⟩

/-- What Take asks, and what is there. -/
theorem take_no (p : Nat) (B : Bkt) (s : BSt) (now n : Int) (w : World) (h : StAt w p B s) (hh : 1000000000 < now ∨ n < 0 ∨ 1000000 < n) :
    Calls Tryd.prog 21 #[.pointer (some ⟨p, 0, none⟩), .int .i64 now, .int .i64 n] w fun e w' => e = .returned (.bool false) ∧ StAt w' p B s ∧ Only p 3 w w' := by
  have H := Lib.hid h
  have HC := Lib.hid hh
  clear h
  by_cases h1 : 1000000000 < now
  · clear hh
    go_enter Tryd.func21, Tryd.ntmps21
    go_wp2
    go_ret
    exact ⟨rfl, H.out, Only.refl _ _ _⟩
  · by_cases h2 : n < 0
    · clear hh
      go_enter Tryd.func21, Tryd.ntmps21
      go_wp2
      go_ret
      exact ⟨rfl, H.out, Only.refl _ _ _⟩
    · have h3 : 1000000 < n := by omega
      clear hh
      go_enter Tryd.func21, Tryd.ntmps21
      go_wp2
      go_ret
      exact ⟨rfl, H.out, Only.refl _ _ _⟩
set_option maxRecDepth 100000 in
set_option maxHeartbeats 8000000 in
theorem take_any (p : Nat) (B : Bkt) (s : BSt) (now n : Int) (w : World) (h : StAt w p B s) (hok : B.Ok s) (hn0 : -9223372036854775808 ≤ now) :
    Calls Tryd.prog 21 #[.pointer (some ⟨p, 0, none⟩), .int .i64 now, .int .i64 n] w fun e w' => e = .returned (.bool (B.take s now n).1) ∧ StAt w' p B (B.take s now n).2 ∧ Only p 3 w w' := by
  by_cases hh : 1000000000 < now ∨ n < 0 ∨ 1000000 < n
  · have HT : Hid (B.take s now n = (false, s)) := Lib.hid (by unfold Bkt.take; rw [if_pos hh])
    rw [HT.out]
    exact take_no p B s now n w h hh
  · have g1 : ¬ 1000000000 < now := by omega
    have g2 : ¬ n < 0 := by omega
    have g3 : ¬ 1000000 < n := by omega
    have HF := Lib.hid (fill_any p B s now w h hok (by omega) hn0)
    have HOK := Lib.hid (B.fill_ok hok (now := now) (by omega))
    have hnd := B.need (n := n) (by omega)
    have HT : Hid (B.take s now n = if (B.fill s now).x < n * (B.t : Int) then (false, B.fill s now) else (true, ⟨(B.fill s now).last, (B.fill s now).x - n * (B.t : Int)⟩)) := Lib.hid (by unfold Bkt.take; rw [if_neg hh])
    have hx0 := HOK.out.x0
    have hx1 := HOK.out.x1
    have hr := B.room
    have hx2 : (B.fill s now).x ≤ 1000000000000 := by omega
    rw [HT.out]
    clear h hok hh hx1 hr HT
    generalize B.fill s now = s' at *
    generalize hm : n * (B.t : Int) = m at *
    by_cases hlt : s'.x < m
    · rw [if_pos hlt]
      go_enter Tryd.func21, Tryd.ntmps21
      go_wp2_with (go_at_call 28; refine HF.out.mono ?_; rintro e w1 ⟨rfl, hs, ho⟩; have HS := Lib.hid hs; have HO := Lib.hid ho; have c1 := hs.c1; have c4 := hs.c4; clear hs ho)
      go_ret
      exact ⟨rfl, HS.out, HO.out⟩
    · rw [if_neg hlt]
      go_enter Tryd.func21, Tryd.ntmps21
      go_wp2_with (go_at_call 28; refine HF.out.mono ?_; rintro e w1 ⟨rfl, hs, ho⟩; have HS := Lib.hid hs; have HO := Lib.hid ho; have c1 := hs.c1; have c4 := hs.c4; have f4 := hs.f4; clear hs ho)
      go_ret
      exact ⟨rfl, HS.out.set4 _, HO.out.trans (only_set4 _)⟩
end Go.Proofs.YtjghgafeoimgiaaDoor

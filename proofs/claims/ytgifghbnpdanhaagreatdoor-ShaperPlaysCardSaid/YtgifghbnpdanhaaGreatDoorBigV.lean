/-
  millracebig.Rat: Set, Neg, Num, Denom, SetInt64, NewRat; a Rat as a value x / T.
-/
import Derived.Test.YtgifghbnpdanhaaGreatDoorBigR
import Derived.Deep.RegionWith
namespace Go.Proofs.YtgifghbnpdanhaaGreatDoor
open Go.RowKit

/-- The Rat at block p is x / T. -/
def RatV (w : World) (p : Nat) (x : Int) (T : Nat) : Prop := 0 < T ∧ ∃ a d, RatAt w p a d ∧ a * (T : Int) = x * (d : Int)
theorem RatV.gr {w w' : World} {p : Nat} {x : Int} {T : Nat} (h : RatV w p x T) (k : Gr w w') : RatV w' p x T := by
  obtain ⟨h0, a, d, h1, h2⟩ := h
  exact ⟨h0, a, d, h1.gr k, h2⟩
/-- in lowest terms neither is greater -/
theorem lowest {a x : Int} {d T : Nat} (hc : Nat.gcd a.natAbs d = 1) (hT : 0 < T) (h : a * (T : Int) = x * (d : Int)) : d ∣ T ∧ d ≤ T ∧ a.natAbs ≤ x.natAbs := by
  have h1 : a.natAbs * T = x.natAbs * d := by
    have := congrArg Int.natAbs h
    rw [Int.natAbs_mul, Int.natAbs_mul] at this
    simpa using this
  have h2 : d ∣ T := by
    have h3 : d ∣ a.natAbs * T := ⟨x.natAbs, by rw [h1, Nat.mul_comm]⟩
    exact Nat.Coprime.dvd_of_dvd_mul_left (by unfold Nat.Coprime; rw [Nat.gcd_comm]; exact hc) h3
  have h4 := Nat.le_of_dvd hT h2
  refine ⟨h2, h4, ?_⟩
  have h5 : a.natAbs * T ≤ x.natAbs * T := by rw [h1]; exact Nat.mul_le_mul_left _ h4
  exact Nat.le_of_mul_le_mul_right h5 hT
theorem RatV.congr {w : World} {p : Nat} {x y : Int} {T S : Nat} (h : RatV w p x T) (hS : 0 < S) (he : x * (S : Int) = y * (T : Int)) : RatV w p y S := by
  obtain ⟨h0, a, d, h1, h2⟩ := h
  refine ⟨hS, a, d, h1, ?_⟩
  have h3 : (a * (S : Int)) * (T : Int) = (y * (d : Int)) * (T : Int) := by
    rw [Int.mul_right_comm, h2, Int.mul_right_comm, he, Int.mul_right_comm]
  exact Int.eq_of_mul_eq_mul_right (by omega) h3
/-- what norm makes of n / m -/
theorem norm_eq {n x : Int} {m T : Nat} (hm : 0 < m) (hn : n * (T : Int) = x * (m : Int)) : (n / ((Nat.gcd n.natAbs m : Nat) : Int)) * (T : Int) = x * ((m / Nat.gcd n.natAbs m : Nat) : Int) := by
  have hg : 0 < Nat.gcd n.natAbs m := Nat.gcd_pos_of_pos_right _ hm
  obtain ⟨k, hk⟩ := Nat.gcd_dvd_right n.natAbs m
  obtain ⟨j, hj⟩ := Nat.gcd_dvd_left n.natAbs m
  have hd : ((Nat.gcd n.natAbs m : Nat) : Int) ∣ n := by
    exact Int.ofNat_dvd_left.2 (Nat.gcd_dvd_left _ _)
  generalize Nat.gcd n.natAbs m = g at *
  obtain ⟨q, hq⟩ := hd
  rw [hq, Int.mul_ediv_cancel_left _ (by omega), hk, Nat.mul_div_cancel_left _ hg]
  rw [hq, hk] at hn
  have h1 : (g : Int) * (q * (T : Int)) = (g : Int) * (x * (k : Int)) := by
    rw [← Int.mul_assoc, hn, Int.natCast_mul, Int.mul_left_comm]
  exact Int.eq_of_mul_eq_mul_left (by omega) h1

/-- The call returns a new Rat x / T. -/
def NewR (x : Int) (T : Nat) (w : World) (e : Ending) (w' : World) : Prop := ∃ p, e = .returned (.pointer (some ⟨p, 0, none⟩)) ∧ w.heap.size ≤ p ∧ RatV w' p x T ∧ Gr w w'
theorem rslot_new (w : World) {n : Nat} (hn : n = w.heap.size) : RSlot (w.alloc (.cells #[.bool false, .slice none 0 0, .bool false, .slice none 0 0] 142)) n := by
  subst hn
  exact ⟨⟨by simp, ⟨false, by simp⟩, ⟨none, 0, 0, by simp⟩, by simp, by simp⟩, ⟨by simp, ⟨false, by simp⟩, ⟨none, 0, 0, by simp⟩, by simp, by simp⟩⟩

theorem lt64 {n : Nat} (h : n < 18446744073709551616) : (n : Int) < Bp 2 := by have e : Bp 2 = 18446744073709551616 := rfl; omega
theorem lt40 {n : Nat} (h : n < 18446744073709551616) : LtB n 40 := ⟨by have := Bp_mono (show 2 ≤ 40 by omega); have := lt64 h; omega⟩
theorem normOk64 {A d : Nat} (h0 : 0 < d) (hd : d < 18446744073709551616) (hA : A < 18446744073709551616) : NormOk A d := ⟨h0, ⟨lt64 hd⟩, lt40 hA⟩
theorem i64_abs {x : Int} (h : -9223372036854775808 ≤ x ∧ x ≤ 9223372036854775807) : x.natAbs < 18446744073709551616 := by omega

set_option maxRecDepth 100000 in
set_option maxHeartbeats 8000000 in
theorem rset64_any (p : Nat) (x : Int) (w : World) (hz : RSlot w p) (hx : -9223372036854775808 ≤ x ∧ x ≤ 9223372036854775807) :
    Calls Tryz.prog 34 #[.pointer (some ⟨p, 0, none⟩), .int .i64 x] w fun e w' => e = .returned (.pointer (some ⟨p, 0, none⟩)) ∧ RatV w' p x 1 ∧ Kept p w w' := by
  have HZ := Lib.hid hz
  have HX := Lib.hid hx
  have HOK := Lib.hid (normOk64 (A := x.natAbs) (d := 1) (by omega) (by omega) (i64_abs hx))
  have HE := Lib.hid (norm_eq (n := x) (x := x) (m := 1) (T := 1) (by omega) rfl)
  clear hz hx
  go_enter Tryz.func34, Tryz.ntmps34
  have tok1 := trivial
  go_wp2_with (first
    | (go_at_call 38; have _ := tok1; refine (newInt_any x _ HX.out).mono ?_; rintro e w1 ⟨g1, rfl, _, hh, hg⟩; have H1 := Lib.hid hh.int; have HG1 := Lib.hid hg; clear hh hg tok1; have tok2 := trivial)
    | (go_at_call 38; have _ := tok2; refine (newInt_any 1 _ (by omega)).mono ?_; rintro e w2 ⟨g2, rfl, _, hh, hg⟩; have H2 := Lib.hid hh.int; have HG2 := Lib.hid (HG1.out.trans hg); have H12 := Lib.hid (H1.out.gr hg); clear hh hg tok2)
    | (go_at_call 37; refine (setFrac_any p g1 0 g2 0 x 1 _ (HZ.out.gr HG2.out) H12.out H2.out HOK.out).mono ?_; rintro e w3 ⟨rfl, hr, hk⟩; have HR := Lib.hid hr; have HK := Lib.hid ((Kept.of_gr HG2.out).trans hk); clear hr hk))
  go_ret
  exact ⟨rfl, ⟨by omega, _, _, HR.out, HE.out⟩, HK.out⟩

set_option maxRecDepth 100000 in
set_option maxHeartbeats 8000000 in
theorem newRat_any (x : Int) (T : Nat) (w : World) (hx : -9223372036854775808 ≤ x ∧ x ≤ 9223372036854775807) (hT : 0 < T) (hT' : T ≤ 9223372036854775807) :
    Calls Tryz.prog 123 #[.int .i64 x, .int .i64 (T : Int)] w (NewR x T w) := by
  have HX := Lib.hid hx
  have HT := Lib.hid (show 0 < T ∧ T ≤ 9223372036854775807 from ⟨hT, hT'⟩)
  have HOK := Lib.hid (normOk64 (A := x.natAbs) (d := T) hT (by omega) (i64_abs hx))
  have HE := Lib.hid (norm_eq (n := x) (x := x) (m := T) (T := T) hT rfl)
  have b1 : ((T : Int) == 0) = false := by simp; omega
  have HG0 := Lib.hid ((Gr.refl w).alloc (.cells #[.bool false, .slice none 0 0, .bool false, .slice none 0 0] 142))
  have HS := Lib.hid (rslot_new w rfl)
  clear hx hT hT'
  go_enter Tryz.func123, Tryz.ntmps123
  have tok1 := trivial
  go_wp2_with (first
    | (go_at_call 38; have _ := tok1; refine (newInt_any x _ HX.out).mono ?_; rintro e w1 ⟨g1, rfl, _, hh, hg⟩; have H1 := Lib.hid hh.int; have HG1 := Lib.hid hg; clear hh hg tok1; have tok2 := trivial)
    | (go_at_call 38; have _ := tok2; refine (newInt_any (T : Int) _ (by have := HT.out; omega)).mono ?_; rintro e w2 ⟨g2, rfl, _, hh, hg⟩; have H2 := Lib.hid hh.int; have HG2 := Lib.hid (HG1.out.trans hg); have H12 := Lib.hid (H1.out.gr hg); clear hh hg tok2)
    | (go_at_call 37; refine (setFrac_any w.heap.size g1 0 g2 0 x T _ (HS.out.gr HG2.out) H12.out H2.out HOK.out).mono ?_; rintro e w3 ⟨rfl, hr, hk⟩; have HR := Lib.hid hr; have HK := Lib.hid (hk.1 w (HG0.out.trans HG2.out) (Nat.le_refl _)); clear hr hk))
  go_ret
  exact ⟨_, rfl, Nat.le_refl _, ⟨HT.out.1, _, _, HR.out, HE.out⟩, HK.out⟩

set_option maxHeartbeats 4000000 in
theorem num_any (p : Nat) (w : World) : Calls Tryz.prog 129 #[.pointer (some ⟨p, 0, none⟩)] w fun e w' => e = .returned (.pointer (some ⟨p, 0, none⟩)) ∧ w = w' := by
  go_enter Tryz.func129, Tryz.ntmps129
  go_wp2
  go_ret
  exact ⟨rfl, rfl⟩
set_option maxRecDepth 100000 in
set_option maxHeartbeats 4000000 in
theorem denom_any (p : Nat) (a : Int) (d : Nat) (w : World) (h : RatAt w p a d) : Calls Tryz.prog 130 #[.pointer (some ⟨p, 0, none⟩)] w (New (d : Int) w) := by
  have H := Lib.hid h
  have HG0 := Lib.hid ((Gr.refl w).alloc (.cells #[.bool false, .slice none 0 0] 140))
  have HS := Lib.hid (slot_new w rfl)
  clear h
  go_enter Tryz.func130, Tryz.ntmps130
  go_wp2_with (first
    | (go_at_call 116; refine (den_any p a d _ (H.out.gr HG0.out)).mono ?_; rintro e w1 ⟨rfl, rfl⟩)
    | (go_at_call 43; refine (set_any w.heap.size 0 p 2 d _ HS.out (H.out.gr HG0.out).den).mono ?_; rintro e w2 ⟨rfl, hh, ho⟩; have HH := Lib.hid hh; have HO := Lib.hid (ho.gr w HG0.out (Nat.le_refl _)); clear hh ho))
  go_ret
  exact ⟨_, rfl, Nat.le_refl _, HH.out, HO.out⟩
theorem IntAt.slot {w : World} {p o : Nat} {a : Int} (h : IntAt w p o a) (h0 : w.frozen? ⟨p, o, none⟩ = false) (h1 : w.frozen? ⟨p, o + 1, none⟩ = false) : Slot w p o := by
  obtain ⟨c0, x, n, c, c1, _⟩ := h.open
  exact ⟨cell_lt c0, ⟨_, c0⟩, ⟨_, _, _, c1⟩, h0, h1⟩
theorem RSlot.of {w w' : World} {p : Nat} {a : Int} {d : Nat} (h : RSlot w p) (k : Kept p w w') (hr : RatAt w' p a d) : RSlot w' p := by
  have hk := (k.2 h.a.lt).2
  exact ⟨hr.num.slot (by rw [hk]; exact h.a.f0) (by rw [hk]; exact h.a.f1), hr.den.slot (by rw [hk]; exact h.b.f0) (by rw [hk]; exact h.b.f1)⟩

set_option maxRecDepth 100000 in
set_option maxHeartbeats 8000000 in
theorem rset_any (z p : Nat) (a : Int) (d : Nat) (w : World) (hz : RSlot w z) (h : RatAt w p a d) (hok : NormOk a.natAbs d) :
    Calls Tryz.prog 132 #[.pointer (some ⟨z, 0, none⟩), .pointer (some ⟨p, 0, none⟩)] w fun e w' => e = .returned (.pointer (some ⟨z, 0, none⟩)) ∧ RatAt w' z a d ∧ RSlot w' z ∧ Kept z w w' := by
  have HZ := Lib.hid hz
  have H := Lib.hid h
  have HOK := Lib.hid hok
  have HE : Hid (a / ((Nat.gcd a.natAbs d : Nat) : Int) = a ∧ d / Nat.gcd a.natAbs d = d) := Lib.hid (by rw [h.cop]; simp)
  clear hz h hok
  go_enter Tryz.func132, Tryz.ntmps132
  go_wp2
  go_region_with (first
    | (go_at_call 116; refine (den_any p a d _ (H.out.gr (Gr.refl w).drew)).mono ?_; rintro e w1 ⟨rfl, rfl⟩)
    | (go_at_call 37; refine (setFrac_any z p 0 p 2 a d _ (HZ.out.gr (Gr.refl w).drew) (H.out.gr (Gr.refl w).drew).num (H.out.gr (Gr.refl w).drew).den HOK.out).mono ?_; rintro e w3 ⟨rfl, hr, hk⟩; rw [HE.out.1, HE.out.2] at hr; have HR := Lib.hid hr; have HK := Lib.hid ((Kept.of_gr (Gr.refl w).drew).trans hk); clear hr hk))
  all_goals
    go_wp2
    go_ret
    exact ⟨rfl, HR.out, HZ.out.of HK.out HR.out, HK.out⟩
set_option maxRecDepth 100000 in
set_option maxHeartbeats 8000000 in
theorem rneg_any (z p : Nat) (a : Int) (d : Nat) (w : World) (hz : RSlot w z) (h : RatAt w p a d) (hok : NormOk a.natAbs d) :
    Calls Tryz.prog 121 #[.pointer (some ⟨z, 0, none⟩), .pointer (some ⟨p, 0, none⟩)] w fun e w' => e = .returned (.pointer (some ⟨z, 0, none⟩)) ∧ RatAt w' z (-a) d ∧ Kept z w w' := by
  have HZ := Lib.hid hz
  have H := Lib.hid h
  have HOK := Lib.hid hok
  clear hz h hok
  go_enter Tryz.func121, Tryz.ntmps121
  go_wp2_with (go_at_call 132; refine (rset_any z p a d _ HZ.out H.out HOK.out).mono ?_; rintro e w1 ⟨rfl, hr, hs, hk⟩; have HR := Lib.hid hr; have HS := Lib.hid hs; have HK := Lib.hid hk; clear hr hs hk)
  go_region_with (go_at_call 51; refine (neg_any z 0 z 0 a _ (HS.out.gr (Gr.refl w1).drew).a (HR.out.gr (Gr.refl w1).drew).num).mono ?_; rintro e w2 ⟨rfl, hh, ho⟩; have HH := Lib.hid hh; have HO := Lib.hid ((Only.of_gr (o := 0) (Gr.refl w1).drew).trans ho); clear hh ho)
  all_goals
    go_wp2
    go_ret
    exact ⟨rfl, ⟨HH.out.int, HR.out.den.only HS.out.a HO.out (.inr (by omega)), HR.out.pos, by rw [Int.natAbs_neg]; exact HR.out.cop⟩, HK.out.trans HO.out.kept⟩
end Go.Proofs.YtgifghbnpdanhaaGreatDoor

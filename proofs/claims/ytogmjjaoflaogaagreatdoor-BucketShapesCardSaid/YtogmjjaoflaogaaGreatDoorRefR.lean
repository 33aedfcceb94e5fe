/-
  millraceref's words on Rats: Int, Speed, mul, div, down, up.
-/
import Derived.Test.YtogmjjaoflaogaaGreatDoorBigS
import Derived.Test.YtogmjjaoflaogaaGreatDoorBigV
namespace Go.Proofs.YtogmjjaoflaogaaGreatDoor
open Go.RowKit

theorem NewR.congr {x y : Int} {T S : Nat} {w : World} {e : Ending} {w' : World} (h : NewR x T w e w') (hS : 0 < S) (he : x * (S : Int) = y * (T : Int)) : NewR y S w e w' := by
  obtain ⟨p, h1, h2, h3, h4⟩ := h
  exact ⟨p, h1, h2, h3.congr hS he, h4⟩

set_option maxRecDepth 100000 in
set_option maxHeartbeats 4000000 in
theorem refInt_any (x : Int) (w : World) (hx : -9223372036854775808 ≤ x ∧ x ≤ 9223372036854775807) :
    Calls Tryz.prog 28 #[.int .i64 x] w (NewR x 1 w) := by
  have HX := Lib.hid hx
  have HG0 := Lib.hid ((Gr.refl w).alloc (.cells #[.bool false, .slice none 0 0, .bool false, .slice none 0 0] 84))
  have HS := Lib.hid (rslot_new w rfl)
  clear hx
  go_enter Tryz.func28, Tryz.ntmps28
  go_wp2_with (go_at_call 39; refine (rset64_any w.heap.size x _ HS.out HX.out).mono ?_; rintro e w1 ⟨rfl, hr, hk⟩; have HR := Lib.hid hr; have HK := Lib.hid (hk.1 w HG0.out (Nat.le_refl _)); clear hr hk)
  go_ret
  exact ⟨_, rfl, Nat.le_refl _, HR.out, HK.out⟩

set_option maxRecDepth 100000 in
set_option maxHeartbeats 4000000 in
theorem speed_any (b t : Nat) (w : World) (hb : b ≤ 1000000) (ht : 0 < t ∧ t ≤ 1000000) :
    Calls Tryz.prog 35 #[.agg #[.int .i64 (b : Int), .int .i64 (t : Int)]] w (NewR (b : Int) t w) := by
  have HG0 := Lib.hid ((Gr.refl w).alloc (.cells #[.int .i64 (b : Int), .int .i64 (t : Int)] 23))
  go_enter Tryz.func35, Tryz.ntmps35
  go_wp2_with (go_at_call 53; refine (newRat_any (b : Int) t _ (by omega) ht.1 (by omega)).mono ?_; rintro e w1 ⟨p, rfl, hp, hr, hg⟩; have HR := Lib.hid hr; have HG := Lib.hid (HG0.out.trans hg); have HP := Lib.hid (Nat.le_trans HG0.out.size hp); clear hr hg hp)
  go_ret
  exact ⟨p, rfl, HP.out, HR.out, HG.out⟩

/-- What a product bears. -/
structure ProdOk (x y : Int) (T S : Nat) : Prop where
  fx : x.natAbs < 18446744073709551616
  fy : y.natAbs < 18446744073709551616
  ft : T < 18446744073709551616
  fs : S < 18446744073709551616
  num : x.natAbs * y.natAbs < 18446744073709551616
  den : T * S < 18446744073709551616

set_option maxRecDepth 100000 in
set_option maxHeartbeats 4000000 in
theorem refmul_any (pa pb : Nat) (x y : Int) (T S : Nat) (w : World) (hx : RatV w pa x T) (hy : RatV w pb y S) (hok : ProdOk x y T S) :
    Calls Tryz.prog 42 #[.pointer (some ⟨pa, 0, none⟩), .pointer (some ⟨pb, 0, none⟩)] w (NewR (x * y) (T * S) w) := by
  obtain ⟨hT, a, d, ha, ea⟩ := hx
  obtain ⟨hS, b, e, hb, eb⟩ := hy
  obtain ⟨_, l1, l2⟩ := lowest ha.cop hT ea
  obtain ⟨_, m1, m2⟩ := lowest hb.cop hS eb
  have hTS : 0 < T * S := Nat.mul_pos hT hS
  have hde : d * e ≤ T * S := Nat.mul_le_mul l1 m1
  have hab : a.natAbs * b.natAbs ≤ x.natAbs * y.natAbs := Nat.mul_le_mul l2 m2
  have HOK := Lib.hid (normOk64 (A := (a * b).natAbs) (d := d * e) (Nat.mul_pos ha.pos hb.pos) (by have := hok.den; omega) (by rw [Int.natAbs_mul]; have := hok.num; omega))
  have HE := Lib.hid (norm_eq (n := a * b) (x := x * y) (m := d * e) (T := T * S) (Nat.mul_pos ha.pos hb.pos) (by
    rw [Int.natCast_mul, Int.natCast_mul]
    grind))
  have B1 : LtB a.natAbs 40 := lt40 (by have := hok.fx; omega)
  have B2 : LtB b.natAbs 40 := lt40 (by have := hok.fy; omega)
  have B3 : LtB d 40 := lt40 (by have := hok.ft; omega)
  have B4 : LtB e 40 := lt40 (by have := hok.fs; omega)
  have HA := Lib.hid ha
  have HB := Lib.hid hb
  have HTS := Lib.hid hTS
  have HG0 := Lib.hid ((Gr.refl w).alloc (.cells #[.bool false, .slice none 0 0, .bool false, .slice none 0 0] 84))
  have HS := Lib.hid (rslot_new w rfl)
  clear ha hb ea eb hok l1 l2 m1 m2 hTS hde hab hT hS
  go_enter Tryz.func42, Tryz.ntmps42
  go_wp2_with (go_at_call 60; refine (rmul_any w.heap.size pa pb a b d e _ HS.out (HA.out.gr HG0.out) (HB.out.gr HG0.out) B1 B2 B3 B4 HOK.out).mono ?_; rintro e w1 ⟨rfl, hr, hk⟩; have HR := Lib.hid hr; have HK := Lib.hid (hk.1 w HG0.out (Nat.le_refl _)); clear hr hk)
  go_ret
  exact ⟨_, rfl, Nat.le_refl _, ⟨HTS.out, _, _, HR.out, HE.out⟩, HK.out⟩

set_option maxRecDepth 100000 in
set_option maxHeartbeats 4000000 in
theorem refdiv_any (pa pb : Nat) (x : Int) (y T S : Nat) (w : World) (hx : RatV w pa x T) (hy : RatV w pb (y : Int) S) (hy0 : 0 < y) (hok : ProdOk x (S : Int) T y) :
    Calls Tryz.prog 34 #[.pointer (some ⟨pa, 0, none⟩), .pointer (some ⟨pb, 0, none⟩)] w (NewR (x * (S : Int)) (T * y) w) := by
  obtain ⟨hT, a, d, ha, ea⟩ := hx
  obtain ⟨hS, b, e, hb, eb⟩ := hy
  obtain ⟨_, l1, l2⟩ := lowest ha.cop hT ea
  obtain ⟨_, m1, m2⟩ := lowest hb.cop hS eb
  have hb0 : 0 < b := by
    rcases Int.lt_trichotomy b 0 with h | h | h
    · have h1 : b * (S : Int) ≤ 0 := by
        have := Int.mul_le_mul_of_nonneg_right (show b ≤ 0 by omega) (show (0 : Int) ≤ (S : Int) by omega)
        omega
      have h2 : 0 < (y : Int) * (e : Int) := Int.mul_pos (by omega) (by have := hb.pos; omega)
      omega
    · subst h
      have h2 : 0 < (y : Int) * (e : Int) := Int.mul_pos (by omega) (by have := hb.pos; omega)
      omega
    · exact h
  obtain ⟨bn, rfl⟩ := Int.eq_ofNat_of_zero_le (Int.le_of_lt hb0)
  rw [Int.natAbs_natCast, Int.natAbs_natCast] at m2
  have hTS : 0 < T * y := Nat.mul_pos hT hy0
  have hde : d * bn ≤ T * y := Nat.mul_le_mul l1 m2
  have hab : a.natAbs * e ≤ x.natAbs * S := Nat.mul_le_mul l2 m1
  have hn := hok.num
  rw [Int.natAbs_natCast] at hn
  have HOK := Lib.hid (normOk64 (A := (a * (e : Int)).natAbs) (d := d * bn) (Nat.mul_pos ha.pos (by omega)) (by have := hok.den; omega) (by rw [Int.natAbs_mul, Int.natAbs_natCast]; omega))
  have HE := Lib.hid (norm_eq (n := a * (e : Int)) (x := x * (S : Int)) (m := d * bn) (T := T * y) (Nat.mul_pos ha.pos (by omega)) (by
    rw [Int.natCast_mul, Int.natCast_mul]
    grind))
  have B1 : LtB a.natAbs 40 := lt40 (by have := hok.fx; omega)
  have B2 : LtB (bn : Int).natAbs 40 := lt40 (by rw [Int.natAbs_natCast]; have := hok.fs; omega)
  have B3 : LtB d 40 := lt40 (by have := hok.ft; omega)
  have B4 : LtB e 40 := lt40 (by have := hok.fy; rw [Int.natAbs_natCast] at this; omega)
  have HA := Lib.hid ha
  have HB := Lib.hid hb
  have HTS := Lib.hid hTS
  have HG0 := Lib.hid ((Gr.refl w).alloc (.cells #[.bool false, .slice none 0 0, .bool false, .slice none 0 0] 84))
  have HS := Lib.hid (rslot_new w rfl)
  clear ha hb ea eb hok l1 l2 m1 m2 hTS hde hab hT hS hn hb0 hy0
  go_enter Tryz.func34, Tryz.ntmps34
  go_wp2_with (go_at_call 52; refine (rquo_any w.heap.size pa pb a (bn : Int) d e bn rfl _ HS.out (HA.out.gr HG0.out) (HB.out.gr HG0.out) B1 B2 B3 B4 HOK.out).mono ?_; rintro e w1 ⟨rfl, hr, hk⟩; have HR := Lib.hid hr; have HK := Lib.hid (hk.1 w HG0.out (Nat.le_refl _)); clear hr hk)
  go_ret
  exact ⟨_, rfl, Nat.le_refl _, ⟨HTS.out, _, _, HR.out, HE.out⟩, HK.out⟩
end Go.Proofs.YtogmjjaoflaogaaGreatDoor

/-
  millraceref's words on Rats: Int, Speed, mul, div, down, up.
-/
import Derived.Test.YtlaoapdgkkgmhaaDoorBigS
import Derived.Test.YtlaoapdgkkgmhaaDoorBigU
import Derived.Test.YtlaoapdgkkgmhaaDoorBigV
namespace Go.Proofs.YtlaoapdgkkgmhaaDoor
open Go.RowKit

theorem NewR.congr {x y : Int} {T S : Nat} {w : World} {e : Ending} {w' : World} (h : NewR x T w e w') (hS : 0 < S) (he : x * (S : Int) = y * (T : Int)) : NewR y S w e w' := by
  obtain ⟨p, h1, h2, h3, h4⟩ := h
  exact ⟨p, h1, h2, h3.congr hS he, h4⟩

set_option maxRecDepth 100000 in
set_option maxHeartbeats 4000000 in
theorem refInt_any (x : Int) (w : World) (hx : -9223372036854775808 ≤ x ∧ x ≤ 9223372036854775807) :
    Calls Tryd.prog 20 #[.int .i64 x] w (NewR x 1 w) := by
  have HX := Lib.hid hx
  have HG0 := Lib.hid ((Gr.refl w).alloc (.cells #[.bool false, .slice none 0 0, .bool false, .slice none 0 0] 57))
  have HS := Lib.hid (rslot_new w rfl)
  clear hx
  go_enter Tryd.func20, Tryd.ntmps20
  go_wp2_with (go_at_call 28; refine (rset64_any w.heap.size x _ HS.out HX.out).mono ?_; rintro e w1 ⟨rfl, hr, hk⟩; have HR := Lib.hid hr; have HK := Lib.hid (hk.1 w HG0.out (Nat.le_refl _)); clear hr hk)
  go_ret
  exact ⟨_, rfl, Nat.le_refl _, HR.out, HK.out⟩

set_option maxRecDepth 100000 in
set_option maxHeartbeats 4000000 in
theorem speed_any (b t : Nat) (w : World) (hb : b ≤ 1000000) (ht : 0 < t ∧ t ≤ 1000000) :
    Calls Tryd.prog 21 #[.agg #[.int .i64 (b : Int), .int .i64 (t : Int)]] w (NewR (b : Int) t w) := by
  have HG0 := Lib.hid ((Gr.refl w).alloc (.cells #[.int .i64 (b : Int), .int .i64 (t : Int)] 23))
  go_enter Tryd.func21, Tryd.ntmps21
  go_wp2_with (go_at_call 29; refine (newRat_any (b : Int) t _ (by omega) ht.1 (by omega)).mono ?_; rintro e w1 ⟨p, rfl, hp, hr, hg⟩; have HR := Lib.hid hr; have HG := Lib.hid (HG0.out.trans hg); have HP := Lib.hid (Nat.le_trans HG0.out.size hp); clear hr hg hp)
  go_ret
  exact ⟨p, rfl, HP.out, HR.out, HG.out⟩

/-- What a product bears. -/
structure ProdOk (x y : Int) (T S : Nat) : Prop where
  fx : x.natAbs < 18446744073709551616
  fy : y.natAbs < 18446744073709551616
  ft : T < 18446744073709551616
  fs : S < 18446744073709551616
  num : x.natAbs * y.natAbs < 18446744073709551616
  den : T * S < 18446744073709551616

set_option maxRecDepth 100000 in
set_option maxHeartbeats 4000000 in
theorem refmul_any (pa pb : Nat) (x y : Int) (T S : Nat) (w : World) (hx : RatV w pa x T) (hy : RatV w pb y S) (hok : ProdOk x y T S) :
    Calls Tryd.prog 23 #[.pointer (some ⟨pa, 0, none⟩), .pointer (some ⟨pb, 0, none⟩)] w (NewR (x * y) (T * S) w) := by
  obtain ⟨hT, a, d, ha, ea⟩ := hx
  obtain ⟨hS, b, e, hb, eb⟩ := hy
  obtain ⟨_, l1, l2⟩ := lowest ha.cop hT ea
  obtain ⟨_, m1, m2⟩ := lowest hb.cop hS eb
  have hTS : 0 < T * S := Nat.mul_pos hT hS
  have hde : d * e ≤ T * S := Nat.mul_le_mul l1 m1
  have hab : a.natAbs * b.natAbs ≤ x.natAbs * y.natAbs := Nat.mul_le_mul l2 m2
  have HOK := Lib.hid (normOk64 (A := (a * b).natAbs) (d := d * e) (Nat.mul_pos ha.pos hb.pos) (by have := hok.den; omega) (by rw [Int.natAbs_mul]; have := hok.num; omega))
  have HE := Lib.hid (norm_eq (n := a * b) (x := x * y) (m := d * e) (T := T * S) (Nat.mul_pos ha.pos hb.pos) (by
    rw [Int.natCast_mul, Int.natCast_mul]
    grind))
  have B1 : LtB a.natAbs 40 := lt40 (by have := hok.fx; omega)
  have B2 : LtB b.natAbs 40 := lt40 (by have := hok.fy; omega)
  have B3 : LtB d 40 := lt40 (by have := hok.ft; omega)
  have B4 : LtB e 40 := lt40 (by have := hok.fs; omega)
  have HA := Lib.hid ha
  have HB := Lib.hid hb
  have HTS := Lib.hid hTS
  have HG0 := Lib.hid ((Gr.refl w).alloc (.cells #[.bool false, .slice none 0 0, .bool false, .slice none 0 0] 57))
  have HS := Lib.hid (rslot_new w rfl)
  clear ha hb ea eb hok l1 l2 m1 m2 hTS hde hab hT hS
  go_enter Tryd.func23, Tryd.ntmps23
  go_wp2_with (go_at_call 34; refine (rmul_any w.heap.size pa pb a b d e _ HS.out (HA.out.gr HG0.out) (HB.out.gr HG0.out) B1 B2 B3 B4 HOK.out).mono ?_; rintro e w1 ⟨rfl, hr, hk⟩; have HR := Lib.hid hr; have HK := Lib.hid (hk.1 w HG0.out (Nat.le_refl _)); clear hr hk)
  go_ret
  exact ⟨_, rfl, Nat.le_refl _, ⟨HTS.out, _, _, HR.out, HE.out⟩, HK.out⟩

set_option maxRecDepth 100000 in
set_option maxHeartbeats 4000000 in
theorem refdiv_any (pa pb : Nat) (x : Int) (y T S : Nat) (w : World) (hx : RatV w pa x T) (hy : RatV w pb (y : Int) S) (hy0 : 0 < y) (hok : ProdOk x (S : Int) T y) :
    Calls Tryd.prog 19 #[.pointer (some ⟨pa, 0, none⟩), .pointer (some ⟨pb, 0, none⟩)] w (NewR (x * (S : Int)) (T * y) w) := by
  obtain ⟨hT, a, d, ha, ea⟩ := hx
  obtain ⟨hS, b, e, hb, eb⟩ := hy
  obtain ⟨_, l1, l2⟩ := lowest ha.cop hT ea
  obtain ⟨_, m1, m2⟩ := lowest hb.cop hS eb
  have hb0 : 0 < b := by
    rcases Int.lt_trichotomy b 0 with h | h | h
    · have h1 : b * (S : Int) ≤ 0 := by
        have := Int.mul_le_mul_of_nonneg_right (show b ≤ 0 by omega) (show (0 : Int) ≤ (S : Int) by omega)
        omega
      have h2 : 0 < (y : Int) * (e : Int) := Int.mul_pos (by omega) (by have := hb.pos; omega)
      omega
    · subst h
      have h2 : 0 < (y : Int) * (e : Int) := Int.mul_pos (by omega) (by have := hb.pos; omega)
      omega
    · exact h
  obtain ⟨bn, rfl⟩ := Int.eq_ofNat_of_zero_le (Int.le_of_lt hb0)
  rw [Int.natAbs_natCast, Int.natAbs_natCast] at m2
  have hTS : 0 < T * y := Nat.mul_pos hT hy0
  have hde : d * bn ≤ T * y := Nat.mul_le_mul l1 m2
  have hab : a.natAbs * e ≤ x.natAbs * S := Nat.mul_le_mul l2 m1
  have hn := hok.num
  rw [Int.natAbs_natCast] at hn
  have HOK := Lib.hid (normOk64 (A := (a * (e : Int)).natAbs) (d := d * bn) (Nat.mul_pos ha.pos (by omega)) (by have := hok.den; omega) (by rw [Int.natAbs_mul, Int.natAbs_natCast]; omega))
  have HE := Lib.hid (norm_eq (n := a * (e : Int)) (x := x * (S : Int)) (m := d * bn) (T := T * y) (Nat.mul_pos ha.pos (by omega)) (by
    rw [Int.natCast_mul, Int.natCast_mul]
    grind))
  have B1 : LtB a.natAbs 40 := lt40 (by have := hok.fx; omega)
  have B2 : LtB (bn : Int).natAbs 40 := lt40 (by rw [Int.natAbs_natCast]; have := hok.fs; omega)
  have B3 : LtB d 40 := lt40 (by have := hok.ft; omega)
  have B4 : LtB e 40 := lt40 (by have := hok.fy; rw [Int.natAbs_natCast] at this; omega)
  have HA := Lib.hid ha
  have HB := Lib.hid hb
  have HTS := Lib.hid hTS
  have HG0 := Lib.hid ((Gr.refl w).alloc (.cells #[.bool false, .slice none 0 0, .bool false, .slice none 0 0] 57))
  have HS := Lib.hid (rslot_new w rfl)
  clear ha hb ea eb hok l1 l2 m1 m2 hTS hde hab hT hS hn hb0 hy0
  go_enter Tryd.func19, Tryd.ntmps19
  go_wp2_with (go_at_call 27; refine (rquo_any w.heap.size pa pb a (bn : Int) d e bn rfl _ HS.out (HA.out.gr HG0.out) (HB.out.gr HG0.out) B1 B2 B3 B4 HOK.out).mono ?_; rintro e w1 ⟨rfl, hr, hk⟩; have HR := Lib.hid hr; have HK := Lib.hid (hk.1 w HG0.out (Nat.le_refl _)); clear hr hk)
  go_ret
  exact ⟨_, rfl, Nat.le_refl _, ⟨HTS.out, _, _, HR.out, HE.out⟩, HK.out⟩

theorem ediv_same {a x : Int} {d T : Nat} (hd : 0 < d) (hT : 0 < T) (h : a * (T : Int) = x * (d : Int)) : a / (d : Int) = x / (T : Int) := by
  have h1 : (a * (T : Int)) / ((d : Int) * (T : Int)) = a / (d : Int) := Int.mul_ediv_mul_of_pos_left _ _ (by omega)
  have h2 : (x * (d : Int)) / ((T : Int) * (d : Int)) = x / (T : Int) := Int.mul_ediv_mul_of_pos_left _ _ (by omega)
  rw [← h1, ← h2, h, Int.mul_comm (d : Int)]

set_option maxRecDepth 100000 in
set_option maxHeartbeats 4000000 in
theorem down_at (p : Nat) (a : Int) (d : Nat) (w : World) (h : RatAt w p a d) (ha : a.natAbs < 9223372036854775808) (hd : d < 18446744073709551616) :
    Calls Tryd.prog 22 #[.pointer (some ⟨p, 0, none⟩)] w fun e w' => e = .returned (.int .i64 (a / (d : Int))) ∧ Gr w w' := by
  have H := Lib.hid h
  have HG0 := Lib.hid ((Gr.refl w).alloc (.cells #[.bool false, .slice none 0 0] 55))
  have HS := Lib.hid (slot_new w rfl)
  have hd0 := h.pos
  have HD0 := Lib.hid (show (0 : Int) < (d : Int) by omega)
  have HDV := Lib.hid (show DivOk a.natAbs (d : Int).natAbs from by rw [Int.natAbs_natCast]; exact ⟨hd0, .inr (.inl (lt64 (by omega)))⟩)
  have B1 : LtB (a.tdiv (d : Int)).natAbs 40 := lt40 (by have h1 : (a.tdiv (d : Int)).natAbs = a.natAbs / (d : Int).natAbs := Int.natAbs_tdiv _ _; rw [h1]; have := Nat.div_le_self a.natAbs (d : Int).natAbs; omega)
  have B2 : LtB (a.tmod (d : Int)).natAbs 40 := lt40 (by have h1 : (a.tmod (d : Int)).natAbs = a.natAbs % (d : Int).natAbs := Int.natAbs_tmod _ _; rw [h1]; have := Nat.mod_le a.natAbs (d : Int).natAbs; omega)
  have B3 : LtB (d : Int).natAbs 40 := lt40 (by rw [Int.natAbs_natCast]; exact hd)
  have HQ : Hid ((a / (d : Int)).natAbs < 9223372036854775808) := Lib.hid (by
    have h1 : a / (d : Int) ≤ a.natAbs := by
      rcases Int.lt_or_le a 0 with h2 | h2
      · have := Int.ediv_neg_of_neg_of_pos h2 (show (0 : Int) < (d : Int) by omega); omega
      · have := Int.ediv_le_self (d : Int) h2; omega
    have h3 : -(a.natAbs : Int) ≤ a / (d : Int) := by
      rw [Int.le_ediv_iff_mul_le (by omega)]
      have : (a.natAbs : Int) * 1 ≤ (a.natAbs : Int) * (d : Int) := Int.mul_le_mul_of_nonneg_left (by omega) (by omega)
      rw [Int.neg_mul]
      omega
    omega)
  clear h ha hd hd0
  go_enter Tryd.func22, Tryd.ntmps22
  go_wp2_with (first
    | (go_at_call 31; refine (num_any p _).mono ?_; rintro e w1 ⟨rfl, rfl⟩)
    | (go_at_call 32; refine (denom_any p a d _ (H.out.gr HG0.out)).mono ?_; rintro e w1 ⟨q, rfl, _, hh, hg⟩; have HD := Lib.hid hh.int; have HG1 := Lib.hid (HG0.out.trans hg); have HN := Lib.hid ((H.out.gr HG0.out).num.gr hg); have HS1 := Lib.hid (HS.out.gr hg); clear hh hg)
    | (go_at_call 30; refine (idiv_any w.heap.size p 0 q 0 a (d : Int) _ HS1.out HN.out HD.out HD0.out HDV.out B1 B2 B3).mono ?_; rintro e w2 ⟨rfl, hh, hk⟩; have HH := Lib.hid hh.int; have HG2 := Lib.hid (hk w HG1.out (Nat.le_refl _)); clear hh hk)
    | (go_at_call 33; refine (i64_any w.heap.size 0 _ _ HH.out HQ.out).mono ?_; rintro e w3 ⟨rfl, hg⟩; have HG3 := Lib.hid (HG2.out.trans hg); clear hg))
  go_ret
  exact ⟨rfl, HG3.out⟩
theorem down_any (p : Nat) (x : Int) (T : Nat) (w : World) (h : RatV w p x T) (hx : x.natAbs < 9223372036854775808) (hT : T < 18446744073709551616) :
    Calls Tryd.prog 22 #[.pointer (some ⟨p, 0, none⟩)] w fun e w' => e = .returned (.int .i64 (x / (T : Int))) ∧ Gr w w' := by
  obtain ⟨h0, a, d, ha, e⟩ := h
  obtain ⟨_, l1, l2⟩ := lowest ha.cop h0 e
  rw [← ediv_same ha.pos h0 e]
  exact down_at p a d w ha (by omega) (by omega)
end Go.Proofs.YtlaoapdgkkgmhaaDoor

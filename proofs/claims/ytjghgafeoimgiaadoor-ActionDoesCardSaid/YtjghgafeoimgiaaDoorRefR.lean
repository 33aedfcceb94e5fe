/-
  millraceref's words on Rats: Int, Speed, mul, div, down, up.
-/
import Derived.Test.YtjghgafeoimgiaaDoorBigS
import Derived.Test.YtjghgafeoimgiaaDoorBigV
namespace Go.Proofs.YtjghgafeoimgiaaDoor
open Go.RowKit

theorem NewR.congr {x y : Int} {T S : Nat} {w : World} {e : Ending} {w' : World} (h : NewR x T w e w') (hS : 0 < S) (he : x * (S : Int) = y * (T : Int)) : NewR y S w e w' := by
  obtain ⟨p, h1, h2, h3, h4⟩ := h
  exact ⟨p, h1, h2, h3.congr hS he, h4⟩

set_option maxRecDepth 100000 in
set_option maxHeartbeats 4000000 in
theorem refInt_any (x : Int) (w : World) (hx : -9223372036854775808 ≤ x ∧ x ≤ 9223372036854775807) :
    Calls Tryd.prog 19 #[.int .i64 x] w (NewR x 1 w) := by
  have HX := Lib.hid hx
  have HG0 := Lib.hid ((Gr.refl w).alloc (.cells #[.bool false, .slice none 0 0, .bool false, .slice none 0 0] 99))
  have HS := Lib.hid (rslot_new w rfl)
  clear hx
  go_enter Tryd.func19, Tryd.ntmps19
  go_wp2_with (go_at_call 27; refine (rset64_any w.heap.size x _ HS.out HX.out).mono ?_; rintro e w1 ⟨rfl, hr, hk⟩; have HR := Lib.hid hr; have HK := Lib.hid (hk.1 w HG0.out (Nat.le_refl _)); clear hr hk)
  go_ret
  exact ⟨_, rfl, Nat.le_refl _, HR.out, HK.out⟩

set_option maxRecDepth 100000 in
set_option maxHeartbeats 4000000 in
theorem speed_any (b t : Nat) (w : World) (hb : b ≤ 1000000) (ht : 0 < t ∧ t ≤ 1000000) :
    Calls Tryd.prog 39 #[.agg #[.int .i64 (b : Int), .int .i64 (t : Int)]] w (NewR (b : Int) t w) := by
  have HG0 := Lib.hid ((Gr.refl w).alloc (.cells #[.int .i64 (b : Int), .int .i64 (t : Int)] 31))
  go_enter Tryd.func39, Tryd.ntmps39
  go_wp2_with (go_at_call 53; refine (newRat_any (b : Int) t _ (by omega) ht.1 (by omega)).mono ?_; rintro e w1 ⟨p, rfl, hp, hr, hg⟩; have HR := Lib.hid hr; have HG := Lib.hid (HG0.out.trans hg); have HP := Lib.hid (Nat.le_trans HG0.out.size hp); clear hr hg hp)
  go_ret
  exact ⟨p, rfl, HP.out, HR.out, HG.out⟩

/-- What a product bears. -/
structure ProdOk (x y : Int) (T S : Nat) : Prop where
  fx : x.natAbs < 18446744073709551616
  fy : y.natAbs < 18446744073709551616
  ft : T < 18446744073709551616
  fs : S < 18446744073709551616
  num : x.natAbs * y.natAbs < 18446744073709551616
  den : T * S < 18446744073709551616

set_option maxRecDepth 100000 in
set_option maxHeartbeats 4000000 in
theorem refmul_any (pa pb : Nat) (x y : Int) (T S : Nat) (w : World) (hx : RatV w pa x T) (hy : RatV w pb y S) (hok : ProdOk x y T S) :
    Calls Tryd.prog 38 #[.pointer (some ⟨pa, 0, none⟩), .pointer (some ⟨pb, 0, none⟩)] w (NewR (x * y) (T * S) w) := by
  obtain ⟨hT, a, d, ha, ea⟩ := hx
  obtain ⟨hS, b, e, hb, eb⟩ := hy
  obtain ⟨_, l1, l2⟩ := lowest ha.cop hT ea
  obtain ⟨_, m1, m2⟩ := lowest hb.cop hS eb
  have hTS : 0 < T * S := Nat.mul_pos hT hS
  have hde : d * e ≤ T * S := Nat.mul_le_mul l1 m1
  have hab : a.natAbs * b.natAbs ≤ x.natAbs * y.natAbs := Nat.mul_le_mul l2 m2
  have HOK := Lib.hid (normOk64 (A := (a * b).natAbs) (d := d * e) (Nat.mul_pos ha.pos hb.pos) (by have := hok.den; omega) (by rw [Int.natAbs_mul]; have := hok.num; omega))
  have HE := Lib.hid (norm_eq (n := a * b) (x := x * y) (m := d * e) (T := T * S) (Nat.mul_pos ha.pos hb.pos) (by
    rw [Int.natCast_mul, Int.natCast_mul]
    grind))
  have B1 : LtB a.natAbs 40 := lt40 (by have := hok.fx; omega)
  have B2 : LtB b.natAbs 40 := lt40 (by have := hok.fy; omega)
  have B3 : LtB d 40 := lt40 (by have := hok.ft; omega)
  have B4 : LtB e 40 := lt40 (by have := hok.fs; omega)
  have HA := Lib.hid ha
  have HB := Lib.hid hb
  have HTS := Lib.hid hTS
  have HG0 := Lib.hid ((Gr.refl w).alloc (.cells #[.bool false, .slice none 0 0, .bool false, .slice none 0 0] 99))
  have HS := Lib.hid (rslot_new w rfl)
  clear ha hb ea eb hok l1 l2 m1 m2 hTS hde hab hT hS
  go_enter Tryd.func38, Tryd.ntmps38
  go_wp2_with (go_at_call 52; refine (rmul_any w.heap.size pa pb a b d e _ HS.out (HA.out.gr HG0.out) (HB.out.gr HG0.out) B1 B2 B3 B4 HOK.out).mono ?_; rintro e w1 ⟨rfl, hr, hk⟩; have HR := Lib.hid hr; have HK := Lib.hid (hk.1 w HG0.out (Nat.le_refl _)); clear hr hk)
  go_ret
  exact ⟨_, rfl, Nat.le_refl _, ⟨HTS.out, _, _, HR.out, HE.out⟩, HK.out⟩

end Go.Proofs.YtjghgafeoimgiaaDoor

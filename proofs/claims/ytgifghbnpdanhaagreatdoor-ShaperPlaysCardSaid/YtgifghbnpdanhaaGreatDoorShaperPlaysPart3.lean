/-
  millraceref's words on Rats: Int, Speed, mul, div, down, up.
-/
import Derived.Test.YtgifghbnpdanhaaGreatDoorBigS
import Derived.Test.YtgifghbnpdanhaaGreatDoorBigV
import Derived.Test.YtgifghbnpdanhaaGreatDoorBigAC
import Derived.Test.YtgifghbnpdanhaaGreatDoorBigAA
namespace Go.Proofs.YtgifghbnpdanhaaGreatDoor
open Go.RowKit

theorem NewR.congr {x y : Int} {T S : Nat} {w : World} {e : Ending} {w' : World} (h : NewR x T w e w') (hS : 0 < S) (he : x * (S : Int) = y * (T : Int)) : NewR y S w e w' := by
  obtain ⟨p, h1, h2, h3, h4⟩ := h
  exact ⟨p, h1, h2, h3.congr hS he, h4⟩

set_option maxRecDepth 100000 in
set_option maxHeartbeats 4000000 in
theorem refInt_any (x : Int) (w : World) (hx : -9223372036854775808 ≤ x ∧ x ≤ 9223372036854775807) :
    Calls Tryz.prog 28 #[.int .i64 x] w (NewR x 1 w) := by
  have HX := Lib.hid hx
  have HG0 := Lib.hid ((Gr.refl w).alloc (.cells #[.bool false, .slice none 0 0, .bool false, .slice none 0 0] 142))
  have HS := Lib.hid (rslot_new w rfl)
  clear hx
  go_enter Tryz.func28, Tryz.ntmps28
  go_wp2_with (go_at_call 34; refine (rset64_any w.heap.size x _ HS.out HX.out).mono ?_; rintro e w1 ⟨rfl, hr, hk⟩; have HR := Lib.hid hr; have HK := Lib.hid (hk.1 w HG0.out (Nat.le_refl _)); clear hr hk)
  go_ret
  exact ⟨_, rfl, Nat.le_refl _, HR.out, HK.out⟩

set_option maxRecDepth 100000 in
set_option maxHeartbeats 4000000 in
theorem speed_any (b t : Nat) (w : World) (hb : b ≤ 1000000) (ht : 0 < t ∧ t ≤ 1000000) :
    Calls Tryz.prog 112 #[.agg #[.int .i64 (b : Int), .int .i64 (t : Int)]] w (NewR (b : Int) t w) := by
  have HG0 := Lib.hid ((Gr.refl w).alloc (.cells #[.int .i64 (b : Int), .int .i64 (t : Int)] 23))
  go_enter Tryz.func112, Tryz.ntmps112
  go_wp2_with (go_at_call 123; refine (newRat_any (b : Int) t _ (by omega) ht.1 (by omega)).mono ?_; rintro e w1 ⟨p, rfl, hp, hr, hg⟩; have HR := Lib.hid hr; have HG := Lib.hid (HG0.out.trans hg); have HP := Lib.hid (Nat.le_trans HG0.out.size hp); clear hr hg hp)
  go_ret
  exact ⟨p, rfl, HP.out, HR.out, HG.out⟩

/-- What a product bears. -/
structure ProdOk (x y : Int) (T S : Nat) : Prop where
  fx : x.natAbs < 18446744073709551616
  fy : y.natAbs < 18446744073709551616
  ft : T < 18446744073709551616
  fs : S < 18446744073709551616
  num : x.natAbs * y.natAbs < 18446744073709551616
  den : T * S < 18446744073709551616

set_option maxRecDepth 100000 in
set_option maxHeartbeats 4000000 in
theorem refmul_any (pa pb : Nat) (x y : Int) (T S : Nat) (w : World) (hx : RatV w pa x T) (hy : RatV w pb y S) (hok : ProdOk x y T S) :
    Calls Tryz.prog 115 #[.pointer (some ⟨pa, 0, none⟩), .pointer (some ⟨pb, 0, none⟩)] w (NewR (x * y) (T * S) w) := by
  obtain ⟨hT, a, d, ha, ea⟩ := hx
  obtain ⟨hS, b, e, hb, eb⟩ := hy
  obtain ⟨_, l1, l2⟩ := lowest ha.cop hT ea
  obtain ⟨_, m1, m2⟩ := lowest hb.cop hS eb
  have hTS : 0 < T * S := Nat.mul_pos hT hS
  have hde : d * e ≤ T * S := Nat.mul_le_mul l1 m1
  have hab : a.natAbs * b.natAbs ≤ x.natAbs * y.natAbs := Nat.mul_le_mul l2 m2
  have HOK := Lib.hid (normOk64 (A := (a * b).natAbs) (d := d * e) (Nat.mul_pos ha.pos hb.pos) (by have := hok.den; omega) (by rw [Int.natAbs_mul]; have := hok.num; omega))
  have HE := Lib.hid (norm_eq (n := a * b) (x := x * y) (m := d * e) (T := T * S) (Nat.mul_pos ha.pos hb.pos) (by
    rw [Int.natCast_mul, Int.natCast_mul]
    grind))
  have B1 : LtB a.natAbs 40 := lt40 (by have := hok.fx; omega)
  have B2 : LtB b.natAbs 40 := lt40 (by have := hok.fy; omega)
  have B3 : LtB d 40 := lt40 (by have := hok.ft; omega)
  have B4 : LtB e 40 := lt40 (by have := hok.fs; omega)
  have HA := Lib.hid ha
  have HB := Lib.hid hb
  have HTS := Lib.hid hTS
  have HG0 := Lib.hid ((Gr.refl w).alloc (.cells #[.bool false, .slice none 0 0, .bool false, .slice none 0 0] 142))
  have HS := Lib.hid (rslot_new w rfl)
  clear ha hb ea eb hok l1 l2 m1 m2 hTS hde hab hT hS
  go_enter Tryz.func115, Tryz.ntmps115
  go_wp2_with (go_at_call 125; refine (rmul_any w.heap.size pa pb a b d e _ HS.out (HA.out.gr HG0.out) (HB.out.gr HG0.out) B1 B2 B3 B4 HOK.out).mono ?_; rintro e w1 ⟨rfl, hr, hk⟩; have HR := Lib.hid hr; have HK := Lib.hid (hk.1 w HG0.out (Nat.le_refl _)); clear hr hk)
  go_ret
  exact ⟨_, rfl, Nat.le_refl _, ⟨HTS.out, _, _, HR.out, HE.out⟩, HK.out⟩

set_option maxRecDepth 100000 in
set_option maxHeartbeats 4000000 in
theorem refdiv_any (pa pb : Nat) (x : Int) (y T S : Nat) (w : World) (hx : RatV w pa x T) (hy : RatV w pb (y : Int) S) (hy0 : 0 < y) (hok : ProdOk x (S : Int) T y) :
    Calls Tryz.prog 111 #[.pointer (some ⟨pa, 0, none⟩), .pointer (some ⟨pb, 0, none⟩)] w (NewR (x * (S : Int)) (T * y) w) := by
  obtain ⟨hT, a, d, ha, ea⟩ := hx
  obtain ⟨hS, b, e, hb, eb⟩ := hy
  obtain ⟨_, l1, l2⟩ := lowest ha.cop hT ea
  obtain ⟨_, m1, m2⟩ := lowest hb.cop hS eb
  have hb0 : 0 < b := by
    rcases Int.lt_trichotomy b 0 with h | h | h
    · have h1 : b * (S : Int) ≤ 0 := by
        have := Int.mul_le_mul_of_nonneg_right (show b ≤ 0 by omega) (show (0 : Int) ≤ (S : Int) by omega)
        omega
      have h2 : 0 < (y : Int) * (e : Int) := Int.mul_pos (by omega) (by have := hb.pos; omega)
      omega
    · subst h
      have h2 : 0 < (y : Int) * (e : Int) := Int.mul_pos (by omega) (by have := hb.pos; omega)
      omega
    · exact h
  obtain ⟨bn, rfl⟩ := Int.eq_ofNat_of_zero_le (Int.le_of_lt hb0)
  rw [Int.natAbs_natCast, Int.natAbs_natCast] at m2
  have hTS : 0 < T * y := Nat.mul_pos hT hy0
  have hde : d * bn ≤ T * y := Nat.mul_le_mul l1 m2
  have hab : a.natAbs * e ≤ x.natAbs * S := Nat.mul_le_mul l2 m1
  have hn := hok.num
  rw [Int.natAbs_natCast] at hn
  have HOK := Lib.hid (normOk64 (A := (a * (e : Int)).natAbs) (d := d * bn) (Nat.mul_pos ha.pos (by omega)) (by have := hok.den; omega) (by rw [Int.natAbs_mul, Int.natAbs_natCast]; omega))
  have HE := Lib.hid (norm_eq (n := a * (e : Int)) (x := x * (S : Int)) (m := d * bn) (T := T * y) (Nat.mul_pos ha.pos (by omega)) (by
    rw [Int.natCast_mul, Int.natCast_mul]
    grind))
  have B1 : LtB a.natAbs 40 := lt40 (by have := hok.fx; omega)
  have B2 : LtB (bn : Int).natAbs 40 := lt40 (by rw [Int.natAbs_natCast]; have := hok.fs; omega)
  have B3 : LtB d 40 := lt40 (by have := hok.ft; omega)
  have B4 : LtB e 40 := lt40 (by have := hok.fy; rw [Int.natAbs_natCast] at this; omega)
  have HA := Lib.hid ha
  have HB := Lib.hid hb
  have HTS := Lib.hid hTS
  have HG0 := Lib.hid ((Gr.refl w).alloc (.cells #[.bool false, .slice none 0 0, .bool false, .slice none 0 0] 142))
  have HS := Lib.hid (rslot_new w rfl)
  clear ha hb ea eb hok l1 l2 m1 m2 hTS hde hab hT hS hn hb0 hy0
  go_enter Tryz.func111, Tryz.ntmps111
  go_wp2_with (go_at_call 122; refine (rquo_any w.heap.size pa pb a (bn : Int) d e bn rfl _ HS.out (HA.out.gr HG0.out) (HB.out.gr HG0.out) B1 B2 B3 B4 HOK.out).mono ?_; rintro e w1 ⟨rfl, hr, hk⟩; have HR := Lib.hid hr; have HK := Lib.hid (hk.1 w HG0.out (Nat.le_refl _)); clear hr hk)
  go_ret
  exact ⟨_, rfl, Nat.le_refl _, ⟨HTS.out, _, _, HR.out, HE.out⟩, HK.out⟩
end Go.Proofs.YtgifghbnpdanhaaGreatDoor
/-
  millraceref's words on Rats: add, sub, lesser, greater; Rat.Cmp on values.
-/
namespace Go.Proofs.YtgifghbnpdanhaaGreatDoor
open Go.RowKit

theorem LtB.mono {A m n : Nat} (h : LtB A m) (k : m ≤ n) : LtB A n := ⟨Int.lt_of_lt_of_le h.lt (Bp_mono k)⟩
theorem LtB.le {A B m : Nat} (h : LtB B m) (k : A ≤ B) : LtB A m := ⟨Int.lt_of_le_of_lt (by omega) h.lt⟩
theorem LtB.mul {A B m n : Nat} (h : LtB A m) (k : LtB B n) : LtB (A * B) (m + n) := by
  refine ⟨?_⟩
  have h1 := h.lt
  have h2 := k.lt
  have p1 := Bp_pos m
  have p2 := Bp_pos n
  rw [Bp_add, Int.natCast_mul]
  have h3 : (A : Int) * (B : Int) ≤ (A : Int) * Bp n := Int.mul_le_mul_of_nonneg_left (by omega) (by omega)
  have h4 : (A : Int) * Bp n < Bp m * Bp n := Int.mul_lt_mul_of_pos_right h1 (by omega)
  omega
theorem LtB.add {A B m : Nat} (h : LtB A m) (k : LtB B m) : LtB (A + B) (m + 1) := by
  refine ⟨?_⟩
  have h1 := h.lt
  have h2 := k.lt
  rw [Bp]
  omega
theorem LtB.u64 {A : Nat} (h : A < 18446744073709551616) : LtB A 2 := ⟨lt64 h⟩

/-- What a sum bears. -/
structure SumOk (x y : Int) (T S : Nat) : Prop where
  fx : LtB x.natAbs 5
  fy : LtB y.natAbs 5
  ft : T < 18446744073709551616
  fs : S < 18446744073709551616
  den : T * S < 18446744073709551616

/-- Two Rats with what an operation on them needs. -/
structure Pair (w : World) (pa pb : Nat) (x y : Int) (T S : Nat) (a b : Int) (d e : Nat) : Prop where
  ha : RatAt w pa a d
  hb : RatAt w pb b e
  ea : a * (T : Int) = x * (d : Int)
  eb : b * (S : Int) = y * (e : Int)
  hT : 0 < T
  hS : 0 < S
  ba : LtB a.natAbs 40
  bb : LtB b.natAbs 40
  bd : LtB d 40
  be : LtB e 40
  bx : LtB (a * (e : Int)).natAbs 39
  bY : LtB (b * (d : Int)).natAbs 39
  bde : LtB (d * e) 2
theorem Pair.of {w : World} {pa pb : Nat} {x y : Int} {T S : Nat} (hx : RatV w pa x T) (hy : RatV w pb y S) (hok : SumOk x y T S) : ∃ a b d e, Pair w pa pb x y T S a b d e := by
  obtain ⟨hT, a, d, ha, ea⟩ := hx
  obtain ⟨hS, b, e, hb, eb⟩ := hy
  obtain ⟨_, l1, l2⟩ := lowest ha.cop hT ea
  obtain ⟨_, m1, m2⟩ := lowest hb.cop hS eb
  have ba := hok.fx.le l2
  have bb := hok.fy.le m2
  have bd : LtB d 2 := .u64 (by have := hok.ft; omega)
  have be : LtB e 2 := .u64 (by have := hok.fs; omega)
  refine ⟨a, b, d, e, ha, hb, ea, eb, hT, hS, ba.mono (by omega), bb.mono (by omega), bd.mono (by omega), be.mono (by omega), ?_, ?_, ?_⟩
  · rw [Int.natAbs_mul, Int.natAbs_natCast]; exact (ba.mul be).mono (by omega)
  · rw [Int.natAbs_mul, Int.natAbs_natCast]; exact (bb.mul bd).mono (by omega)
  · exact .u64 (by have := Nat.mul_le_mul l1 m1; have := hok.den; omega)

set_option maxRecDepth 100000 in
set_option maxHeartbeats 4000000 in
theorem refadd_any (pa pb : Nat) (x y : Int) (T S : Nat) (w : World) (hx : RatV w pa x T) (hy : RatV w pb y S) (hok : SumOk x y T S) :
    Calls Tryz.prog 114 #[.pointer (some ⟨pa, 0, none⟩), .pointer (some ⟨pb, 0, none⟩)] w (NewR (x * (S : Int) + y * (T : Int)) (T * S) w) := by
  obtain ⟨a, b, d, e, hp⟩ := Pair.of hx hy hok
  have HP := Lib.hid hp
  have hde : 0 < d * e := Nat.mul_pos hp.ha.pos hp.hb.pos
  have HOK : Hid (NormOk (a * (e : Int) + b * (d : Int)).natAbs (d * e)) := Lib.hid ⟨hde, hp.bde, (hp.bx.add hp.bY).le (Int.natAbs_add_le _ _)⟩
  have HE := Lib.hid (norm_eq (n := a * (e : Int) + b * (d : Int)) (x := x * (S : Int) + y * (T : Int)) (m := d * e) (T := T * S) hde (by
    have h1 := hp.ea
    have h2 := hp.eb
    rw [Int.natCast_mul, Int.natCast_mul]
    grind))
  have HTS := Lib.hid (Nat.mul_pos hp.hT hp.hS)
  have HG0 := Lib.hid ((Gr.refl w).alloc (.cells #[.bool false, .slice none 0 0, .bool false, .slice none 0 0] 142))
  have HS := Lib.hid (rslot_new w rfl)
  clear hx hy hok hp hde
  go_enter Tryz.func114, Tryz.ntmps114
  go_wp2_with (go_at_call 124; refine (radd_any w.heap.size pa pb a b d e _ HS.out (HP.out.ha.gr HG0.out) (HP.out.hb.gr HG0.out) HP.out.ba HP.out.bb HP.out.bd HP.out.be (HP.out.bx.mono (by omega)) (HP.out.bY.mono (by omega)) HOK.out).mono ?_; rintro e w1 ⟨rfl, hr, hk⟩; have HR := Lib.hid hr; have HK := Lib.hid (hk.1 w HG0.out (Nat.le_refl _)); clear hr hk)
  go_ret
  exact ⟨_, rfl, Nat.le_refl _, ⟨HTS.out, _, _, HR.out, HE.out⟩, HK.out⟩
set_option maxRecDepth 100000 in
set_option maxHeartbeats 4000000 in
theorem refsub_any (pa pb : Nat) (x y : Int) (T S : Nat) (w : World) (hx : RatV w pa x T) (hy : RatV w pb y S) (hok : SumOk x y T S) :
    Calls Tryz.prog 109 #[.pointer (some ⟨pa, 0, none⟩), .pointer (some ⟨pb, 0, none⟩)] w (NewR (x * (S : Int) - y * (T : Int)) (T * S) w) := by
  obtain ⟨a, b, d, e, hp⟩ := Pair.of hx hy hok
  have HP := Lib.hid hp
  have hde : 0 < d * e := Nat.mul_pos hp.ha.pos hp.hb.pos
  have HOK : Hid (NormOk (a * (e : Int) - b * (d : Int)).natAbs (d * e)) := Lib.hid ⟨hde, hp.bde, (hp.bx.add hp.bY).le (by omega)⟩
  have HE := Lib.hid (norm_eq (n := a * (e : Int) - b * (d : Int)) (x := x * (S : Int) - y * (T : Int)) (m := d * e) (T := T * S) hde (by
    have h1 := hp.ea
    have h2 := hp.eb
    rw [Int.natCast_mul, Int.natCast_mul]
    grind))
  have HTS := Lib.hid (Nat.mul_pos hp.hT hp.hS)
  have HG0 := Lib.hid ((Gr.refl w).alloc (.cells #[.bool false, .slice none 0 0, .bool false, .slice none 0 0] 142))
  have HS := Lib.hid (rslot_new w rfl)
  clear hx hy hok hp hde
  go_enter Tryz.func109, Tryz.ntmps109
  go_wp2_with (go_at_call 119; refine (rsub_any w.heap.size pa pb a b d e _ HS.out (HP.out.ha.gr HG0.out) (HP.out.hb.gr HG0.out) HP.out.ba HP.out.bb HP.out.bd HP.out.be (HP.out.bx.mono (by omega)) (HP.out.bY.mono (by omega)) HOK.out).mono ?_; rintro e w1 ⟨rfl, hr, hk⟩; have HR := Lib.hid hr; have HK := Lib.hid (hk.1 w HG0.out (Nat.le_refl _)); clear hr hk)
  go_ret
  exact ⟨_, rfl, Nat.le_refl _, ⟨HTS.out, _, _, HR.out, HE.out⟩, HK.out⟩
/-- Rat.Cmp at two values. -/
theorem ratcmp_any (pa pb : Nat) (x y : Int) (T S : Nat) (w : World) (hx : RatV w pa x T) (hy : RatV w pb y S) (hok : SumOk x y T S) :
    Calls Tryz.prog 108 #[.pointer (some ⟨pa, 0, none⟩), .pointer (some ⟨pb, 0, none⟩)] w fun e w' => e = .returned (.int .i64 (sg (x * (S : Int)) (y * (T : Int)))) ∧ Gr w w' := by
  obtain ⟨a, b, d, e, hp⟩ := Pair.of hx hy hok
  have h0 : sg (a * (e : Int)) (b * (d : Int)) = sg (x * (S : Int)) (y * (T : Int)) := by
    have hT := hp.hT
    have hS := hp.hS
    have hd := hp.ha.pos
    have he := hp.hb.pos
    rw [← sg_mul (a := a * (e : Int)) (d := (T : Int) * (S : Int)) (Int.mul_pos (by omega) (by omega)), ← sg_mul (a := x * (S : Int)) (d := (d : Int) * (e : Int)) (Int.mul_pos (by omega) (by omega))]
    have h1 := hp.ea
    have h2 := hp.eb
    congr 1 <;> grind
  rw [← h0]
  exact rcmp_any pa pb a b d e w hp.ha hp.hb hp.ba hp.bb hp.bd hp.be

/-- The call returns one of the two: the Rat X / N. -/
def OldR (X : Int) (N : Nat) (w : World) (e : Ending) (w' : World) : Prop := ∃ p, e = .returned (.pointer (some ⟨p, 0, none⟩)) ∧ RatV w' p X N ∧ Gr w w'
set_option maxHeartbeats 4000000 in
theorem lesser_any (pa pb : Nat) (x y : Int) (T S : Nat) (w : World) (hx : RatV w pa x T) (hy : RatV w pb y S) (hok : SumOk x y T S) :
    Calls Tryz.prog 113 #[.pointer (some ⟨pa, 0, none⟩), .pointer (some ⟨pb, 0, none⟩)] w (OldR (min (x * (S : Int)) (y * (T : Int))) (T * S) w) := by
  have HX := Lib.hid hx
  have HY := Lib.hid hy
  have HC := Lib.hid (ratcmp_any pa pb x y T S w hx hy hok)
  have HTS := Lib.hid (Nat.mul_pos hx.1 hy.1)
  clear hx hy hok
  by_cases h : x * (S : Int) < y * (T : Int)
  · have HS := Lib.hid (sg_lt h)
    have HM : Hid (min (x * (S : Int)) (y * (T : Int)) = x * (S : Int)) := Lib.hid (by omega)
    clear h
    rw [HM.out]
    go_enter Tryz.func113, Tryz.ntmps113
    go_wp2_with (go_at_call 108; refine HC.out.mono ?_; rintro e w1 ⟨rfl, hg⟩; rw [HS.out]; have HG := Lib.hid hg; clear hg)
    go_ret
    exact ⟨_, rfl, (HX.out.gr HG.out).congr HTS.out (by rw [Int.natCast_mul]; grind), HG.out⟩
  · have HS : Hid (0 ≤ sg (x * (S : Int)) (y * (T : Int))) := Lib.hid (by unfold sg; rw [if_neg h]; split <;> omega)
    have HM : Hid (min (x * (S : Int)) (y * (T : Int)) = y * (T : Int)) := Lib.hid (by omega)
    clear h
    rw [HM.out]
    generalize sg (x * (S : Int)) (y * (T : Int)) = s at *
    have hs := HS.out
    go_enter Tryz.func113, Tryz.ntmps113
    go_wp2_with (go_at_call 108; refine HC.out.mono ?_; rintro e w1 ⟨rfl, hg⟩; have HG := Lib.hid hg; clear hg)
    go_ret
    exact ⟨_, rfl, (HY.out.gr HG.out).congr HTS.out (by rw [Int.natCast_mul]; grind), HG.out⟩
end Go.Proofs.YtgifghbnpdanhaaGreatDoor

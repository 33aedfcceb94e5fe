/-
  millraceref's words on Rats: add, sub, lesser, greater; Rat.Cmp on values.
-/
import Derived.Test.YtjghgafeoimgiaaDoorRefR
import Derived.Test.YtjghgafeoimgiaaDoorBigAC
import Derived.Test.YtjghgafeoimgiaaDoorBigAA
namespace Go.Proofs.YtjghgafeoimgiaaDoor
open Go.RowKit

theorem LtB.mono {A m n : Nat} (h : LtB A m) (k : m ≤ n) : LtB A n := ⟨Int.lt_of_lt_of_le h.lt (Bp_mono k)⟩
theorem LtB.le {A B m : Nat} (h : LtB B m) (k : A ≤ B) : LtB A m := ⟨Int.lt_of_le_of_lt (by omega) h.lt⟩
theorem LtB.mul {A B m n : Nat} (h : LtB A m) (k : LtB B n) : LtB (A * B) (m + n) := by
  refine ⟨?_⟩
  have h1 := h.lt
  have h2 := k.lt
  have p1 := Bp_pos m
  have p2 := Bp_pos n
  rw [Bp_add, Int.natCast_mul]
  have h3 : (A : Int) * (B : Int) ≤ (A : Int) * Bp n := Int.mul_le_mul_of_nonneg_left (by omega) (by omega)
  have h4 : (A : Int) * Bp n < Bp m * Bp n := Int.mul_lt_mul_of_pos_right h1 (by omega)
  omega
theorem LtB.add {A B m : Nat} (h : LtB A m) (k : LtB B m) : LtB (A + B) (m + 1) := by
  refine ⟨?_⟩
  have h1 := h.lt
  have h2 := k.lt
  rw [Bp]
  omega
theorem LtB.u64 {A : Nat} (h : A < 18446744073709551616) : LtB A 2 := ⟨lt64 h⟩

/-- What a sum bears. -/
structure SumOk (x y : Int) (T S : Nat) : Prop where
  fx : LtB x.natAbs 5
  fy : LtB y.natAbs 5
  ft : T < 18446744073709551616
  fs : S < 18446744073709551616
  den : T * S < 18446744073709551616

/-- Two Rats with what an operation on them needs. -/
structure Pair (w : World) (pa pb : Nat) (x y : Int) (T S : Nat) (a b : Int) (d e : Nat) : Prop where
  ha : RatAt w pa a d
  hb : RatAt w pb b e
  ea : a * (T : Int) = x * (d : Int)
  eb : b * (S : Int) = y * (e : Int)
  hT : 0 < T
  hS : 0 < S
  ba : LtB a.natAbs 40
  bb : LtB b.natAbs 40
  bd : LtB d 40
  be : LtB e 40
  bx : LtB (a * (e : Int)).natAbs 39
  bY : LtB (b * (d : Int)).natAbs 39
  bde : LtB (d * e) 2
theorem Pair.of {w : World} {pa pb : Nat} {x y : Int} {T S : Nat} (hx : RatV w pa x T) (hy : RatV w pb y S) (hok : SumOk x y T S) : ∃ a b d e, Pair w pa pb x y T S a b d e := by
  obtain ⟨hT, a, d, ha, ea⟩ := hx
  obtain ⟨hS, b, e, hb, eb⟩ := hy
  obtain ⟨_, l1, l2⟩ := lowest ha.cop hT ea
  obtain ⟨_, m1, m2⟩ := lowest hb.cop hS eb
  have ba := hok.fx.le l2
  have bb := hok.fy.le m2
  have bd : LtB d 2 := .u64 (by have := hok.ft; omega)
  have be : LtB e 2 := .u64 (by have := hok.fs; omega)
  refine ⟨a, b, d, e, ha, hb, ea, eb, hT, hS, ba.mono (by omega), bb.mono (by omega), bd.mono (by omega), be.mono (by omega), ?_, ?_, ?_⟩
  · rw [Int.natAbs_mul, Int.natAbs_natCast]; exact (ba.mul be).mono (by omega)
  · rw [Int.natAbs_mul, Int.natAbs_natCast]; exact (bb.mul bd).mono (by omega)
  · exact .u64 (by have := Nat.mul_le_mul l1 m1; have := hok.den; omega)

set_option maxRecDepth 100000 in
set_option maxHeartbeats 4000000 in
theorem refadd_any (pa pb : Nat) (x y : Int) (T S : Nat) (w : World) (hx : RatV w pa x T) (hy : RatV w pb y S) (hok : SumOk x y T S) :
    Calls Tryd.prog 37 #[.pointer (some ⟨pa, 0, none⟩), .pointer (some ⟨pb, 0, none⟩)] w (NewR (x * (S : Int) + y * (T : Int)) (T * S) w) := by
  obtain ⟨a, b, d, e, hp⟩ := Pair.of hx hy hok
  have HP := Lib.hid hp
  have hde : 0 < d * e := Nat.mul_pos hp.ha.pos hp.hb.pos
  have HOK : Hid (NormOk (a * (e : Int) + b * (d : Int)).natAbs (d * e)) := Lib.hid ⟨hde, hp.bde, (hp.bx.add hp.bY).le (Int.natAbs_add_le _ _)⟩
  have HE := Lib.hid (norm_eq (n := a * (e : Int) + b * (d : Int)) (x := x * (S : Int) + y * (T : Int)) (m := d * e) (T := T * S) hde (by
    have h1 := hp.ea
    have h2 := hp.eb
    rw [Int.natCast_mul, Int.natCast_mul]
    grind))
  have HTS := Lib.hid (Nat.mul_pos hp.hT hp.hS)
  have HG0 := Lib.hid ((Gr.refl w).alloc (.cells #[.bool false, .slice none 0 0, .bool false, .slice none 0 0] 99))
  have HS := Lib.hid (rslot_new w rfl)
  clear hx hy hok hp hde
  go_enter Tryd.func37, Tryd.ntmps37
  go_wp2_with (go_at_call 51; refine (radd_any w.heap.size pa pb a b d e _ HS.out (HP.out.ha.gr HG0.out) (HP.out.hb.gr HG0.out) HP.out.ba HP.out.bb HP.out.bd HP.out.be (HP.out.bx.mono (by omega)) (HP.out.bY.mono (by omega)) HOK.out).mono ?_; rintro e w1 ⟨rfl, hr, hk⟩; have HR := Lib.hid hr; have HK := Lib.hid (hk.1 w HG0.out (Nat.le_refl _)); clear hr hk)
  go_ret
  exact ⟨_, rfl, Nat.le_refl _, ⟨HTS.out, _, _, HR.out, HE.out⟩, HK.out⟩
set_option maxRecDepth 100000 in
set_option maxHeartbeats 4000000 in
theorem refsub_any (pa pb : Nat) (x y : Int) (T S : Nat) (w : World) (hx : RatV w pa x T) (hy : RatV w pb y S) (hok : SumOk x y T S) :
    Calls Tryd.prog 31 #[.pointer (some ⟨pa, 0, none⟩), .pointer (some ⟨pb, 0, none⟩)] w (NewR (x * (S : Int) - y * (T : Int)) (T * S) w) := by
  obtain ⟨a, b, d, e, hp⟩ := Pair.of hx hy hok
  have HP := Lib.hid hp
  have hde : 0 < d * e := Nat.mul_pos hp.ha.pos hp.hb.pos
  have HOK : Hid (NormOk (a * (e : Int) - b * (d : Int)).natAbs (d * e)) := Lib.hid ⟨hde, hp.bde, (hp.bx.add hp.bY).le (by omega)⟩
  have HE := Lib.hid (norm_eq (n := a * (e : Int) - b * (d : Int)) (x := x * (S : Int) - y * (T : Int)) (m := d * e) (T := T * S) hde (by
    have h1 := hp.ea
    have h2 := hp.eb
    rw [Int.natCast_mul, Int.natCast_mul]
    grind))
  have HTS := Lib.hid (Nat.mul_pos hp.hT hp.hS)
  have HG0 := Lib.hid ((Gr.refl w).alloc (.cells #[.bool false, .slice none 0 0, .bool false, .slice none 0 0] 99))
  have HS := Lib.hid (rslot_new w rfl)
  clear hx hy hok hp hde
  go_enter Tryd.func31, Tryd.ntmps31
  go_wp2_with (go_at_call 43; refine (rsub_any w.heap.size pa pb a b d e _ HS.out (HP.out.ha.gr HG0.out) (HP.out.hb.gr HG0.out) HP.out.ba HP.out.bb HP.out.bd HP.out.be (HP.out.bx.mono (by omega)) (HP.out.bY.mono (by omega)) HOK.out).mono ?_; rintro e w1 ⟨rfl, hr, hk⟩; have HR := Lib.hid hr; have HK := Lib.hid (hk.1 w HG0.out (Nat.le_refl _)); clear hr hk)
  go_ret
  exact ⟨_, rfl, Nat.le_refl _, ⟨HTS.out, _, _, HR.out, HE.out⟩, HK.out⟩
/-- Rat.Cmp at two values. -/
theorem ratcmp_any (pa pb : Nat) (x y : Int) (T S : Nat) (w : World) (hx : RatV w pa x T) (hy : RatV w pb y S) (hok : SumOk x y T S) :
    Calls Tryd.prog 30 #[.pointer (some ⟨pa, 0, none⟩), .pointer (some ⟨pb, 0, none⟩)] w fun e w' => e = .returned (.int .i64 (sg (x * (S : Int)) (y * (T : Int)))) ∧ Gr w w' := by
  obtain ⟨a, b, d, e, hp⟩ := Pair.of hx hy hok
  have h0 : sg (a * (e : Int)) (b * (d : Int)) = sg (x * (S : Int)) (y * (T : Int)) := by
    have hT := hp.hT
    have hS := hp.hS
    have hd := hp.ha.pos
    have he := hp.hb.pos
    rw [← sg_mul (a := a * (e : Int)) (d := (T : Int) * (S : Int)) (Int.mul_pos (by omega) (by omega)), ← sg_mul (a := x * (S : Int)) (d := (d : Int) * (e : Int)) (Int.mul_pos (by omega) (by omega))]
    have h1 := hp.ea
    have h2 := hp.eb
    congr 1 <;> grind
  rw [← h0]
  exact rcmp_any pa pb a b d e w hp.ha hp.hb hp.ba hp.bb hp.bd hp.be

/-- The call returns one of the two: the Rat X / N. -/
def OldR (X : Int) (N : Nat) (w : World) (e : Ending) (w' : World) : Prop := ∃ p, e = .returned (.pointer (some ⟨p, 0, none⟩)) ∧ RatV w' p X N ∧ Gr w w'
set_option maxHeartbeats 4000000 in
theorem lesser_any (pa pb : Nat) (x y : Int) (T S : Nat) (w : World) (hx : RatV w pa x T) (hy : RatV w pb y S) (hok : SumOk x y T S) :
    Calls Tryd.prog 36 #[.pointer (some ⟨pa, 0, none⟩), .pointer (some ⟨pb, 0, none⟩)] w (OldR (min (x * (S : Int)) (y * (T : Int))) (T * S) w) := by
  have HX := Lib.hid hx
  have HY := Lib.hid hy
  have HC := Lib.hid (ratcmp_any pa pb x y T S w hx hy hok)
  have HTS := Lib.hid (Nat.mul_pos hx.1 hy.1)
  clear hx hy hok
  by_cases h : x * (S : Int) < y * (T : Int)
  · have HS := Lib.hid (sg_lt h)
    have HM : Hid (min (x * (S : Int)) (y * (T : Int)) = x * (S : Int)) := Lib.hid (by omega)
    clear h
    rw [HM.out]
    go_enter Tryd.func36, Tryd.ntmps36
    go_wp2_with (go_at_call 30; refine HC.out.mono ?_; rintro e w1 ⟨rfl, hg⟩; rw [HS.out]; have HG := Lib.hid hg; clear hg)
    go_ret
    exact ⟨_, rfl, (HX.out.gr HG.out).congr HTS.out (by rw [Int.natCast_mul]; grind), HG.out⟩
  · have HS : Hid (0 ≤ sg (x * (S : Int)) (y * (T : Int))) := Lib.hid (by unfold sg; rw [if_neg h]; split <;> omega)
    have HM : Hid (min (x * (S : Int)) (y * (T : Int)) = y * (T : Int)) := Lib.hid (by omega)
    clear h
    rw [HM.out]
    generalize sg (x * (S : Int)) (y * (T : Int)) = s at *
    have hs := HS.out
    go_enter Tryd.func36, Tryd.ntmps36
    go_wp2_with (go_at_call 30; refine HC.out.mono ?_; rintro e w1 ⟨rfl, hg⟩; have HG := Lib.hid hg; clear hg)
    go_ret
    exact ⟨_, rfl, (HY.out.gr HG.out).congr HTS.out (by rw [Int.natCast_mul]; grind), HG.out⟩
end Go.Proofs.YtjghgafeoimgiaaDoor

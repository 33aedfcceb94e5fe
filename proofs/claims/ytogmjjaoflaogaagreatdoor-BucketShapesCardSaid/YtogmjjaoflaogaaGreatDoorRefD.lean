/-
  millraceref.down: rounded down.
-/
import Derived.Test.YtogmjjaoflaogaaGreatDoorRefR
import Derived.Test.YtogmjjaoflaogaaGreatDoorBigO
namespace Go.Proofs.YtogmjjaoflaogaaGreatDoor
open Go.RowKit

theorem ediv_same {a x : Int} {d T : Nat} (hd : 0 < d) (hT : 0 < T) (h : a * (T : Int) = x * (d : Int)) : a / (d : Int) = x / (T : Int) := by
  have h1 : (a * (T : Int)) / ((d : Int) * (T : Int)) = a / (d : Int) := Int.mul_ediv_mul_of_pos_left _ _ (by omega)
  have h2 : (x * (d : Int)) / ((T : Int) * (d : Int)) = x / (T : Int) := Int.mul_ediv_mul_of_pos_left _ _ (by omega)
  rw [← h1, ← h2, h, Int.mul_comm (d : Int)]

set_option maxRecDepth 100000 in
set_option maxHeartbeats 4000000 in
theorem down_at (p : Nat) (a : Int) (d : Nat) (w : World) (h : RatAt w p a d) (ha : a.natAbs < 9223372036854775808) (hd : d < 18446744073709551616) :
    Calls Tryz.prog 30 #[.pointer (some ⟨p, 0, none⟩)] w fun e w' => e = .returned (.int .i64 (a / (d : Int))) ∧ Gr w w' := by
  have H := Lib.hid h
  have HG0 := Lib.hid ((Gr.refl w).alloc (.cells #[.bool false, .slice none 0 0] 82))
  have HS := Lib.hid (slot_new w rfl)
  have hd0 := h.pos
  have HD0 := Lib.hid (show (0 : Int) < (d : Int) by omega)
  have HDV := Lib.hid (show DivOk a.natAbs (d : Int).natAbs from by rw [Int.natAbs_natCast]; exact ⟨hd0, .inr (.inl (lt64 (by omega)))⟩)
  have B1 : LtB (a.tdiv (d : Int)).natAbs 40 := lt40 (by have h1 : (a.tdiv (d : Int)).natAbs = a.natAbs / (d : Int).natAbs := Int.natAbs_tdiv _ _; rw [h1]; have := Nat.div_le_self a.natAbs (d : Int).natAbs; omega)
  have B2 : LtB (a.tmod (d : Int)).natAbs 40 := lt40 (by have h1 : (a.tmod (d : Int)).natAbs = a.natAbs % (d : Int).natAbs := Int.natAbs_tmod _ _; rw [h1]; have := Nat.mod_le a.natAbs (d : Int).natAbs; omega)
  have B3 : LtB (d : Int).natAbs 40 := lt40 (by rw [Int.natAbs_natCast]; exact hd)
  have HQ : Hid ((a / (d : Int)).natAbs < 9223372036854775808) := Lib.hid (by
    have h1 : a / (d : Int) ≤ a.natAbs := by
      rcases Int.lt_or_le a 0 with h2 | h2
      · have := Int.ediv_neg_of_neg_of_pos h2 (show (0 : Int) < (d : Int) by omega); omega
      · have := Int.ediv_le_self (d : Int) h2; omega
    have h3 : -(a.natAbs : Int) ≤ a / (d : Int) := by
      rw [Int.le_ediv_iff_mul_le (by omega)]
      have : (a.natAbs : Int) * 1 ≤ (a.natAbs : Int) * (d : Int) := Int.mul_le_mul_of_nonneg_left (by omega) (by omega)
      rw [Int.neg_mul]
      omega
    omega)
  clear h ha hd hd0
  go_enter Tryz.func30, Tryz.ntmps30
  go_wp2_with (first
    | (go_at_call 44; refine (num_any p _).mono ?_; rintro e w1 ⟨rfl, rfl⟩)
    | (go_at_call 45; refine (denom_any p a d _ (H.out.gr HG0.out)).mono ?_; rintro e w1 ⟨q, rfl, _, hh, hg⟩; have HD := Lib.hid hh.int; have HG1 := Lib.hid (HG0.out.trans hg); have HN := Lib.hid ((H.out.gr HG0.out).num.gr hg); have HS1 := Lib.hid (HS.out.gr hg); clear hh hg)
    | (go_at_call 43; refine (idiv_any w.heap.size p 0 q 0 a (d : Int) _ HS1.out HN.out HD.out HD0.out HDV.out B1 B2 B3).mono ?_; rintro e w2 ⟨rfl, hh, hk⟩; have HH := Lib.hid hh.int; have HG2 := Lib.hid (hk w HG1.out (Nat.le_refl _)); clear hh hk)
    | (go_at_call 46; refine (i64_any w.heap.size 0 _ _ HH.out HQ.out).mono ?_; rintro e w3 ⟨rfl, hg⟩; have HG3 := Lib.hid (HG2.out.trans hg); clear hg))
  go_ret
  exact ⟨rfl, HG3.out⟩
theorem down_any (p : Nat) (x : Int) (T : Nat) (w : World) (h : RatV w p x T) (hx : x.natAbs < 9223372036854775808) (hT : T < 18446744073709551616) :
    Calls Tryz.prog 30 #[.pointer (some ⟨p, 0, none⟩)] w fun e w' => e = .returned (.int .i64 (x / (T : Int))) ∧ Gr w w' := by
  obtain ⟨h0, a, d, ha, e⟩ := h
  obtain ⟨_, l1, l2⟩ := lowest ha.cop h0 e
  rw [← ediv_same ha.pos h0 e]
  exact down_at p a d w ha (by omega) (by omega)
end Go.Proofs.YtogmjjaoflaogaaGreatDoor

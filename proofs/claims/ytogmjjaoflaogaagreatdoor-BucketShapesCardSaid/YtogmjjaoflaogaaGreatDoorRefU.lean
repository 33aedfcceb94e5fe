/-
  millraceref.up: rounded up.
-/
import Derived.Test.YtogmjjaoflaogaaGreatDoorRefD
namespace Go.Proofs.YtogmjjaoflaogaaGreatDoor
open Go.RowKit

theorem Int.neg_eq {x : Int} {T : Nat} {a : Int} {d : Nat} (h : a * (T : Int) = x * (d : Int)) : (-a) * (T : Int) = (-x) * (d : Int) := by rw [Int.neg_mul, Int.neg_mul, h]
set_option maxRecDepth 100000 in
set_option maxHeartbeats 4000000 in
theorem up_any (p : Nat) (x : Int) (T : Nat) (w : World) (h : RatV w p x T) (hx : x.natAbs < 9223372036854775807) (hT : T < 9223372036854775808) :
    Calls Tryz.prog 33 #[.pointer (some ⟨p, 0, none⟩)] w fun e w' => e = .returned (.int .i64 (-((-x) / (T : Int)))) ∧ Gr w w' := by
  obtain ⟨h0, a, d, ha, e⟩ := h
  obtain ⟨_, l1, l2⟩ := lowest ha.cop h0 e
  have HE := Lib.hid (Int.neg_eq e)
  have HA := Lib.hid ha
  have HOK := Lib.hid (normOk64 (A := a.natAbs) (d := d) ha.pos (by omega) (by omega))
  have HG0 := Lib.hid ((Gr.refl w).alloc (.cells #[.bool false, .slice none 0 0, .bool false, .slice none 0 0] 84))
  have HS := Lib.hid (rslot_new w rfl)
  have H0 := Lib.hid h0
  have HB := Lib.hid (show (-x).natAbs < 9223372036854775808 ∧ T < 18446744073709551616 from ⟨by omega, by omega⟩)
  have hq : -9223372036854775807 ≤ (-x) / (T : Int) ∧ (-x) / (T : Int) ≤ 9223372036854775807 := by
    have h1 : (-x) / (T : Int) ≤ x.natAbs := by
      rcases Int.lt_or_le (-x) 0 with h2 | h2
      · have := Int.ediv_neg_of_neg_of_pos h2 (show (0 : Int) < (T : Int) by omega); omega
      · have := Int.ediv_le_self (T : Int) h2; omega
    have h3 : -(x.natAbs : Int) ≤ (-x) / (T : Int) := by
      rw [Int.le_ediv_iff_mul_le (by omega)]
      have : (x.natAbs : Int) * 1 ≤ (x.natAbs : Int) * (T : Int) := Int.mul_le_mul_of_nonneg_left (by omega) (by omega)
      rw [Int.neg_mul]
      omega
    omega
  obtain ⟨q, hqe⟩ : ∃ q, (-x) / (T : Int) = q := ⟨_, rfl⟩
  rw [hqe] at hq
  have HQ := Lib.hid hqe
  rw [hqe]
  clear ha e h0 hx hT l1 l2 hqe
  go_enter Tryz.func33, Tryz.ntmps33
  go_wp2_with (first
    | (go_at_call 51; refine (rneg_any w.heap.size p a d _ HS.out (HA.out.gr HG0.out) HOK.out).mono ?_; rintro e w1 ⟨rfl, hr, hk⟩; have HR := Lib.hid hr; have HK := Lib.hid (hk.1 w HG0.out (Nat.le_refl _)); clear hr hk)
    | (go_at_call 30; refine (down_any w.heap.size (-x) T _ ⟨H0.out, _, _, HR.out, HE.out⟩ HB.out.1 HB.out.2).mono ?_; rintro e w2 ⟨rfl, hg⟩; rw [HQ.out]; have HG2 := Lib.hid (HK.out.trans hg); clear hg))
  go_ret
  exact ⟨rfl, HG2.out⟩
end Go.Proofs.YtogmjjaoflaogaaGreatDoor

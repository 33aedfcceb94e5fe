/-
  millracebig: common, of what has at most two words below.
-/
import Derived.Test.YtogmjjaoflaogaaGreatDoorBigL
namespace Go.Proofs.YtogmjjaoflaogaaGreatDoor
open Go.RowKit

theorem gcd_step (x y : Nat) : Nat.gcd y (x % y) = Nat.gcd x y := by rw [Nat.gcd_comm x y, Nat.gcd_rec y x, Nat.gcd_comm]
theorem mod_u64 (x y : Nat) (hx : x < 18446744073709551616) : (x : Int).tmod (y : Int) = ((x % y : Nat) : Int) ∧ (x : Int) % (y : Int) = ((x % y : Nat) : Int) ∧ IntKind.u64.wrap ((x % y : Nat) : Int) = ((x % y : Nat) : Int) :=
  ⟨by rw [Int.tmod_eq_emod_of_nonneg (by omega), Int.natCast_emod], (Int.natCast_emod x y).symm, wrap_nat _ (by have := Nat.mod_le x y; omega)⟩

set_option maxRecDepth 100000 in
set_option maxHeartbeats 8000000 in
theorem common_any {v v' : Value} {A B : Nat} (w : World) (h : Num w v A) (h' : Num w v' B) (hd : DivOk A B) (hB : LtB B 2) :
    Calls Tryz.prog 82 #[v, v'] w fun e w' => Gives (Nat.gcd A B) e w' ∧ Gr w w' := by
  obtain ⟨a, n, cap, rfl, hn, _⟩ := h.shape
  obtain ⟨a', n', cap', rfl, hn', _⟩ := h'.shape
  have hp := h'.pos hd.pos
  have hl' := h'.len hB.lt
  have H := Lib.hid h
  have H' := Lib.hid h'
  have HD := Lib.hid hd
  have b1 : (0 : Int) < (n' : Int) := by omega
  have b2 : ((n' : Int) == 0) = false := by simp; omega
  have b3 : (n' : Int) ≤ 2 := by omega
  have b4 : (n : Int) ≤ 1000000 := by omega
  have hB2 : B < 18446744073709551616 := by have := hB.lt; have e : Bp 2 = 18446744073709551616 := rfl; omega
  have HB2 := Lib.hid hB2
  clear hB2
  by_cases hA : (A : Int) < Bp 2
  · have hl := h.len hA
    have hAA : LtB A 2 := ⟨hA⟩
    have HA2 : Hid (A < 18446744073709551616) := Lib.hid (by have e : Bp 2 = 18446744073709551616 := rfl; omega)
    have b5 : (n : Int) ≤ 2 := by omega
    clear h h' hA hd
    go_enter Tryz.func82, Tryz.ntmps82
    go_wp2
    refine wp_loop_rounds 1 ?_
    rw [rounds_succ]
    have tok1 := trivial
    go_wp2_with (first
      | (go_at_call 90; have _ := tok1; refine (plain_any _ H.out hAA.lt).mono ?_; rintro e w1 ⟨rfl, rfl⟩; clear tok1; have tok2 := trivial)
      | (go_at_call 90; have _ := tok2; refine (plain_any _ H'.out hB.lt).mono ?_; rintro e w1 ⟨rfl, rfl⟩; clear tok2))
    go_loopw [9, 10] (fun x y wr => ∃ X Y : Nat, x = .int .u64 X ∧ y = .int .u64 Y ∧ Hid (Nat.gcd X Y = Nat.gcd A B) ∧ Hid (X < 18446744073709551616 ∧ Y < 18446744073709551616) ∧ Hid (Gr w wr)) (fun _ y _ => (intOf y).toNat)
    case atStart => exact ⟨A, B, rfl, rfl, rfl, ⟨HA2.out, HB2.out⟩, Gr.refl _⟩
    case round =>
      obtain ⟨X, Y, rfl, rfl, HE, HL, HG⟩ := hrel
      by_cases h0 : 0 < Y
      · have hm := Nat.mod_lt X h0
        have HE2 := Lib.hid (gcd_step X Y)
        have hm2 := mod_u64 X Y HL.out.1
        have HL2 := Lib.hid (show Y < 18446744073709551616 ∧ X % Y < 18446744073709551616 from ⟨HL.out.2, by have := HL.out.2; omega⟩)
        obtain ⟨t1, t2, t3⟩ := hm2
        generalize X % Y = R at *
        have i0 : (0 : Int) < (Y : Int) := by omega
        have i1 : ((Y : Int) == 0) = false := by simp; omega
        have i2 : ¬ Y = 0 := by omega
        go_wp2
        go_quiet (fail)
        go_wp2
        go_roundw
        case rel => exact ⟨Y, R, rfl, rfl, Lib.hid (by rw [HE2.out, HE.out]), HL2, HG.out.drewN _⟩
        case measure => simp [intOf] <;> omega
      · obtain rfl : Y = 0 := by omega
        have HW := Lib.hid (fun u => words_any X u HL.out.1)
        have HE2 : Hid (X = Nat.gcd A B) := Lib.hid (by rw [← HE.out, Nat.gcd_zero_right])
        go_wp2_with (go_at_call 84; refine (HW.out _).mono ?_; rintro e w1 ⟨⟨r, rfl, hr⟩, hg1⟩; have HR := Lib.hid hr; have HG1 := Lib.hid (HG.out.trans hg1); clear hr hg1)
        go_ret
        exact ⟨.mk (by rw [← HE2.out]; exact HR.out), HG1.out⟩
  · have hl := h.long (k := 2) (by omega)
    have b5 : (2 : Int) < (n : Int) := by omega
    have HM : Hid (A % B < 18446744073709551616) := Lib.hid (by have := Nat.mod_lt A hd.pos; have := HB2.out; omega)
    have hmm : LtB (A % B) 2 := ⟨by have := HM.out; have e : Bp 2 = 18446744073709551616 := rfl; omega⟩
    have HGE := Lib.hid (gcd_step A B)
    clear h h' hA hd
    go_enter Tryz.func82, Tryz.ntmps82
    go_wp2
    refine wp_loop_rounds 1 ?_
    rw [rounds_succ]
    go_wp2_with (first
      | (go_at_call 83; refine (div_any _ H.out H'.out HD.out).mono ?_; rintro e w1 ⟨⟨q, r, rfl, hq, hr⟩, hg1⟩; have HR := Lib.hid hr; have HG1 := Lib.hid hg1; clear hr hg1 hq; have tok1 := trivial)
      | (go_at_call 90; have _ := tok1; refine (plain_any _ (H'.out.gr HG1.out) hB.lt).mono ?_; rintro e w2 ⟨rfl, rfl⟩; clear tok1; have tok2 := trivial)
      | (go_at_call 90; have _ := tok2; refine (plain_any _ HR.out hmm.lt).mono ?_; rintro e w2 ⟨rfl, rfl⟩; clear tok2))
    go_loopw [9, 10] (fun x y wr => ∃ X Y : Nat, x = .int .u64 X ∧ y = .int .u64 Y ∧ Hid (Nat.gcd X Y = Nat.gcd A B) ∧ Hid (X < 18446744073709551616 ∧ Y < 18446744073709551616) ∧ Hid (Gr w wr)) (fun _ y _ => (intOf y).toNat)
    case atStart => exact ⟨B, A % B, rfl, by simp, HGE.out, ⟨HB2.out, HM.out⟩, HG1.out⟩
    case round =>
      obtain ⟨X, Y, rfl, rfl, HE, HL, HG⟩ := hrel
      by_cases h0 : 0 < Y
      · have hm := Nat.mod_lt X h0
        have HE2 := Lib.hid (gcd_step X Y)
        have hm2 := mod_u64 X Y HL.out.1
        have HL2 := Lib.hid (show Y < 18446744073709551616 ∧ X % Y < 18446744073709551616 from ⟨HL.out.2, by have := HL.out.2; omega⟩)
        obtain ⟨t1, t2, t3⟩ := hm2
        generalize X % Y = R at *
        have i0 : (0 : Int) < (Y : Int) := by omega
        have i1 : ((Y : Int) == 0) = false := by simp; omega
        have i2 : ¬ Y = 0 := by omega
        go_wp2
        go_quiet (fail)
        go_wp2
        go_roundw
        case rel => exact ⟨Y, R, rfl, rfl, Lib.hid (by rw [HE2.out, HE.out]), HL2, HG.out.drewN _⟩
        case measure => simp [intOf] <;> omega
      · obtain rfl : Y = 0 := by omega
        have HW := Lib.hid (fun u => words_any X u HL.out.1)
        have HE2 : Hid (X = Nat.gcd A B) := Lib.hid (by rw [← HE.out, Nat.gcd_zero_right])
        go_wp2_with (go_at_call 84; refine (HW.out _).mono ?_; rintro e w3 ⟨⟨r3, rfl, hr⟩, hg1⟩; have HR3 := Lib.hid hr; have HG3 := Lib.hid (HG.out.trans hg1); clear hr hg1)
        go_ret
        exact ⟨.mk (by rw [← HE2.out]; exact HR3.out), HG3.out⟩
end Go.Proofs.YtogmjjaoflaogaaGreatDoor

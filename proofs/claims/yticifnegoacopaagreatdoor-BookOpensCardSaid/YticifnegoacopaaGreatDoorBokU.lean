/-
  A line of the journal: the program's line, the reference's JournalLine.
-/
import Derived.Test.YticifnegoacopaaGreatDoorBokT
import Derived.Test.YticifnegoacopaaGreatDoorBokN
namespace Go.Proofs.YticifnegoacopaaGreatDoor
open Go Go.RowKit

theorem byte_bd (c : UInt8) : 0 ≤ ((c.toNat : Nat) : Int) ∧ ((c.toNat : Nat) : Int) ≤ 255 := by have := c.toNat_lt; omega

theorem txt_size {k : Int} (h : Bd k) : (txt k).size ≤ 21 := by
  have h1 := Lib.itoa_length_le k h.1 h.2
  have e1 : (txt k).size = (Lib.itoa k).length := by simp [txt, ByteArray.size]
  omega
theorem chk_size {b : Int} (h : 0 ≤ b ∧ b ≤ 9900) : Bd b := by unfold Bd; omega
theorem chk_next {B : ByteArray} {i : Nat} : chkTo B (i + 1) = (37 * chkTo B i + (((B.data.toList.getD i 0).toNat : Nat) : Int)) % 9901 := rfl

set_option maxRecDepth 100000 in
set_option maxHeartbeats 4000000 in
/-- The program's line. -/
theorem line_any (k n : Int) (s : ByteArray) (hk : Bd k) (hn : Bd n) (hs : s.size ≤ 3000) (w : World) (ht : Tab w) : Calls Tryz.prog 23 #[.int .i64 k, .string s, .int .i64 n] w fun e w' => e = .returned (.string (jline k (s, n))) ∧ Gr w w' := by
  have HT := Lib.hid ht
  have HA1 : Hid (∀ u, Tab u → Calls Tryz.prog 36 #[.int .i64 k] u fun e w' => e = .returned (.string (txt k)) ∧ Gr u w') := Lib.hid (fun u h => itoa_g k hk u h)
  have HA2 : Hid (∀ u, Tab u → Calls Tryz.prog 36 #[.int .i64 n] u fun e w' => e = .returned (.string (txt n)) ∧ Gr u w') := Lib.hid (fun u h => itoa_g n hn u h)
  have z1 := txt_size hk
  have z2 := txt_size hn
  have HS1 : Hid (body k (s, n) = txt k ++ kSp ++ s ++ kSp ++ txt n) := Lib.hid rfl
  have HJ : Hid (jline k (s, n) = body k (s, n) ++ kSp ++ txt (chkTo (body k (s, n)) (body k (s, n)).size) ++ kNl) := Lib.hid rfl
  generalize txt k = T1 at *
  generalize txt n = T2 at *
  generalize body k (s, n) = B at *
  have HL : Hid (B.size ≤ 4000) := Lib.hid (by
    have e3 : kSp.size = 1 := rfl
    rw [HS1.out, ByteArray.size_append, ByteArray.size_append, ByteArray.size_append, ByteArray.size_append, e3]
    omega)
  have hb : B = T1 ++ ⟨#[32]⟩ ++ s ++ ⟨#[32]⟩ ++ T2 := HS1.out
  have HB := Lib.hid hb.symm
  have c1 : ¬ 9223372036854775807 < T1.size + 1 := by omega
  have c2 : ¬ 9223372036854775807 < T1.size + 1 + s.size := by omega
  have c3 : ¬ 9223372036854775807 < T1.size + 1 + s.size + 1 := by omega
  have c4 : ¬ 9223372036854775807 < T1.size + 1 + s.size + 1 + T2.size := by omega
  clear HS1 hb z1 z2 hk hn ht hs
  go_enter Tryz.func23, Tryz.ntmps23
  go_upto_region 2 with (go_at_call 36; first
    | (have _ := tok1; refine (HA2.out _ (HT.out.gr HG1.out)).mono ?_; rintro e w2 ⟨rfl, hg⟩; have HG := Lib.hid (HG1.out.trans hg); clear hg)
    | (have tok1 := trivial; refine (HA1.out _ HT.out).mono ?_; rintro e w1 ⟨rfl, hg⟩; have HG1 := Lib.hid hg; clear hg))
  rw [HB.out]
  clear HB c1 c2 c3 c4 HA1 HA2 HG1
  have hl := HL.out
  obtain ⟨m, hm⟩ : ∃ m, m = B.size := ⟨_, rfl⟩
  rw [← hm] at hl HJ
  have HM := Lib.hid hm
  have m0 : (0 : Int) ≤ (m : Int) := by omega
  clear hm
  go_wp2
  rw [← HM.out]
  go_loopw [8, 21] (fun s8 s21 wr => ∃ i : Nat, i ≤ m ∧ s21 = .int .i64 (i : Int) ∧ s8 = .int .i64 (chkTo B i) ∧ Hid (Gr w wr)) (fun _ s _ => m - (intOf s).toNat)
  case atStart => exact ⟨0, Nat.zero_le _, rfl, rfl, HG⟩
  case round =>
    obtain ⟨i, hi, rfl, rfl, HG⟩ := hrel
    by_cases hlt : i < m
    · have hidx := run_byte (t := B) (i := i) (by rw [← HM.out]; exact hlt) wr
      have hcb := byte_bd (B.data.toList.getD i 0)
      have hkb := chkTo_bd B i
      have HN2 := Lib.hid (chk_next (B := B) (i := i))
      have i0 : (0 : Int) ≤ (i : Int) := by omega
      have i1 : (i : Int) < (m : Int) := by omega
      generalize B.data.toList.getD i 0 = c at *
      have hkk : Hid (chkTo B (i + 1) = (37 * chkTo B i + ((c.toNat : Nat) : Int)) % 9901) := HN2
      obtain ⟨K2, hK2⟩ : ∃ K2, K2 = chkTo B (i + 1) := ⟨_, rfl⟩
      have HK2 := Lib.hid hK2
      rw [← hK2] at hkk
      clear hK2 HN2
      generalize chkTo B i = K at *
      go_wp2
      go_roundw
      case rel => exact ⟨i + 1, by omega, by go_num, by rw [← HK2.out, hkk.out], HG⟩
      case measure => simp [intOf]; omega
    · obtain rfl : i = m := by omega
      have hkb := chkTo_bd B i
      have HA3 : Hid (∀ u, Tab u → Calls Tryz.prog 36 #[.int .i64 (chkTo B i)] u fun e w' => e = .returned (.string (txt (chkTo B i))) ∧ Gr u w') := Lib.hid (fun u h => itoa_g _ (chk_size hkb) u h)
      have z3 := txt_size (chk_size hkb)
      have HTB := Lib.hid (HT.out.gr HG.out)
      have hm := HM.out
      generalize txt (chkTo B i) = T3 at *
      generalize chkTo B i = K at *
      have c1 : ¬ 9223372036854775807 < B.size + 1 := by omega
      have c2 : ¬ 9223372036854775807 < B.size + 1 + T3.size := by omega
      have c3 : ¬ 9223372036854775807 < B.size + 1 + T3.size + 1 := by omega
      clear z3 hm hl
      go_wp2_with (go_at_call 36; refine (HA3.out _ HTB.out).mono ?_; rintro e w3 ⟨rfl, hg⟩; have HG3 := Lib.hid (HG.out.trans hg); clear hg)
      go_ret
      exact ⟨by rw [HJ.out]; rfl, HG3.out⟩
end Go.Proofs.YticifnegoacopaaGreatDoor

/-
  A name: the reference's NameCheck.
-/
import Derived.Test.YticifnegoacopaaGreatDoorBokB
import Derived.Test.YticifnegoacopaaGreatDoorProg
import Derived.WalkKit
import Derived.BigGuardPart
import Derived.Lib.Hide
namespace Go.Proofs.YticifnegoacopaaGreatDoor
open Go Go.RowKit

theorem run_byte {t : ByteArray} {i : Nat} (hi : i < t.size) (w : World) : Sem.run Tryz.prog (Instr.index 9 (.string t) (.int .i64 (i : Int))) w = .ok (.int .u8 (((t.data.toList.getD i 0).toNat : Nat) : Int)) w := by
  have h : (0 : Int) ≤ (i : Int) ∧ (i : Int) < (t.size : Int) := ⟨by omega, by omega⟩
  have := run_index_string (P := Tryz.prog) (w := w) 9 t .i64 (i : Int) Tryz.underlying9
  rw [this, dif_pos h]
  have e : t.data.toList.getD i 0 = t[(i : Int).toNat]'(by omega) := by
    rw [List.getD_eq_getElem?_getD, List.getElem?_eq_getElem (by rw [Array.length_toList]; exact hi)]
    simp [ByteArray.getElem_eq_getElem_data]
  rw [e]
theorem all_take {s : ByteArray} {i : Nat} (hi : i < s.size) : (s.data.toList.take (i + 1)).all nameB = ((s.data.toList.take i).all nameB && nameB (s.data.toList.getD i 0)) := by
  have h : i < s.data.toList.length := by rw [Array.length_toList]; exact hi
  rw [List.take_succ_eq_append_getElem h, List.all_append, List.getD_eq_getElem?_getD, List.getElem?_eq_getElem h]
  simp
theorem all_break {s : ByteArray} {i : Nat} (hi : i < s.size) (h : nameB (s.data.toList.getD i 0) = false) : nameOk s = false := by
  have h1 : i < s.data.toList.length := by rw [Array.length_toList]; exact hi
  have h2 : s.data.toList.all nameB = false := by
    rw [List.all_eq_false]
    refine ⟨s.data.toList[i], List.getElem_mem h1, ?_⟩
    rw [List.getD_eq_getElem?_getD, List.getElem?_eq_getElem h1] at h
    simpa using h
  unfold nameOk
  rw [h2]
  rfl
theorem nameOk_long {s : ByteArray} (h : s.size = 0 ∨ 12 < s.size) : nameOk s = false := by
  unfold nameOk
  rcases h with h | h
  · rw [decide_eq_false (show ¬ 1 ≤ s.size by omega), Bool.and_false, Bool.false_and]
  · rw [decide_eq_false (show ¬ s.size ≤ 12 by omega), Bool.and_false]
theorem nameOk_in {s : ByteArray} (h0 : s.size ≠ 0) (h1 : s.size ≤ 12) : nameOk s = s.data.toList.all nameB := by
  unfold nameOk
  rw [decide_eq_true (show 1 ≤ s.size by omega), decide_eq_true h1, Bool.and_true, Bool.and_true]
theorem nameB_cases (c : UInt8) : (nameB c = true ∧ (((97 : Int) ≤ (c.toNat : Int) ∧ (c.toNat : Int) ≤ 122) ∨ (¬ (97 : Int) ≤ (c.toNat : Int) ∧ (48 : Int) ≤ (c.toNat : Int) ∧ (c.toNat : Int) ≤ 57) ∨ (¬ (97 : Int) ≤ (c.toNat : Int) ∧ ¬ (48 : Int) ≤ (c.toNat : Int) ∧ (c.toNat : Int) = 45))) ∨
    (nameB c = false ∧ ((97 : Int) ≤ (c.toNat : Int) ∧ ¬ (c.toNat : Int) ≤ 122 ∨ (¬ (97 : Int) ≤ (c.toNat : Int) ∧ (48 : Int) ≤ (c.toNat : Int) ∧ ¬ (c.toNat : Int) ≤ 57) ∨ (¬ (97 : Int) ≤ (c.toNat : Int) ∧ ¬ (48 : Int) ≤ (c.toNat : Int) ∧ ¬ (c.toNat : Int) = 45))) := by
  unfold nameB
  cases h1 : decide (97 ≤ c.toNat) <;> cases h2 : decide (c.toNat ≤ 122) <;> cases h3 : decide (48 ≤ c.toNat) <;> cases h4 : decide (c.toNat ≤ 57) <;> cases h5 : decide (c.toNat = 45) <;> simp only [decide_eq_true_eq, decide_eq_false_iff_not] at h1 h2 h3 h4 h5 <;> simp <;> omega

set_option maxRecDepth 100000 in
set_option maxHeartbeats 4000000 in
/-- The reference's NameCheck. -/
theorem rname_any (s : ByteArray) (hs : s.size ≤ 3000) (w : World) : Calls Tryz.prog 9 #[.string s] w fun e w' => e = .returned (.bool (nameOk s)) ∧ Gr w w' := by
  obtain ⟨n, hn⟩ : ∃ n, n = s.size := ⟨_, rfl⟩
  have HN := Lib.hid hn
  have HS := Lib.hid hs
  rw [← hn] at hs
  have n0 : (0 : Int) ≤ (n : Int) := by omega
  clear hn
  go_enter Tryz.func9, Tryz.ntmps9
  go_wp2
  rw [← HN.out]
  go_loopw [7] (fun s7 wr => ∃ i : Nat, i ≤ n ∧ s7 = .int .i64 (i : Int) ∧ Hid (((s.data.toList.take i).all nameB) = true) ∧ Hid (Gr w wr)) (fun s _ => n - (intOf s).toNat)
  case atStart => exact ⟨0, Nat.zero_le _, rfl, Lib.hid (by simp), Lib.hid (Gr.refl w)⟩
  case round =>
    obtain ⟨i, hi, rfl, HA, HG⟩ := hrel
    by_cases hlt : i < n
    · have hin : i < s.size := by rw [← HN.out]; exact hlt
      have hidx := run_byte hin wr
      have HB := Lib.hid (all_take hin)
      have HC := Lib.hid (fun h => all_break hin h)
      have HD := nameB_cases (s.data.toList.getD i 0)
      have i0 : (0 : Int) ≤ (i : Int) := by omega
      have i1 : (i : Int) < (n : Int) := by omega
      have c0 : (0 : Int) ≤ (((s.data.toList.getD i 0).toNat : Nat) : Int) := by omega
      generalize s.data.toList.getD i 0 = c at *
      clear hin
      rcases HD with ⟨hb, HD⟩ | ⟨hb, HD⟩
      · have HA2 : Hid (((s.data.toList.take (i + 1)).all nameB) = true) := Lib.hid (by rw [HB.out, HA.out, hb]; rfl)
        clear hb
        rcases HD with ⟨k1, k2⟩ | ⟨k1, k2, k3⟩ | ⟨k1, k2, k3⟩
        all_goals go_wp2
        all_goals go_roundw
        all_goals first | exact ⟨i + 1, by omega, by go_num, HA2, HG⟩ | (simp [intOf]; omega)
      · have HF := Lib.hid (HC.out hb)
        clear hb
        rcases HD with ⟨k1, k2⟩ | ⟨k1, k2, k3⟩ | ⟨k1, k2, k3⟩
        · have k3 : (48 : Int) ≤ ((c.toNat : Nat) : Int) := by omega
          have k4 : ¬ ((c.toNat : Nat) : Int) ≤ 57 := by omega
          have k5 : ¬ ((c.toNat : Nat) : Int) = 45 := by omega
          go_wp2
          · go_ret
            exact ⟨by rw [HF.out]; rfl, HG.out⟩
          · rename_i hq
            simp only [Bool.not_eq_false', beq_iff_eq] at hq
            exfalso
            omega
        · have k5 : ¬ ((c.toNat : Nat) : Int) = 45 := by omega
          go_wp2
          · go_ret
            exact ⟨by rw [HF.out]; rfl, HG.out⟩
          · rename_i hq
            simp only [Bool.not_eq_false', beq_iff_eq] at hq
            exfalso
            omega
        · go_wp2
          · go_ret
            exact ⟨by rw [HF.out]; rfl, HG.out⟩
          · rename_i hq
            simp only [Bool.not_eq_false', beq_iff_eq] at hq
            exfalso
            omega
    · obtain rfl : i = n := by omega
      have HA2 : Hid (s.data.toList.all nameB = true) := Lib.hid (by rw [← HA.out, HN.out, List.take_of_length_le (by rw [Array.length_toList]; exact Nat.le_refl _)])
      by_cases h0 : i = 0
      · have HF := Lib.hid (nameOk_long (s := s) (.inl (by rw [← HN.out]; exact h0)))
        have k1 : ¬ (1 : Int) ≤ (s.size : Int) := by have := HN.out; omega
        go_wp2
        go_ret
        exact ⟨by rw [HF.out]; rfl, HG.out⟩
      · by_cases h1 : 12 < i
        · have HF := Lib.hid (nameOk_long (s := s) (.inr (by rw [← HN.out]; exact h1)))
          have k1 : (1 : Int) ≤ (s.size : Int) := by have := HN.out; omega
          have k2 : ¬ (s.size : Int) ≤ 12 := by have := HN.out; omega
          go_wp2
          go_ret
          exact ⟨by rw [HF.out]; rfl, HG.out⟩
        · have HF : Hid (nameOk s = true) := Lib.hid (by rw [nameOk_in (by rw [← HN.out]; exact h0) (by rw [← HN.out]; omega)]; exact HA2.out)
          have k1 : (1 : Int) ≤ (s.size : Int) := by have := HN.out; omega
          have k2 : (s.size : Int) ≤ 12 := by have := HN.out; omega
          go_wp2
          go_ret
          exact ⟨by rw [HF.out]; rfl, HG.out⟩
end Go.Proofs.YticifnegoacopaaGreatDoor

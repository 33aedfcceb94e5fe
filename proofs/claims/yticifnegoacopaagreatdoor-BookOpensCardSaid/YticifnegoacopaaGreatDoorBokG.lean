/-
  The reference's book: Get, Journal.
-/
import Derived.Test.YticifnegoacopaaGreatDoorBokR
namespace Go.Proofs.YticifnegoacopaaGreatDoor
open Go Go.RowKit

theorem ent_at {w : World} {v : Value} {L : List Ent} (h : Row 61 2 (fun _ => True) w v L.length (eflat L)) {i : Nat} (hi : i < L.length) : ∃ g off cap, v = .slice (some ⟨g, off, none⟩) L.length cap ∧ g < w.heap.size ∧ w.cell? ⟨g, off + i * 2, none⟩ = some (.string (L[i]'hi).1) ∧ w.cell? ⟨g, off + i * 2 + 1, none⟩ = some (.int .i64 (L[i]'hi).2) := by
  obtain ⟨g, off, cap, rfl, _, _, hc⟩ := Row.cells h (by omega)
  have h1 := eflat_at (L := L) (i := i) (e := L[i]'hi) (List.getElem?_eq_getElem hi)
  exact ⟨g, off, cap, rfl, Row.lt h (g := g) rfl, hc _ _ h1.1, hc _ _ h1.2⟩
theorem beqS_no {a b : ByteArray} (h : ¬ a = b) : (a.toList == b.toList) = false := by
  rw [beq_eq_false_iff_ne, Lib.toList_data, Lib.toList_data]
  exact fun e => h (ba_eq e)
theorem take_one {L : List Ent} {i : Nat} (hi : i < L.length) : L.take (i + 1) = L.take i ++ [L[i]'hi] := List.take_succ_eq_append_getElem hi
theorem EntOk.take {L : List Ent} (h : EntOk L) (i : Nat) : EntOk (L.take i) := ⟨by have := h.1; rw [List.length_take]; omega, fun e he => h.2 e (List.mem_of_mem_take he)⟩

set_option maxRecDepth 100000 in
set_option maxHeartbeats 8000000 in
/-- The reference's Get. -/
theorem rget_any {w : World} {n0 r : Nat} {L : List Ent} (h : RBok w n0 r L) (x : ByteArray) : Calls Tryz.prog 13 #[.pointer (some ⟨r, 0, none⟩), .string x] w fun e w' => e = .returned (.int .i64 (getN L x)) ∧ Gr w w' := by
  obtain ⟨v, h⟩ := h
  obtain ⟨va, vc, rfl⟩ := h.shape
  have c0 := h.c0
  have H0 := Lib.hid h
  obtain ⟨m, hm⟩ : ∃ m, m = L.length := ⟨_, rfl⟩
  have HM := Lib.hid hm
  rw [← hm] at c0
  have hm5 : m ≤ 500 := by rw [hm]; exact h.ok.1
  have m0 : (0 : Int) ≤ (m : Int) := by omega
  clear hm h
  have HG0 := Lib.hid (Gr.refl w)
  go_enter Tryz.func13, Tryz.ntmps13
  go_wp2
  go_loopw [5, 13] (fun s5 s13 wr => ∃ i : Nat, i ≤ m ∧ s13 = .int .i64 (i : Int) ∧ s5 = .int .i64 (getN (L.take i) x) ∧ Hid (Gr w wr)) (fun _ s _ => m - (intOf s).toNat)
  case atStart => exact ⟨0, Nat.zero_le _, rfl, rfl, HG0⟩
  case round =>
    clear HG0
    obtain ⟨i, hi, rfl, rfl, HG⟩ := hrel
    by_cases hlt : i < m
    · have hil : i < L.length := by rw [← HM.out]; exact hlt
      obtain ⟨g, off, cap, e, hgl, k0, k1⟩ := ent_at (Row.gr H0.out.row HG.out) hil
      obtain ⟨e1, _, e3⟩ := Value.slice.inj e
      subst e1 e3
      have HT := Lib.hid (take_one hil)
      have HB1 := H0.out.ok.get x
      have HB2 := (H0.out.ok.take i).get x
      have HB3 := H0.out.ok.2 _ (List.getElem_mem hil)
      have i0 : (0 : Int) ≤ (i : Int) := by omega
      have i1 : (i : Int) < (m : Int) := by omega
      clear c0 e
      have HNX : Hid (getN (L.take (i + 1)) x = getN (L.take i) x + (if (L[i]'hil).1 = x then (L[i]'hil).2 else 0)) := Lib.hid (by rw [HT.out, getN_snoc])
      generalize L[i]'hil = q at *
      obtain ⟨qs, qn⟩ := q
      dsimp only at k0 k1 HNX HB3
      obtain ⟨b0, b1⟩ := HB2
      obtain ⟨b2, b3, b4⟩ := HB3
      clear HB1 b2
      have HA := Lib.hid ((Gr.refl wr).alloc (.cells #[.string qs, .int .i64 qn] 61))
      by_cases hq : qs = x
      · have HN : Hid (getN (L.take (i + 1)) x = getN (L.take i) x + qn) := Lib.hid (by rw [HNX.out, if_pos hq])
        obtain ⟨A2, hA2⟩ : ∃ A2, A2 = getN (L.take (i + 1)) x := ⟨_, rfl⟩
        have HA2 := Lib.hid hA2
        rw [← hA2] at HN
        clear HNX hA2
        generalize getN (L.take i) x = A at *
        subst hq
        go_wp2
        go_roundw
        case rel => exact ⟨i + 1, by omega, by go_num, by rw [← HA2.out, HN.out], Lib.hid (HG.out.trans HA.out)⟩
        case measure => simp [intOf]; omega
      · have HN : Hid (getN (L.take (i + 1)) x = getN (L.take i) x) := Lib.hid (by rw [HNX.out, if_neg hq, Int.add_zero])
        clear HNX
        obtain ⟨A2, hA2⟩ : ∃ A2, A2 = getN (L.take (i + 1)) x := ⟨_, rfl⟩
        have HA2 := Lib.hid hA2
        rw [← hA2] at HN
        clear hA2
        generalize getN (L.take i) x = A at *
        have hbq := beqS_no hq
        go_wp2
        go_roundw
        case rel => exact ⟨i + 1, by omega, by go_num, by rw [← HA2.out, HN.out], Lib.hid (HG.out.trans HA.out)⟩
        case measure => simp [intOf]; omega
    · obtain rfl : i = m := by omega
      have HE : Hid (getN (L.take i) x = getN L x) := Lib.hid (by rw [HM.out, List.take_length])
      go_wp2
      go_ret
      exact ⟨by rw [← HE.out]; rfl, HG.out⟩

theorem jfrom_take {L : List Ent} {i : Nat} (hi : i < L.length) : journal (L.take (i + 1)) = journal (L.take i) ++ jline (i : Int) (L[i]'hi) := by
  rw [take_one hi, journal_snoc, List.length_take, Nat.min_eq_left (by omega)]

set_option maxRecDepth 100000 in
set_option maxHeartbeats 8000000 in
/-- The reference's Journal. -/
theorem rjournal_any {w : World} {n0 r : Nat} {L : List Ent} (h : RBok w n0 r L) (ht : Tab w) : Calls Tryz.prog 11 #[.pointer (some ⟨r, 0, none⟩)] w fun e w' => e = .returned (.string (journal L)) ∧ Gr w w' := by
  obtain ⟨v, h⟩ := h
  obtain ⟨va, vc, rfl⟩ := h.shape
  have c0 := h.c0
  have H0 := Lib.hid h
  have HT := Lib.hid ht
  obtain ⟨m, hm⟩ : ∃ m, m = L.length := ⟨_, rfl⟩
  have HM := Lib.hid hm
  rw [← hm] at c0
  have hm5 : m ≤ 500 := by rw [hm]; exact h.ok.1
  have m0 : (0 : Int) ≤ (m : Int) := by omega
  clear hm h ht
  have HG0 := Lib.hid (Gr.refl w)
  go_enter Tryz.func11, Tryz.ntmps11
  go_wp2
  go_loopw [3, 11] (fun s3 s11 wr => ∃ i : Nat, i ≤ m ∧ s11 = .int .i64 (i : Int) ∧ s3 = .string (journal (L.take i)) ∧ Hid (Gr w wr)) (fun _ s _ => m - (intOf s).toNat)
  case atStart => exact ⟨0, Nat.zero_le _, rfl, rfl, HG0⟩
  case round =>
    clear HG0
    obtain ⟨i, hi, rfl, rfl, HG⟩ := hrel
    by_cases hlt : i < m
    · have hil : i < L.length := by rw [← HM.out]; exact hlt
      obtain ⟨g, off, cap, e, hgl, k0, k1⟩ := ent_at (Row.gr H0.out.row HG.out) hil
      obtain ⟨e1, _, e3⟩ := Value.slice.inj e
      subst e1 e3
      have HB1 := (H0.out.ok.take (i + 1)).size
      have HNX := Lib.hid (jfrom_take hil)
      have HB3 := H0.out.ok.2 _ (List.getElem_mem hil)
      rw [HNX.out, ByteArray.size_append] at HB1
      have i0 : (0 : Int) ≤ (i : Int) := by omega
      have i1 : (i : Int) < (m : Int) := by omega
      have HTB := Lib.hid (HT.out.gr HG.out)
      clear c0 e
      generalize L[i]'hil = q at *
      obtain ⟨qs, qn⟩ := q
      dsimp only at k0 k1 HB3
      have HLN : Hid (∀ u, Tab u → Calls Tryz.prog 26 #[.int .i64 (i : Int), .agg #[.string qs, .int .i64 qn]] u fun e w' => e = .returned (.string (jline (i : Int) (qs, qn))) ∧ Gr u w') := Lib.hid (fun u hu => rline_any _ qn qs (by unfold Bd; omega) (by unfold Bd; omega) (by omega) u hu)
      have HA := Lib.hid ((Gr.refl wr).alloc (.cells #[.string qs, .int .i64 qn] 61))
      obtain ⟨J2, hJ2⟩ : ∃ J2, J2 = journal (L.take (i + 1)) := ⟨_, rfl⟩
      have HJ2 := Lib.hid hJ2
      rw [← hJ2] at HNX
      clear hJ2 HB3
      generalize jline (i : Int) (qs, qn) = S at *
      generalize journal (L.take i) = J at *
      have z1 : ¬ 9223372036854775807 < J.size + S.size := by omega
      clear HB1
      go_wp2_with (go_at_call 26; refine (HLN.out _ (HTB.out.gr HA.out)).mono ?_; rintro e w3 ⟨rfl, hg⟩; have HG3 := Lib.hid (HG.out.trans (HA.out.trans hg)); clear hg)
      go_roundw
      case rel => exact ⟨i + 1, by omega, by go_num, by rw [← HJ2.out, HNX.out], HG3⟩
      case measure => simp [intOf]; omega
    · obtain rfl : i = m := by omega
      have HE : Hid (journal (L.take i) = journal L) := Lib.hid (by rw [HM.out, List.take_length])
      go_wp2
      go_ret
      exact ⟨by rw [← HE.out]; rfl, HG.out⟩
end Go.Proofs.YticifnegoacopaaGreatDoor

/-
  curve.Burst and curve.Late.
-/
import Derived.Test.YtlaoapdgkkgmhaaDoorLineB
namespace Go.Proofs.YtlaoapdgkkgmhaaDoor
open Go.RowKit Go.Extern.Stop Go.Stop Go.Extern

theorem own_one {w : World} {base : Nat} {n : Nat} (hn : n = w.heap.size) (hb : base ≤ w.heap.size) (y : Int) : OwnInts (w.alloc (.cells #[.int .i64 y] 3)) base (.slice (some ⟨n, 0, none⟩) 1 1) [y] := by
  subst hn
  refine ⟨rfl, .inr ⟨w.heap.size, 1, #[.int .i64 y], rfl, hb, by show (w.heap.push _)[w.heap.size]? = some _; simp, Nat.le_refl _, by unfold maxLen; omega, rfl, rfl⟩⟩
theorem upTo_zero {b t room wait : Nat} : upTo (lineAt b t room wait) (0 + 1) = [0] := by simp [upTo, lineAt]

set_option maxRecDepth 100000 in
set_option maxHeartbeats 8000000 in
theorem burst_bad (b t n k : Int) (w : World) (hb : Bd b) (ht : Bd t) (hn : Bd n) (hk : Bd k) (hc : ckLine b t n k ≠ 0) : Calls Tryd.prog 12 #[.agg #[.int .i64 b, .int .i64 t], .int .i64 n, .int .i64 k] w fun e w' => e = .returned (.tuple #[.slice none 0 0, .iface 24 (.int .i64 (ckLine b t n k))]) ∧ Gr w w' := by
  have HG := Lib.hid ((Gr.refl w).alloc (.cells #[.int .i64 b, .int .i64 t] 23))
  have HS := Lib.hid (fun u => shape_any b t n k u hb ht hn hk)
  rw [errV_ne hc] at HS
  clear hb ht hn hk hc
  generalize ckLine b t n k = c at *
  go_enter Tryd.func12, Tryd.ntmps12
  go_wp2_with (go_at_call 24; refine (HS.out _).mono ?_; rintro e w1 ⟨rfl, hg1⟩; have HG1 := Lib.hid (HG.out.trans hg1); clear hg1)
  go_ret2
  exact ⟨rfl, HG1.out⟩
set_option maxRecDepth 100000 in
set_option maxHeartbeats 8000000 in
theorem late_bad (b t n k : Int) (w : World) (hb : Bd b) (ht : Bd t) (hn : Bd n) (hk : Bd k) (hc : ckLine b t n k ≠ 0) : Calls Tryd.prog 13 #[.agg #[.int .i64 b, .int .i64 t], .int .i64 n, .int .i64 k] w fun e w' => e = .returned (.tuple #[.slice none 0 0, .iface 24 (.int .i64 (ckLine b t n k))]) ∧ Gr w w' := by
  have HG := Lib.hid ((Gr.refl w).alloc (.cells #[.int .i64 b, .int .i64 t] 23))
  have HS := Lib.hid (fun u => shape_any b t n k u hb ht hn hk)
  rw [errV_ne hc] at HS
  clear hb ht hn hk hc
  generalize ckLine b t n k = c at *
  go_enter Tryd.func13, Tryd.ntmps13
  go_wp2_with (go_at_call 24; refine (HS.out _).mono ?_; rintro e w1 ⟨rfl, hg1⟩; have HG1 := Lib.hid (HG.out.trans hg1); clear hg1)
  go_ret2
  exact ⟨rfl, HG1.out⟩

theorem shape_ok (b t n q : Nat) (w : World) (hb : 1 ≤ b ∧ b ≤ 1000000) (ht : 1 ≤ t ∧ t ≤ 1000000) (hn : n ≤ 1000000) (hq : q ≤ 200) :
    Calls Tryd.prog 24 #[.agg #[.int .i64 (b : Int), .int .i64 (t : Int)], .int .i64 (n : Int), .int .i64 (q : Int)] w fun e w' => e = .returned .nilIface ∧ Gr w w' := by
  have := shape_any (b : Int) (t : Int) (n : Int) (q : Int) w (by unfold Bd; omega) (by unfold Bd; omega) (by unfold Bd; omega) (by unfold Bd; omega)
  rw [ckLine_ok ⟨⟨by omega, by omega⟩, by omega⟩ (by omega), errV_zero rfl] at this
  exact this

set_option maxRecDepth 100000 in
set_option maxHeartbeats 8000000 in
theorem burst_ok (b t n q : Nat) (w : World) (hb : 1 ≤ b ∧ b ≤ 1000000) (ht : 1 ≤ t ∧ t ≤ 1000000) (hn : n ≤ 1000000) (hq : q ≤ 200) :
    Calls Tryd.prog 12 #[.agg #[.int .i64 (b : Int), .int .i64 (t : Int)], .int .i64 (n : Int), .int .i64 (q : Int)] w fun e w' => ∃ r, e = .returned (.tuple #[r, .nilIface]) ∧ Ints w' r (upTo (lineAt b t n 0) (q + 1)) ∧ Gr w w' := by
  have HB := Lib.hid hb
  have HT := Lib.hid ht
  have HG0 := Lib.hid ((Gr.refl w).alloc (.cells #[.int .i64 (b : Int), .int .i64 (t : Int)] 23))
  have hc0 : (w.alloc (.cells #[.int .i64 (b : Int), .int .i64 (t : Int)] 23)).cell? ⟨w.heap.size, 0, none⟩ = some (.int .i64 (b : Int)) := by simp
  have hc1 : (w.alloc (.cells #[.int .i64 (b : Int), .int .i64 (t : Int)] 23)).cell? ⟨w.heap.size, 1, none⟩ = some (.int .i64 (t : Int)) := by simp
  have C0 := Lib.hid hc0
  have C1 := Lib.hid hc1
  have HS := Lib.hid (fun u => shape_ok b t n q u hb ht hn hq)
  have HU0 := Lib.hid (upTo_zero (b := b) (t := t) (room := n) (wait := 0))
  have x1 : (1 : Int) ≤ (t : Int) := by omega
  have x2 : (t : Int) ≤ 1000000 := by omega
  have x3 : ((t : Int) == 0) = false := by simp; omega
  have x4 : (n : Int) ≤ 1000000 := by omega
  have x5 : (0 : Int) ≤ (n : Int) := by omega
  clear hb ht hc0 hc1
  go_enter Tryd.func12, Tryd.ntmps12
  go_wp2_with (go_at_call 24; refine (HS.out _).mono ?_; rintro e w1 ⟨rfl, hg1⟩; have HG1 := Lib.hid hg1; clear hg1)
  have HO0 : Hid (OwnInts (w1.alloc (.cells #[.int .i64 0] 3)) w1.heap.size (.slice (some ⟨w1.heap.size, 0, none⟩) 1 1) (upTo (lineAt b t n 0) (0 + 1))) := Lib.hid (by rw [HU0.out]; exact own_one rfl (Nat.le_refl _) 0)
  go_loopw [9, 10] (fun r i wr => ∃ k : Nat, 1 ≤ k ∧ k ≤ q + 1 ∧ i = .int .i64 k ∧ Hid (OwnInts wr w1.heap.size r (upTo (lineAt b t n 0) k)) ∧ Hid (Gr w1 wr)) (fun _ i _ => (q + 1) - (intOf i).toNat)
  case atStart => exact ⟨1, Nat.le_refl _, by omega, rfl, HO0, (Gr.refl _).alloc _⟩
  case round =>
    obtain ⟨k, hk1, hk, rfl, HO, HG⟩ := hrel
    by_cases hlt : k ≤ q
    · have d0 := (HG1.out.trans HG.out).cell C0.out
      have d1 := (HG1.out.trans HG.out).cell C1.out
      have i1 : (k : Int) ≤ (q : Int) := by omega
      have i0 : (1 : Int) ≤ (k : Int) := by omega
      have hm : 0 ≤ (k : Int) * (b : Int) ∧ (k : Int) * (b : Int) ≤ 201000000 := by
        refine ⟨Int.mul_nonneg (by omega) (by omega), ?_⟩
        have := Nat.mul_le_mul (show k ≤ 201 by omega) HB.out.2
        have h2 : ((k * b : Nat) : Int) = (k : Int) * (b : Int) := by simp
        omega
      have hla := lineAt_in (t := t) (wait := 0) (k := k) HB.out.2 (by omega)
      have HL : Hid (lineAt b t n 0 k = (n : Int) + ((k : Int) * (b : Int)) / (t : Int)) := Lib.hid (by unfold lineAt; rw [if_neg (by omega), Nat.sub_zero, Int.add_comm])
      have HUS := Lib.hid (upTo_succ (lineAt b t n 0) k)
      rw [Nat.sub_zero] at hla
      generalize hb' : (b : Int) = b' at *
      have HBB := Lib.hid hb'
      clear hb'
      generalize hmm : (k : Int) * b' = m at *
      generalize hzz : m / (t : Int) = z at *
      have hzz2 : IntKind.i64.wrap (m.tdiv (t : Int)) = z := by rw [Int.tdiv_eq_ediv_of_nonneg hm.1, hzz, IntKind.wrap_i64]; omega
      have hw : IntKind.i64.wrap m = m := by rw [IntKind.wrap_i64]; omega
      go_wp2_with (at_builtin; refine wpList_append_int (by rfl) _ _ _ (by rfl) (by kernel_rfl) w1.heap.size _ (upTo (lineAt b t n 0) k) ((n : Int) + z) (by rfl) (HO.out.alloc _) ⟨wr.heap.size, 0, none⟩ 1 (by rfl) (by simp) (by rw [upTo_len]; omega) (by have := HG.out.size; simp; omega) ?_; intro r' w2 hown1 hwr1; have HG2 := Lib.hid (hwr1 w1 (HG.out.alloc _) (Nat.le_refl _)); have HO1 := Lib.hid hown1; clear hown1 hwr1)
      go_roundw
      case rel => exact ⟨k + 1, by omega, by omega, by go_num, by rw [← HUS.out, HL.out]; exact HO1, HG2⟩
      case measure => simp [intOf] <;> omega
    · obtain rfl : k = q + 1 := by omega
      have hne : ¬ ((q + 1 : Nat) : Int) ≤ (q : Int) := by omega
      go_wp2
      go_ret2
      exact ⟨_, rfl, HO.out.ints (by rw [upTo_len]; omega), (HG0.out.trans HG1.out).trans HG.out⟩

set_option maxRecDepth 100000 in
set_option maxHeartbeats 8000000 in
theorem late_ok (b t n q : Nat) (w : World) (hb : 1 ≤ b ∧ b ≤ 1000000) (ht : 1 ≤ t ∧ t ≤ 1000000) (hn : n ≤ 1000000) (hq : q ≤ 200) :
    Calls Tryd.prog 13 #[.agg #[.int .i64 (b : Int), .int .i64 (t : Int)], .int .i64 (n : Int), .int .i64 (q : Int)] w fun e w' => ∃ r, e = .returned (.tuple #[r, .nilIface]) ∧ Ints w' r (upTo (lineAt b t 0 n) (q + 1)) ∧ Gr w w' := by
  have HB := Lib.hid hb
  have HT := Lib.hid ht
  have HG0 := Lib.hid ((Gr.refl w).alloc (.cells #[.int .i64 (b : Int), .int .i64 (t : Int)] 23))
  have hc0 : (w.alloc (.cells #[.int .i64 (b : Int), .int .i64 (t : Int)] 23)).cell? ⟨w.heap.size, 0, none⟩ = some (.int .i64 (b : Int)) := by simp
  have hc1 : (w.alloc (.cells #[.int .i64 (b : Int), .int .i64 (t : Int)] 23)).cell? ⟨w.heap.size, 1, none⟩ = some (.int .i64 (t : Int)) := by simp
  have C0 := Lib.hid hc0
  have C1 := Lib.hid hc1
  have HS := Lib.hid (fun u => shape_ok b t n q u hb ht hn hq)
  have x1 : (1 : Int) ≤ (t : Int) := by omega
  have x2 : (t : Int) ≤ 1000000 := by omega
  have x3 : ((t : Int) == 0) = false := by simp; omega
  have x4 : (n : Int) ≤ 1000000 := by omega
  have x5 : (0 : Int) ≤ (n : Int) := by omega
  clear hb ht hc0 hc1
  go_enter Tryd.func13, Tryd.ntmps13
  go_wp2_with (go_at_call 24; refine (HS.out _).mono ?_; rintro e w1 ⟨rfl, hg1⟩; have HG1 := Lib.hid hg1; clear hg1)
  go_loopw [9, 10, 20] (fun r x i wr => ∃ k : Nat, k ≤ q + 1 ∧ i = .int .i64 k ∧ Hid (OwnInts wr w1.heap.size r (upTo (lineAt b t 0 n) k)) ∧ Hid (Gr w1 wr)) (fun _ _ i _ => (q + 1) - (intOf i).toNat)
  case atStart => exact ⟨0, by omega, rfl, OwnInts.nil _ _, Gr.refl _⟩
  case round =>
    obtain ⟨k, hk, rfl, HO, HG⟩ := hrel
    by_cases hlt : k < q + 1
    · have d0 := (HG1.out.trans HG.out).cell C0.out
      have d1 := (HG1.out.trans HG.out).cell C1.out
      have i1 : (k : Int) < (q : Int) + 1 := by omega
      have i0 : (0 : Int) ≤ (k : Int) := by omega
      have hm : 0 ≤ ((k - n : Nat) : Int) * (b : Int) ∧ ((k - n : Nat) : Int) * (b : Int) ≤ 201000000 := by
        refine ⟨Int.mul_nonneg (by omega) (by omega), ?_⟩
        have := Nat.mul_le_mul (show k - n ≤ 201 by omega) HB.out.2
        have h2 : (((k - n) * b : Nat) : Int) = ((k - n : Nat) : Int) * (b : Int) := by simp
        omega
      have hla := lineAt_in (t := t) (wait := n) (k := k) HB.out.2 (by omega)
      have HL : Hid (lineAt b t 0 n k = (((k - n : Nat) : Int) * (b : Int)) / (t : Int)) := Lib.hid (by unfold lineAt; split <;> simp)
      have HUS := Lib.hid (upTo_succ (lineAt b t 0 n) k)
      have hmx : (if 0 < (k : Int) - (n : Int) then (k : Int) - (n : Int) else 0) = ((k - n : Nat) : Int) := by split <;> omega
      have hmx2 : (if n < k then (k : Int) - (n : Int) else 0) = ((k - n : Nat) : Int) := by split <;> omega
      have hdd : 0 ≤ ((k - n : Nat) : Int) := by omega
      generalize ((k - n : Nat) : Int) = d at *
      generalize hb' : (b : Int) = b' at *
      have HBB := Lib.hid hb'
      clear hb'
      generalize hmm : d * b' = m at *
      generalize hzz : m / (t : Int) = z at *
      have hzz2 : IntKind.i64.wrap (m.tdiv (t : Int)) = z := by rw [Int.tdiv_eq_ediv_of_nonneg hm.1, hzz, IntKind.wrap_i64]; omega
      have hw : IntKind.i64.wrap m = m := by rw [IntKind.wrap_i64]; omega
      have hw3 : wrap64 m = m := by unfold wrap64; omega
      have hw4 : wrap64 (m.tdiv (t : Int)) = z := by rw [Int.tdiv_eq_ediv_of_nonneg hm.1, hzz]; unfold wrap64; omega
      go_wp2_with (at_builtin; refine wpList_append_int (by rfl) _ _ _ (by rfl) (by kernel_rfl) w1.heap.size _ (upTo (lineAt b t 0 n) k) z (by rfl) (HO.out.alloc _) ⟨wr.heap.size, 0, none⟩ 1 (by rfl) (by simp) (by rw [upTo_len]; omega) (by have := HG.out.size; simp; omega) ?_; intro r' w2 hown1 hwr1; have HG2 := Lib.hid (hwr1 w1 (HG.out.alloc _) (Nat.le_refl _)); have HO1 := Lib.hid hown1; clear hown1 hwr1)
      go_roundw
      case rel => exact ⟨k + 1, by omega, by go_num, by rw [← HUS.out, HL.out]; exact HO1, HG2⟩
      case measure => simp [intOf] <;> omega
    · obtain rfl : k = q + 1 := by omega
      have hne : ¬ ((q + 1 : Nat) : Int) < (q : Int) + 1 := by omega
      go_wp2
      go_ret2
      exact ⟨_, rfl, HO.out.ints (by rw [upTo_len]; omega), (HG0.out.trans HG1.out).trans HG.out⟩
end Go.Proofs.YtlaoapdgkkgmhaaDoor

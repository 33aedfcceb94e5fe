/-
  link.Delays, and the law LinkDelays.
-/
import Derived.Test.YtmangbbcnkbfkaaItems
import Derived.Test.YtmangbbcnkbfkaaBlk
import Derived.StillTailTactics
import Derived.BigGuardPart
namespace Go.Proofs.Ytmangbbcnkbfkaa
open Go.RowKit Go.Extern.Stop Go.Stop Go.Extern

theorem info_int : (Try.prog.info? 3).map (fun i => (i.zero, i.size, i.bytes)) = some (some (.int .i64 0), 1, 8) := by kernel_rfl

/-- what is told of packet i behind k of the sent ones -/
def dl (A S : Nat → Nat → Int) : Nat → Nat → Int
  | 0, _ => -1
  | k + 1, i => if S k 0 = (i : Int) then wrap64 (S k 2 - A i 0) else dl A S k i

theorem dl_at {A S : Nat → Nat → Int} {k i : Nat} (h : S k 0 = (i : Int)) : dl A S (k + 1) i = wrap64 (S k 2 - A i 0) := by simp [dl, h]
theorem dl_not {A S : Nat → Nat → Int} {k i : Nat} (h : S k 0 ≠ (i : Int)) : dl A S (k + 1) i = dl A S k i := by simp [dl, h]

set_option maxRecDepth 100000 in
set_option maxHeartbeats 4000000 in
theorem delays_slice {A S : Nat → Nat → Int} (a a' : Option Addr) (cap n cap' m : Nat) (lost : Value) (x y : Int) (w : World) (hn : n ≤ 150) (hm : m ≤ 150)
    (hA : Hid (0 < n → ∃ b off, a = some ⟨b, off, none⟩ ∧ ∀ i, i < n → ∀ j, j < 5 → w.cell? ⟨b, off + i * 5 + j, none⟩ = some (.int .i64 (A i j)))) (hS : Hid (0 < m → ∃ b off, a' = some ⟨b, off, none⟩ ∧ ∀ i, i < m → ∀ j, j < 4 → w.cell? ⟨b, off + i * 4 + j, none⟩ = some (.int .i64 (S i j)))) (hlost : ∃ a l c, lost = .slice a l c) :
    Calls Try.prog 5 #[.slice a n cap, .agg #[.slice a' m cap', lost, .int .i64 x, .int .i64 y]] w fun e w' => ∃ r, e = .returned r ∧ Ints w' r (fnList (dl A S m) n) ∧ Gr w w' := by
  obtain ⟨la, ll, lc, rfl⟩ := hlost
  go_enter Try.func5, Try.ntmps5
  go_wp2_with (at_make; refine wpList_make_blk info_int (by rfl) _ _ _ (by rfl) (by kernel_rfl) .i64 .i64 _ _ n (by rfl) (by rfl) rfl rfl (by omega) (by omega) ?_; intro w1 hblk hmk)
  have hWB := hmk (w.alloc (.cells #[.slice a' m cap', .slice la ll lc, .int .i64 x, .int .i64 y] 26)) (Gr.refl _)
  have HB0 := Lib.hid (show (w.alloc (.cells #[.slice a' m cap', .slice la ll lc, .int .i64 x, .int .i64 y] 26)).cell? ⟨w.heap.size, 0, none⟩ = some (.slice a' m cap') by simp)
  have HWW := Lib.hid ((Gr.refl w).alloc (.cells #[.slice a' m cap', .slice la ll lc, .int .i64 x, .int .i64 y] 26))
  have hgs : (w.alloc (.cells #[.slice a' m cap', .slice la ll lc, .int .i64 x, .int .i64 y] 26)).heap.size = w.heap.size + 1 := by simp
  rw [hgs] at hblk
  have HGE : Hid ((w.alloc (.cells #[.slice a' m cap', .slice la ll lc, .int .i64 x, .int .i64 y] 26)).heap.size ≤ w.heap.size + 1) := Nat.le_of_eq hgs
  generalize (w.alloc (.cells #[.slice a' m cap', .slice la ll lc, .int .i64 x, .int .i64 y] 26)) = wb at *
  have HWB := Lib.hid hWB
  have HBK := Lib.hid hblk
  clear hmk hgs hblk hWB
  go_loopw [14] (fun i wr => ∃ k : Nat, k ≤ n ∧ i = .int .i64 k ∧ (∃ f, Hid (Blk .i64 3 wr (w.heap.size + 1) n f ∧ ∀ i, i < k → f i = -1)) ∧ Hid (Gr wb wr)) (fun i _ => n - (intOf i).toNat)
  case atStart => exact ⟨0, Nat.zero_le _, rfl, ⟨_, HBK.out, fun i hi => absurd hi (by omega)⟩, HWB⟩
  case round =>
    obtain ⟨k, hk, rfl, ⟨f, HF⟩, HG⟩ := hrel
    by_cases hlt : k < n
    · have c0 := HF.out.1.cell hlt
      have c1 := HF.out.1.free k
      have i0 : (0 : Int) ≤ (k : Int) := by omega
      have i1 : (k : Int) < (n : Int) := by omega
      go_wp2
      go_roundw
      case rel => exact ⟨k + 1, by omega, by go_num, ⟨_, HF.out.1.set k (-1), fun i hi => by
          by_cases e : i = k
          · rw [e, upd_at]
          · rw [upd_ne _ _ e]; exact HF.out.2 i (by omega)⟩, HG.out.setCell HGE.out _⟩
      case measure => simp [intOf]; omega
    · obtain rfl : k = n := by omega
      have HF1 : Hid (Blk .i64 3 wr (w.heap.size + 1) k f ∧ ∀ i, i < k → f i = dl A S 0 i) := HF
      have b0 := HG.out.cell HB0.out
      obtain ⟨wo, hwo⟩ : ∃ wo : World, wo = wr := ⟨_, rfl⟩
      rw [← hwo] at HF1 HG b0
      rw [← hwo]
      clear hwo HF
      go_wp2
      go_loopw [24] (fun i wr => ∃ q : Nat, q ≤ m ∧ i = .int .i64 q ∧ (∃ f, Hid (Blk .i64 3 wr (w.heap.size + 1) k f ∧ ∀ i, i < k → f i = dl A S q i)) ∧ Hid (Gr wb wr)) (fun i _ => m - (intOf i).toNat)
      case atStart => exact ⟨0, Nat.zero_le _, rfl, ⟨_, HF1⟩, HG⟩
      case round =>
        obtain ⟨q, hq, rfl, ⟨f, HF⟩, HG⟩ := hrel
        have HGW := Lib.hid (HWW.out.trans HG.out)
        by_cases hqm : q < m
        · obtain ⟨b', off', rfl, hS2⟩ := hS.out (by omega)
          have s0 := HGW.out.cell (hS2 q hqm 0 (by omega))
          have s1 := HGW.out.cell (hS2 q hqm 1 (by omega))
          have s2 := HGW.out.cell (hS2 q hqm 2 (by omega))
          have s3 := HGW.out.cell (hS2 q hqm 3 (by omega))
          clear hS2 hS
          rw [Nat.add_zero] at s0
          have q0 : (0 : Int) ≤ (q : Int) := by omega
          have q1 : (q : Int) < (m : Int) := by omega
          by_cases hin : 0 ≤ S q 0 ∧ S q 0 < (k : Int)
          · obtain ⟨j, hj⟩ := Int.eq_ofNat_of_zero_le hin.1
            have hjk : j < k := by omega
            obtain ⟨b, off, rfl, hA2⟩ := hA.out (by omega)
            have d0 := HGW.out.cell (hA2 j hjk 0 (by omega))
            clear hA2 hA
            rw [Nat.add_zero] at d0
            have HD : Hid (∀ i, i < k → upd f j (wrap64 (S q 2 - A j 0)) i = dl A S (q + 1) i) := fun i hi => by
              by_cases e : i = j
              · rw [e, upd_at, dl_at hj]
              · rw [upd_ne _ _ e, dl_not (by rw [hj]; omega)]; exact HF.out.2 i hi
            rw [hj] at s0
            have j0 : (0 : Int) ≤ (j : Int) := by omega
            have j1 : (j : Int) < (k : Int) := by omega
            generalize S q 1 = n1 at s1
            generalize S q 2 = n2 at s2 HD
            generalize S q 3 = n3 at s3
            generalize A j 0 = n4 at d0 HD
            have k0 := HF.out.1.cell hjk
            have k1 := HF.out.1.free j
            clear hin hj
            go_wp2
            have hga := Lib.hid ((Gr.refl wr).alloc (.cells #[.int .i64 j, .int .i64 n1, .int .i64 n2, .int .i64 n3] 29))
            have e0 := hga.out.cell d0
            have e1 := hga.out.cell k0
            have e2 := (hga.out.frozen (cell_lt k0)).trans k1
            have e3 : (wr.alloc (.cells #[.int .i64 j, .int .i64 n1, .int .i64 n2, .int .i64 n3] 29)).cell? ⟨wr.heap.size, 0, none⟩ = some (.int .i64 j) := by simp
            have e4 : (wr.alloc (.cells #[.int .i64 j, .int .i64 n1, .int .i64 n2, .int .i64 n3] 29)).cell? ⟨wr.heap.size, 2, none⟩ = some (.int .i64 n2) := by simp
            have HBK2 := Lib.hid ((HF.out.1.gr hga.out).set j (wrap64 (n2 - n4)))
            have HG2 := Lib.hid ((HG.out.trans hga.out).drew.setCell (p := ⟨w.heap.size + 1, j, none⟩) HGE.out (.int .i64 (wrap64 (n2 - n4))))
            clear d0 k0 k1 s0 s1 s2 s3 hga
            generalize wr.alloc (.cells #[.int .i64 j, .int .i64 n1, .int .i64 n2, .int .i64 n3] 29) = wa at *
            go_still_tail 13, (by kernel_rfl)
            change wpList _ _ _ _ _ (World.drew _)
            go_wp2
            go_roundw
            case rel => exact ⟨q + 1, by omega, by go_num, ⟨_, HBK2.out, HD.out⟩, HG2.out⟩
            case measure => simp [intOf]; omega
          · have HD : Hid (∀ i, i < k → f i = dl A S (q + 1) i) := fun i hi => by
              rw [dl_not (by omega)]; exact HF.out.2 i hi
            have HFA := Lib.hid (HF.out.1.alloc (.cells #[.int .i64 (S q 0), .int .i64 (S q 1), .int .i64 (S q 2), .int .i64 (S q 3)] 29))
            have HGA := Lib.hid (HG.out.alloc (.cells #[.int .i64 (S q 0), .int .i64 (S q 1), .int .i64 (S q 2), .int .i64 (S q 3)] 29))
            generalize S q 0 = n0 at s0 HFA HGA hin
            generalize S q 1 = n1 at s1 HFA HGA
            generalize S q 2 = n2 at s2 HFA HGA
            generalize S q 3 = n3 at s3 HFA HGA
            have hneg : n0 < 0 ∨ (k : Int) ≤ n0 := by omega
            clear hin
            rcases hneg with hneg | hneg
            · go_wp2
              go_roundw
              case rel => exact ⟨q + 1, by omega, by go_num, ⟨_, HFA.out, HD.out⟩, HGA.out⟩
              case measure => simp [intOf]; omega
            · have hpos : 0 ≤ n0 := by omega
              go_wp2
              go_roundw
              case rel => exact ⟨q + 1, by omega, by go_num, ⟨_, HFA.out, HD.out⟩, HGA.out⟩
              case measure => simp [intOf]; omega
        · obtain rfl : q = m := by omega
          go_wp2
          go_ret
          refine ⟨_, rfl, ?_, HGW.out⟩
          have := (HF.out.1.congr HF.out.2).ints (by omega)
          exact this

set_option maxRecDepth 100000 in
set_option maxHeartbeats 4000000 in
theorem linkDelays_ok {A S : Nat → Nat → Int} (a a' : Option Addr) (cap n cap' m : Nat) (lost : Value) (x y : Int) (w : World) (hn : n ≤ 150) (hm : m ≤ 150)
    (hA : Hid (0 < n → ∃ b off, a = some ⟨b, off, none⟩ ∧ ∀ i, i < n → ∀ j, j < 5 → w.cell? ⟨b, off + i * 5 + j, none⟩ = some (.int .i64 (A i j)))) (hS : Hid (0 < m → ∃ b off, a' = some ⟨b, off, none⟩ ∧ ∀ i, i < m → ∀ j, j < 4 → w.cell? ⟨b, off + i * 4 + j, none⟩ = some (.int .i64 (S i j)))) (hlost : ∃ a l c, lost = .slice a l c) :
    Calls Try.prog 3 #[.slice a n cap, .agg #[.slice a' m cap', lost, .int .i64 x, .int .i64 y]] w fun e w' => e = .returned (.bool true) ∧ Gr w w' := by
  obtain ⟨la, ll, lc, rfl⟩ := hlost
  have HWW := Lib.hid ((Gr.refl w).alloc (.cells #[.slice a' m cap', .slice la ll lc, .int .i64 x, .int .i64 y] 26))
  have HB0 := Lib.hid (show (w.alloc (.cells #[.slice a' m cap', .slice la ll lc, .int .i64 x, .int .i64 y] 26)).cell? ⟨w.heap.size, 0, none⟩ = some (.slice a' m cap') by simp)
  have HD : Hid (∀ W, Gr w W → Calls Try.prog 5 #[.slice a n cap, .agg #[.slice a' m cap', .slice la ll lc, .int .i64 x, .int .i64 y]] W fun e w' => ∃ r, e = .returned r ∧ Ints w' r (fnList (dl A S m) n) ∧ Gr W w') := by
    intro W hW
    refine delays_slice a a' cap n cap' m _ x y W hn hm (fun h => ?_) (fun h => ?_) ⟨_, _, _, rfl⟩
    · obtain ⟨b, off, h1, h2⟩ := hA.out h
      exact ⟨b, off, h1, fun i hi j hj => hW.cell (h2 i hi j hj)⟩
    · obtain ⟨b, off, h1, h2⟩ := hS.out h
      exact ⟨b, off, h1, fun i hi j hj => hW.cell (h2 i hi j hj)⟩
  go_enter Try.func3, Try.ntmps3
  go_wp2_with (go_at_call 5; refine (HD.out _ HWW.out).mono ?_; rintro e w1 ⟨r, rfl, hr, hg1⟩; obtain ⟨ra, rcap, rfl⟩ := ints_shape' hr; rw [fnList_len]; have HR := Lib.hid (ints_any hr); have HG1 := Lib.hid hg1; clear hr hg1)
  generalize (w.alloc (.cells #[.slice a' m cap', .slice la ll lc, .int .i64 x, .int .i64 y] 26)) = wb at *
  go_loopw [4, 6] (fun r i wr => r = .bool false ∧ ∃ k : Nat, k ≤ n ∧ i = .int .i64 k ∧ Hid (Gr w1 wr)) (fun _ i _ => n - (intOf i).toNat)
  case atStart => exact ⟨rfl, 0, Nat.zero_le _, rfl, Gr.refl _⟩
  case round =>
    obtain ⟨rfl, k, hk, rfl, HG⟩ := hrel
    have i0 : (0 : Int) ≤ (k : Int) := by omega
    by_cases hlt : k < n
    · have i1 : (k : Int) < (n : Int) := by omega
      have b0 := HG.out.cell (HG1.out.cell HB0.out)
      obtain ⟨b, off, rfl, hA2⟩ := hA.out (by omega)
      have D0 := Lib.hid (HWW.out.cell (hA2 k hlt 0 (by omega)))
      obtain ⟨rb, roff, rfl, hR2⟩ := HR.out (by rw [fnList_len]; omega)
      have R0 := Lib.hid (hR2 k (by rw [fnList_len]; exact hlt))
      rw [fnList_getD _ hlt] at R0
      clear hA2 hR2
      go_wp2
      obtain ⟨wo, hwo⟩ : ∃ wo : World, wo = wr := ⟨_, rfl⟩
      rw [← hwo] at HG b0
      rw [← hwo]
      clear hwo b0
      go_loopw [7, 8] (fun t i wr => ∃ q : Nat, q ≤ m ∧ i = .int .i64 q ∧ t = .int .i64 (dl A S q k) ∧ Hid (Gr w1 wr)) (fun _ i _ => m - (intOf i).toNat)
      case atStart => exact ⟨0, Nat.zero_le _, rfl, rfl, HG⟩
      case round =>
        obtain ⟨q, hq, rfl, rfl, HG⟩ := hrel
        have b0 := HG.out.cell (HG1.out.cell HB0.out)
        have q0 : (0 : Int) ≤ (q : Int) := by omega
        by_cases hqm : q < m
        · have q1 : (q : Int) < (m : Int) := by omega
          obtain ⟨b', off', rfl, hS2⟩ := hS.out (by omega)
          have s0 := HG.out.cell (HG1.out.cell (HWW.out.cell (hS2 q hqm 0 (by omega))))
          have s2 := HG.out.cell (HG1.out.cell (HWW.out.cell (hS2 q hqm 2 (by omega))))
          have d0 := HG.out.cell (HG1.out.cell D0.out)
          rw [Nat.add_zero] at s0 d0
          clear hS2
          by_cases hsk : S q 0 = (k : Int)
          · have HDL := Lib.hid (dl_at (A := A) hsk)
            have hbq : (S q 0 == (k : Int)) = true := by simpa using hsk
            clear hsk
            generalize S q 0 = n0 at s0 hbq
            generalize S q 2 = n2 at s2 HDL
            generalize A k 0 = n4 at d0 HDL
            go_wp2
            go_quiet (fail)
            go_wp2
            go_roundw
            case rel => exact ⟨q + 1, by omega, by go_num, by rw [HDL.out], HG.out.drewN _⟩
            case measure => simp [intOf]; omega
          · have HDL := Lib.hid (dl_not (A := A) hsk)
            have hbq : (S q 0 == (k : Int)) = false := by simpa using hsk
            clear hsk
            generalize S q 0 = n0 at s0 hbq
            go_wp2
            go_roundw
            case rel => exact ⟨q + 1, by omega, by go_num, by rw [HDL.out], HG⟩
            case measure => simp [intOf]; omega
        · obtain rfl : q = m := by omega
          have r0 := HG.out.cell R0.out
          generalize dl A S q k = z at *
          go_wp2
          go_roundw
          case rel => exact ⟨rfl, k + 1, by omega, by go_num, HG⟩
          case measure => simp [intOf]; omega
    · obtain rfl : k = n := by omega
      go_wp2
      go_ret
      exact ⟨rfl, HWW.out.trans (HG1.out.trans HG.out)⟩
end Go.Proofs.Ytmangbbcnkbfkaa

/-
  millraceref.ScedFits where the flows may be; millracelaw.ScedFits.
-/
import Derived.Test.YtmangbbcnkbfkaaDoorFlowD
namespace Go.Proofs.YtmangbbcnkbfkaaDoor
open Go.RowKit Go.Extern.Stop Go.Stop Go.Extern

/-- Some promise ends at p, and all ahead of it go further. -/
theorem proLen_first {F : Nat → Flw} {n : Nat} (h1 : 1 ≤ n) : ∃ i, i < n ∧ (F i).ps.length = proLen F (F 0).ps.length n ∧ ∀ j, j < i → proLen F (F 0).ps.length n < (F j).ps.length := by
  have hall : ∀ i, i < n → proLen F (F 0).ps.length n ≤ (F i).ps.length := fun i hi => proLen_le hi
  have hex : ∃ i, i < n ∧ (F i).ps.length = proLen F (F 0).ps.length n := by
    rcases proLen_at (F := F) (m := (F 0).ps.length) (k := n) with h | ⟨i, h2, h3⟩
    · exact ⟨0, by omega, h.symm⟩
    · exact ⟨i, h2, h3.symm⟩
  generalize proLen F (F 0).ps.length n = p at *
  obtain ⟨i, h2, h3⟩ := hex
  clear h1
  induction i using Nat.strongRecOn with
  | ind i ih =>
    by_cases hh : ∃ j, j < i ∧ (F j).ps.length = p
    · obtain ⟨j, h4, h5⟩ := hh
      exact ih j h4 (by omega) h5
    · refine ⟨i, h2, h3, fun j hj => ?_⟩
      have := hall j (by omega)
      rcases Nat.lt_or_ge p (F j).ps.length with h6 | h6
      · exact h6
      · exact absurd ⟨j, hj, by omega⟩ hh

set_option maxRecDepth 100000 in
set_option maxHeartbeats 8000000 in
theorem rfits_ok {v : Value} {n q : Nat} {F : Nat → Flw} (B : Bool) (w : World) (hF : Flows w v n F) (h1 : 1 ≤ n) (h8 : n ≤ 8) (hcur : Hid (∀ i, i < n → ckCurve (F i).ps = 0))
    (hq : q ≤ proLen F (F 0).ps.length n) (hfit : Hid (∀ t, t < q → proSum F t n ≤ t)) (hend : B = true ∧ q = proLen F (F 0).ps.length n ∨ B = false ∧ q < proLen F (F 0).ps.length n ∧ (q : Int) < proSum F q n) :
    Calls Tryd.prog 21 #[v] w fun e w' => e = .returned (.bool B) ∧ Gr w w' := by
  obtain ⟨a, cap, rfl, hl, hat, hA⟩ := hF
  have HA := Lib.hid hA
  have HT := Lib.hid hat
  have i2 : (0 : Int) < (n : Int) := by omega
  have i3 : 0 < n := by omega
  obtain ⟨b, off, rfl, hA2⟩ := HA.out i3
  have D := Lib.hid hA2
  obtain ⟨i0, hi0, hi1, hi2⟩ := proLen_first (F := F) h1
  have HLE := Lib.hid (fun i (hi : i < n) => proLen_le (F := F) (m := (F 0).ps.length) hi)
  have HI1 := Lib.hid hi1
  have HI2 := Lib.hid hi2
  have hpm : proLen F (F 0).ps.length n ≤ 9223372036854775807 := by
    have := (HT.out i0 hi0).2.len
    omega
  generalize proLen F (F 0).ps.length n = p at *
  have HEND := Lib.hid hend
  clear hA hat hend hi1 hi2 hA2
  go_enter Tryd.func21, Tryd.ntmps21
  go_wp2
  go_loopw [3] (fun i wr => ∃ t : Nat, t ≤ q ∧ i = .int .i64 t ∧ Hid (Gr w wr)) (fun i _ => q - (intOf i).toNat)
  case atStart => exact ⟨0, Nat.zero_le _, rfl, Gr.refl _⟩
  case round =>
    obtain ⟨t, ht, rfl, HG⟩ := hrel
    have t0 : (0 : Int) ≤ (t : Int) := by omega
    have t1 : (t : Int) ≤ 9223372036854775807 := by omega
    by_cases htp : t < p
    · have HPS := Lib.hid (fun j (hj : j ≤ n) => proSum_in (F := F) (t := t) (n := n) (k := j) hcur.out (fun i hi => by have := HLE.out i hi; omega) hj)
      have HPE : Hid (∀ j, proSum F t (j + 1) = proSum F t j + (F j).ps.getD t 0) := Lib.hid (fun j => rfl)
      go_wp2
      go_loopw [4, 11] (fun s i wr => ∃ j : Nat, j ≤ n ∧ i = .int .i64 j ∧ s = .int .i64 (proSum F t j) ∧ Hid (Gr w wr)) (fun _ i _ => n - (intOf i).toNat)
      case atStart => exact ⟨0, Nat.zero_le _, rfl, rfl, HG⟩
      case round =>
        obtain ⟨j, hj, rfl, rfl, HI⟩ := hrel
        have hs0 := HPS.out j hj
        by_cases hlj : j < n
        · have c0 := HI.out.cell (D.out j hlj).1
          have c1 := HI.out.cell (D.out j hlj).2
          obtain ⟨a3, q3, e3⟩ := ints_shape (HT.out j hlj).1
          obtain ⟨a4, q4, e4⟩ := ints_shape (HT.out j hlj).2
          have HPP := Lib.hid (HT.out j hlj).2
          rw [e3] at c0
          rw [e4] at c1 HPP
          have hlen : t < (F j).ps.length := by have := HLE.out j hlj; omega
          obtain ⟨b5, off5, rfl, hC⟩ := ints_any HPP.out (by omega)
          have d0 := HI.out.cell (hC t hlen)
          have hv := curve_in (hcur.out j hlj) hlen
          have HSE := Lib.hid (HPE.out j)
          have hl4 := HPP.out.len
          clear e3 e4 hC
          generalize (F j).ps.length = l4 at *
          generalize (F j).cs.length = l3 at *
          generalize (F j).ps.getD t 0 = x at *
          generalize proSum F t j = y at *
          have j0 : (0 : Int) ≤ (j : Int) := by omega
          have j1 : (j : Int) < (n : Int) := by omega
          have t2 : (t : Int) < (l4 : Int) := by omega
          have t3 : ((t : Int) == (l4 : Int)) = false := by simp; omega
          have HGA := Lib.hid (HI.out.alloc (.cells #[.slice a3 l3 q3, .slice (some ⟨b5, off5, none⟩) l4 q4] 52))
          have d5 := ((Gr.refl wr).alloc (.cells #[.slice a3 l3 q3, .slice (some ⟨b5, off5, none⟩) l4 q4] 52)).cell d0
          go_wp2
          go_roundw
          case rel => exact ⟨j + 1, by omega, by go_num, by rw [HSE.out], HGA.out⟩
          case measure => simp [intOf] <;> omega
        · obtain rfl : j = n := by omega
          by_cases htq : t < q
          · have hy := hfit.out t htq
            generalize proSum F t j = y at *
            go_wp2
            go_roundw
            case rel => exact ⟨t + 1, by omega, by go_num, HI⟩
            case measure => simp [intOf] <;> omega
          · obtain rfl : t = q := by omega
            rcases HEND.out with ⟨_, h2⟩ | ⟨rfl, _, hy⟩
            · exfalso; omega
            · generalize proSum F t j = y at *
              go_wp2
              go_ret
              exact ⟨rfl, HI.out⟩
    · rcases HEND.out with ⟨rfl, h2⟩ | ⟨_, h2, _⟩
      · obtain rfl : t = q := by omega
        subst h2
        have HPS := Lib.hid (fun j (hj : j ≤ i0) => proSum_in (F := F) (t := t) (n := i0) (k := j) (fun i hi => hcur.out i (by omega)) (fun i hi => HI2.out i hi) hj)
        have HPE : Hid (∀ j, proSum F t (j + 1) = proSum F t j + (F j).ps.getD t 0) := Lib.hid (fun j => rfl)
        go_wp2
        go_loopw [4, 11] (fun s i wr => ∃ j : Nat, j ≤ i0 ∧ i = .int .i64 j ∧ s = .int .i64 (proSum F t j) ∧ Hid (Gr w wr)) (fun _ i _ => i0 - (intOf i).toNat)
        case atStart => exact ⟨0, Nat.zero_le _, rfl, rfl, HG⟩
        case round =>
          obtain ⟨j, hj, rfl, rfl, HI⟩ := hrel
          have hs0 := HPS.out j hj
          have hln : j < n := by omega
          have c0 := HI.out.cell (D.out j hln).1
          have c1 := HI.out.cell (D.out j hln).2
          obtain ⟨a3, q3, e3⟩ := ints_shape (HT.out j hln).1
          obtain ⟨a4, q4, e4⟩ := ints_shape (HT.out j hln).2
          have HPP := Lib.hid (HT.out j hln).2
          rw [e3] at c0
          rw [e4] at c1 HPP
          have j0 : (0 : Int) ≤ (j : Int) := by omega
          have j1 : (j : Int) < (n : Int) := by omega
          by_cases hlj : j < i0
          · have hlen : t < (F j).ps.length := HI2.out j hlj
            obtain ⟨b5, off5, rfl, hC⟩ := ints_any HPP.out (by omega)
            have d0 := HI.out.cell (hC t hlen)
            have hv := curve_in (hcur.out j hln) hlen
            have HSE := Lib.hid (HPE.out j)
            have hl4 := HPP.out.len
            clear e3 e4 hC
            generalize (F j).ps.length = l4 at *
            generalize (F j).cs.length = l3 at *
            generalize (F j).ps.getD t 0 = x at *
            generalize proSum F t j = y at *
            have t2 : (t : Int) < (l4 : Int) := by omega
            have t3 : ((t : Int) == (l4 : Int)) = false := by simp; omega
            have HGA := Lib.hid (HI.out.alloc (.cells #[.slice a3 l3 q3, .slice (some ⟨b5, off5, none⟩) l4 q4] 52))
            have d5 := ((Gr.refl wr).alloc (.cells #[.slice a3 l3 q3, .slice (some ⟨b5, off5, none⟩) l4 q4] 52)).cell d0
            go_wp2
            go_roundw
            case rel => exact ⟨j + 1, by omega, by go_num, by rw [HSE.out], HGA.out⟩
            case measure => simp [intOf] <;> omega
          · obtain rfl : j = i0 := by omega
            rw [HI1.out] at c1
            clear e3 e4
            generalize (F j).cs.length = l3 at *
            generalize proSum F t j = y at *
            have HGA := Lib.hid (HI.out.alloc (.cells #[.slice a3 l3 q3, .slice a4 t q4] 52))
            go_wp2
            go_ret
            exact ⟨rfl, HGA.out⟩
      · exfalso; omega
end Go.Proofs.YtmangbbcnkbfkaaDoor

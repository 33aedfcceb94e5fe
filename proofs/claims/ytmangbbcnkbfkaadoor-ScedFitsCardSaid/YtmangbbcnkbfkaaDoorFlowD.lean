/-
  sced.Fits and millraceref.ScedFits where the flows may be.
-/
import Derived.Test.YtmangbbcnkbfkaaDoorFlowC
namespace Go.Proofs.YtmangbbcnkbfkaaDoor
open Go.RowKit Go.Extern.Stop Go.Stop Go.Extern

theorem proSum_in {F : Nat → Flw} {n t k : Nat} (hok : ∀ i, i < n → ckCurve (F i).ps = 0) (ht : ∀ i, i < n → t < (F i).ps.length) (hk : k ≤ n) : 0 ≤ proSum F t k ∧ proSum F t k ≤ 1000000000000 * (k : Int) := by
  induction k with
  | zero => simp [proSum]
  | succ k ih =>
    have h1 := ih (by omega)
    have h2 := curve_in (hok k (by omega)) (ht k (by omega))
    rw [proSum]
    omega

set_option maxRecDepth 100000 in
set_option maxHeartbeats 8000000 in
theorem fits_bad {v : Value} {n : Nat} {F : Nat → Flw} (w : World) (hF : Flows w v n F) (hc : scCk F n ≠ 0) :
    Calls Tryd.prog 19 #[v] w fun e w' => e = .returned (.tuple #[.bool false, .iface 23 (.int .i64 (scCk F n))]) ∧ Gr w w' := by
  have H := Lib.hid (by have := scheck_any w hF; rw [errV_ne hc] at this; exact this)
  obtain ⟨a, cap, rfl, _⟩ := hF
  clear hc
  go_enter Tryd.func19, Tryd.ntmps19
  go_wp2_with (go_at_call 20; refine H.out.mono ?_; rintro e w1 ⟨rfl, hg1⟩; have HG1 := Lib.hid hg1; clear hg1)
  go_ret2
  exact ⟨rfl, HG1.out⟩

set_option maxRecDepth 100000 in
set_option maxHeartbeats 8000000 in
theorem fits_ok {v : Value} {n q : Nat} {F : Nat → Flw} (B : Bool) (w : World) (hF : Flows w v n F) (hc : scCk F n = 0) (h1 : 1 ≤ n) (h8 : n ≤ 8) (hcur : Hid (∀ i, i < n → ckCurve (F i).ps = 0))
    (hq : q ≤ proLen F (F 0).ps.length n) (hfit : Hid (∀ t, t < q → proSum F t n ≤ t)) (hend : B = true ∧ q = proLen F (F 0).ps.length n ∨ B = false ∧ q < proLen F (F 0).ps.length n ∧ (q : Int) < proSum F q n) :
    Calls Tryd.prog 19 #[v] w fun e w' => e = .returned (.tuple #[.bool B, .nilIface]) ∧ Gr w w' := by
  have H := Lib.hid (by have := scheck_any w hF; rw [errV_zero hc] at this; exact this)
  obtain ⟨a, cap, rfl, hl, hat, hA⟩ := hF
  have HA := Lib.hid hA
  have HT := Lib.hid hat
  have HQ := Lib.hid hq
  have HEND := Lib.hid hend
  clear hA hat hc hq hend
  have i2 : (0 : Int) < (n : Int) := by omega
  have i3 : 0 < n := by omega
  obtain ⟨b, off, rfl, hA2⟩ := HA.out i3
  have D := Lib.hid hA2
  clear hA2
  have d1 := (D.out 0 i3).2
  rw [Nat.zero_mul, Nat.add_zero] at d1
  obtain ⟨a0, q0, e0⟩ := ints_shape (HT.out 0 i3).2
  have HL0 := Lib.hid (HT.out 0 i3).2.len
  rw [e0] at d1
  clear e0
  generalize hm : (F 0).ps.length = m at *
  have HM := Lib.hid hm
  clear hm
  have hmm := HL0.out
  have HD1 := Lib.hid d1
  go_enter Tryd.func19, Tryd.ntmps19
  go_wp2_with (go_at_call 20; refine H.out.mono ?_; rintro e w1 ⟨rfl, hg1⟩; have HG1 := Lib.hid hg1; have z1 := hg1.cell HD1.out; clear hg1)
  go_loopw [5, 24] (fun s i wr => ∃ k : Nat, k ≤ n ∧ i = .int .i64 k ∧ s = .int .i64 (proLen F m k : Int) ∧ Hid (Gr w wr)) (fun _ i _ => n - (intOf i).toNat)
  case atStart => exact ⟨0, Nat.zero_le _, rfl, rfl, HG1⟩
  case round =>
    obtain ⟨k, hk, rfl, rfl, HG⟩ := hrel
    have hpl := proLen_from (F := F) (m := m) k
    by_cases hlt : k < n
    · have c0 := HG.out.cell (D.out k hlt).1
      have c1 := HG.out.cell (D.out k hlt).2
      obtain ⟨a3, q3, e3⟩ := ints_shape (HT.out k hlt).1
      obtain ⟨a4, q4, e4⟩ := ints_shape (HT.out k hlt).2
      have hl4 := (HT.out k hlt).2.len
      have HPE : Hid (proLen F m (k + 1) = min (proLen F m k) (F k).ps.length) := Lib.hid rfl
      rw [e3] at c0
      rw [e4] at c1
      clear e3 e4
      generalize (F k).ps.length = l4 at *
      generalize (F k).cs.length = l3 at *
      generalize proLen F m k = p at *
      have i0 : (0 : Int) ≤ (k : Int) := by omega
      have i1 : (k : Int) < (n : Int) := by omega
      have HGA := Lib.hid (HG.out.alloc (.cells #[.slice a3 l3 q3, .slice a4 l4 q4] 72))
      rcases Nat.lt_or_ge l4 p with hlp | hlp
      · have HPE2 : Hid (proLen F m (k + 1) = l4) := Lib.hid (by rw [HPE.out]; omega)
        clear HPE
        have hlp' : (l4 : Int) < (p : Int) := by omega
        go_wp2
        go_roundw
        case rel => exact ⟨k + 1, by omega, by go_num, by rw [HPE2.out], HGA.out⟩
        case measure => simp [intOf]; omega
      · have HPE2 : Hid (proLen F m (k + 1) = p) := Lib.hid (by rw [HPE.out]; omega)
        clear HPE
        have hlp' : ¬ (l4 : Int) < (p : Int) := by omega
        go_wp2
        go_roundw
        case rel => exact ⟨k + 1, by omega, by go_num, by rw [HPE2.out], HGA.out⟩
        case measure => simp [intOf]; omega
    · obtain rfl : k = n := by omega
      have hle := Lib.hid (fun i (hi : i < k) => proLen_le (F := F) (m := m) hi)
      generalize hP : proLen F m k = p at *
      clear hP
      have hq := HQ.out
      go_wp2
      go_loopw [35] (fun i wr => ∃ t : Nat, t ≤ q ∧ i = .int .i64 t ∧ Hid (Gr w wr)) (fun i _ => p - (intOf i).toNat)
      case atStart => exact ⟨0, Nat.zero_le _, rfl, HG⟩
      case round =>
        obtain ⟨t, ht, rfl, HG⟩ := hrel
        have t0 : (0 : Int) ≤ (t : Int) := by omega
        by_cases htp : t < p
        · have t1 : (t : Int) < (p : Int) := by omega
          have HPS := Lib.hid (fun j (hj : j ≤ k) => proSum_in (F := F) (t := t) (n := k) (k := j) hcur.out (fun i hi => by have := hle.out i hi; omega) hj)
          have HPE : Hid (∀ j, proSum F t (j + 1) = proSum F t j + (F j).ps.getD t 0) := Lib.hid (fun j => rfl)
          go_wp2
          go_loopw [9, 40] (fun s i wr => ∃ j : Nat, j ≤ k ∧ i = .int .i64 j ∧ s = .int .i64 (proSum F t j) ∧ Hid (Gr w wr)) (fun _ i _ => k - (intOf i).toNat)
          case atStart => exact ⟨0, Nat.zero_le _, rfl, rfl, HG⟩
          case round =>
            obtain ⟨j, hj, rfl, rfl, HI⟩ := hrel
            have hs0 := HPS.out j hj
            by_cases hlj : j < k
            · have c0 := HI.out.cell (D.out j hlj).1
              have c1 := HI.out.cell (D.out j hlj).2
              obtain ⟨a3, q3, e3⟩ := ints_shape (HT.out j hlj).1
              obtain ⟨a4, q4, e4⟩ := ints_shape (HT.out j hlj).2
              have HPP := Lib.hid (HT.out j hlj).2
              rw [e3] at c0
              rw [e4] at c1 HPP
              have hlen : t < (F j).ps.length := by have := hle.out j hlj; omega
              obtain ⟨b5, off5, rfl, hC⟩ := ints_any HPP.out (by omega)
              have d0 := HI.out.cell (hC t hlen)
              have hv := curve_in (hcur.out j hlj) hlen
              have HSE := Lib.hid (HPE.out j)
              have hl4 := HPP.out.len
              clear e3 e4 hC
              generalize (F j).ps.length = l4 at *
              generalize (F j).cs.length = l3 at *
              generalize (F j).ps.getD t 0 = x at *
              generalize proSum F t j = y at *
              have j0 : (0 : Int) ≤ (j : Int) := by omega
              have j1 : (j : Int) < (k : Int) := by omega
              have t2 : (t : Int) < (l4 : Int) := by omega
              have HGA := Lib.hid (HI.out.alloc (.cells #[.slice a3 l3 q3, .slice (some ⟨b5, off5, none⟩) l4 q4] 72))
              have d5 := ((Gr.refl wr).alloc (.cells #[.slice a3 l3 q3, .slice (some ⟨b5, off5, none⟩) l4 q4] 72)).cell d0
              go_wp2
              go_roundw
              case rel => exact ⟨j + 1, by omega, by go_num, by rw [HSE.out], HGA.out⟩
              case measure => simp [intOf]; omega
            · obtain rfl : j = k := by omega
              by_cases htq : t < q
              · have hy := hfit.out t htq
                generalize proSum F t j = y at *
                go_wp2
                go_roundw
                case rel => exact ⟨t + 1, by omega, by go_num, HI⟩
                case measure => simp [intOf]; omega
              · obtain rfl : t = q := by omega
                rcases HEND.out with ⟨_, h2⟩ | ⟨rfl, _, hy⟩
                · exfalso; omega
                · generalize proSum F t j = y at *
                  go_wp2
                  go_ret2
                  exact ⟨rfl, HI.out⟩
        · rcases HEND.out with ⟨rfl, h2⟩ | ⟨_, h2, _⟩
          · obtain rfl : t = q := by omega
            subst h2
            go_wp2
            go_ret2
            exact ⟨rfl, HG.out⟩
          · exfalso; omega
end Go.Proofs.YtmangbbcnkbfkaaDoor

/-
  sced.Check and millraceref.ScedCheck: both tell scCk. (Printed by gensced.py.)
-/
import Derived.Test.YtfdmmfjheiiiiaaDoorFlowA
import Derived.Test.YtfdmmfjheiiiiaaDoorCurveK
namespace Go.Proofs.YtfdmmfjheiiiiaaDoor
open Go.RowKit Go.Extern.Stop Go.Stop Go.Extern

/-- what is wrong with what comes at tick j -/
def cmAt (cs : List Int) (j : Nat) : Int := if cs.getD j 0 < 0 ∨ 100 < cs.getD j 0 then 2 else if 100 < sumTo cs (j + 1) then 4 else 0
/-- what is wrong with flow i -/
def scAt (F : Nat → Flw) (i : Nat) : Int :=
  if ckCurve (F i).ps ≠ 0 then ckCurve (F i).ps else if (F i).cs.length ≠ (F 0).cs.length then 3 else if (F i).ps.length ≤ (F i).cs.length then 2 else firstOf (cmAt (F i).cs) (F i).cs.length
/-- what is wrong with n flows -/
def scCk (F : Nat → Flw) (n : Nat) : Int := if n < 1 ∨ 8 < n then 4 else firstOf (scAt F) n

theorem first_cases {f : Nat → Int} (n : Nat) : (∀ i, i < n → f i = 0) ∨ ∃ q, q < n ∧ (∀ i, i < q → f i = 0) ∧ f q ≠ 0 := by
  induction n with
  | zero => exact .inl fun i hi => absurd hi (by omega)
  | succ n ih =>
    rcases ih with ih | ⟨q, h1, h2, h3⟩
    · by_cases h : f n = 0
      · exact .inl (okTo_succ ih h)
      · exact .inr ⟨n, by omega, ih, h⟩
    · exact .inr ⟨q, by omega, h2, h3⟩
theorem firstOf_none {f : Nat → Int} {n : Nat} (h : firstOf f n = 0) : ∀ i, i < n → f i = 0 := by
  rcases first_cases (f := f) n with h1 | ⟨q, h1, h2, h3⟩
  · exact h1
  · rw [firstOf_at h2 h1 rfl h3] at h
    exact absurd h h3
theorem cmAt_ok {cs : List Int} {j : Nat} (h : cmAt cs j = 0) : (0 ≤ cs.getD j 0 ∧ cs.getD j 0 ≤ 100) ∧ sumTo cs (j + 1) ≤ 100 := by
  unfold cmAt at h
  split at h
  · omega
  · split at h <;> omega
theorem sumTo_in {cs : List Int} {k : Nat} (h : ∀ j, j < k → cmAt cs j = 0) : 0 ≤ sumTo cs k ∧ sumTo cs k ≤ 100 := by
  induction k with
  | zero => simp [sumTo]
  | succ k ih =>
    have h1 := ih (fun j hj => h j (by omega))
    have h2 := cmAt_ok (h k (by omega))
    refine ⟨?_, h2.2⟩
    rw [sumTo]
    omega
theorem scAt_ok {F : Nat → Flw} {i : Nat} (h : scAt F i = 0) : ckCurve (F i).ps = 0 ∧ (F i).cs.length = (F 0).cs.length ∧ (F i).cs.length < (F i).ps.length ∧ ∀ j, j < (F i).cs.length → cmAt (F i).cs j = 0 := by
  unfold scAt at h
  split at h
  · contradiction
  · split at h
    · omega
    · split at h
      · omega
      · exact ⟨by omega, by omega, by omega, firstOf_none h⟩
theorem scAt_bad {F : Nat → Flw} {i : Nat} {c : Int} (h : scAt F i = c) (hne : c ≠ 0) :
    ckCurve (F i).ps = c ∨ ckCurve (F i).ps = 0 ∧ ((F i).cs.length ≠ (F 0).cs.length ∧ c = 3 ∨ (F i).cs.length = (F 0).cs.length ∧ ((F i).ps.length ≤ (F i).cs.length ∧ c = 2 ∨
      (F i).cs.length < (F i).ps.length ∧ ∃ q, q < (F i).cs.length ∧ (∀ j, j < q → cmAt (F i).cs j = 0) ∧ cmAt (F i).cs q = c)) := by
  unfold scAt at h
  split at h
  · exact .inl h
  · split at h
    · exact .inr ⟨by omega, .inl ⟨by omega, by omega⟩⟩
    · split at h
      · exact .inr ⟨by omega, .inr ⟨by omega, .inl ⟨by omega, by omega⟩⟩⟩
      · refine .inr ⟨by omega, .inr ⟨by omega, .inr ⟨by omega, ?_⟩⟩⟩
        rcases first_cases (f := cmAt (F i).cs) (F i).cs.length with h1 | ⟨q, h1, h2, h3⟩
        · rw [firstOf_zero h1] at h
          exact absurd h.symm hne
        · exact ⟨q, h1, h2, by rw [firstOf_at h2 h1 rfl h3] at h; exact h⟩
theorem cmAt_bad {cs : List Int} {j : Nat} {c : Int} (h : cmAt cs j = c) (hne : c ≠ 0) : (cs.getD j 0 < 0 ∨ 100 < cs.getD j 0) ∧ c = 2 ∨ (0 ≤ cs.getD j 0 ∧ cs.getD j 0 ≤ 100) ∧ 100 < sumTo cs (j + 1) ∧ c = 4 := by
  unfold cmAt at h
  split at h
  · exact .inl ⟨by assumption, h.symm⟩
  · split at h
    · exact .inr ⟨by omega, by assumption, h.symm⟩
    · exact absurd h.symm hne
theorem rcheck_of {v : Value} {xs : List Int} {c : Int} (w : World) (h : Ints w v xs) (hc : ckCurve xs = c) : Calls Tryd.prog 12 #[v] w fun e w' => e = .returned (.int .i64 c) ∧ w = w' := by
  subst hc; exact refcheck_any w h
theorem check_zero {v : Value} {xs : List Int} (w : World) (h : Ints w v xs) (hc : ckCurve xs = 0) : Calls Tryd.prog 19 #[v] w fun e w' => e = .returned .nilIface ∧ w = w' := by
  have := check_any w h; rw [errV_zero hc] at this; exact this
theorem check_ne {v : Value} {xs : List Int} {c : Int} (w : World) (h : Ints w v xs) (hc : ckCurve xs = c) (hne : c ≠ 0) : Calls Tryd.prog 19 #[v] w fun e w' => e = .returned (.iface 26 (.int .i64 c)) ∧ w = w' := by
  have := check_any w h; rw [hc, errV_ne hne] at this; exact this

set_option maxRecDepth 100000 in
set_option maxHeartbeats 8000000 in
theorem scheck_ok {v : Value} {n : Nat} {F : Nat → Flw} (w : World) (hF : Flows w v n F) (h1 : 1 ≤ n) (h8 : n ≤ 8) (hok : Hid (∀ i, i < n → scAt F i = 0)) :
    Calls Tryd.prog 15 #[v] w fun e w' => e = .returned .nilIface ∧ Gr w w' := by
  obtain ⟨a, cap, rfl, hl, hat, hA⟩ := hF
  have HA := Lib.hid hA
  have HT := Lib.hid hat
  clear hA hat
  have g1 : (1 : Int) ≤ (n : Int) := by omega
  have g2 : (n : Int) ≤ 8 := by omega
  go_enter Tryd.func15, Tryd.ntmps15
  go_wp2
  all_goals (try (exfalso; omega))
  go_loopw [20] (fun i wr => ∃ k : Nat, k ≤ n ∧ i = .int .i64 k ∧ Hid (Gr w wr)) (fun i _ => n - (intOf i).toNat)
  case atStart => exact ⟨0, Nat.zero_le _, rfl, Gr.refl _⟩
  case round =>
    obtain ⟨k, hk, rfl, HG⟩ := hrel
    by_cases hlt : k < n
    · obtain ⟨b, off, rfl, hA2⟩ := HA.out (by omega)
      have D := Lib.hid (hA2 k (by omega))
      have D0 := Lib.hid (hA2 0 (by omega))
      have c0 := HG.out.cell D.out.1
      have c1 := HG.out.cell D.out.2
      have z0 := HG.out.cell D0.out.1
      rw [Nat.zero_mul, Nat.add_zero] at z0
      obtain ⟨a0, q0, e0⟩ := ints_shape (HT.out k (by omega)).1
      obtain ⟨a1, q1, e1⟩ := ints_shape (HT.out k (by omega)).2
      obtain ⟨a2, q2, e2⟩ := ints_shape (HT.out 0 (by omega)).1
      have HCS := Lib.hid (HT.out k (by omega)).1
      have HPS := Lib.hid (HT.out k (by omega)).2
      have HLL := Lib.hid (show (F k).cs.length ≤ 9223372036854775807 ∧ (F k).ps.length ≤ 9223372036854775807 ∧ (F 0).cs.length ≤ 9223372036854775807 from ⟨(HT.out k (by omega)).1.len, (HT.out k (by omega)).2.len, (HT.out 0 (by omega)).1.len⟩)
      rw [e0] at c0 HCS
      rw [e1] at c1 HPS
      rw [e2] at z0
      have HCA := Lib.hid (ints_any HCS.out)
      clear e0 e1 e2 hA2
      have i0 : (0 : Int) ≤ (k : Int) := by omega
      have i1 : (k : Int) < (n : Int) := by omega
      have i2 : (0 : Int) < (n : Int) := by omega
      have i3 : 0 < n := by omega
      have hk0 := scAt_ok (hok.out k (by omega))
      have hcur := Lib.hid hk0.1
      have hl0 := hk0.2.1
      have hl1 := hk0.2.2.1
      have HCM := Lib.hid hk0.2.2.2
      clear hk0
      have HSI := Lib.hid (fun j (hj : j ≤ (F k).cs.length) => sumTo_in (cs := (F k).cs) (k := j) (fun i hi => HCM.out i (by omega)))
      have HSS := Lib.hid (fun j => show sumTo (F k).cs (j + 1) = sumTo (F k).cs j + (F k).cs.getD j 0 from rfl)
      have HLV := HLL.out
      generalize (F k).cs.length = l0 at *
      generalize (F k).ps.length = l1 at *
      generalize (F 0).cs.length = l2 at *
      subst hl0
      have hl1' : (l0 : Int) < (l1 : Int) := by omega
      have hga := Lib.hid ((Gr.refl wr).alloc (.cells #[.slice a0 l0 q0, .slice a1 l1 q1] 46))
      go_wp2_with (go_at_call 19; refine (check_zero _ (HPS.out.gr (HG.out.alloc _)) hcur.out).mono ?_; rintro e w' ⟨rfl, rfl⟩)
      have z1 := hga.out.cell z0
      have w0 : (wr.alloc (.cells #[.slice a0 l0 q0, .slice a1 l1 q1] 46)).cell? ⟨wr.heap.size, 0, none⟩ = some (.slice a0 l0 q0) := by simp
      have w1 : (wr.alloc (.cells #[.slice a0 l0 q0, .slice a1 l1 q1] 46)).cell? ⟨wr.heap.size, 1, none⟩ = some (.slice a1 l1 q1) := by simp
      have HGA := Lib.hid (HG.out.trans hga.out)
      clear hga z0 c0 c1
      generalize wr.alloc (.cells #[.slice a0 l0 q0, .slice a1 l1 q1] 46) = wa at *
      go_quiet (fail)
      go_wp2
      go_loopw [6, 51] (fun s i wi => ∃ j : Nat, j ≤ l0 ∧ i = .int .i64 j ∧ s = .int .i64 (sumTo (F k).cs j) ∧ Hid (Gr w wi)) (fun _ i _ => l0 - (intOf i).toNat)
      case atStart => exact ⟨0, Nat.zero_le _, rfl, rfl, HGA.out.drewN _⟩
      case round =>
        obtain ⟨j, hj, rfl, rfl, HI⟩ := hrel
        have hs0 := HSI.out j hj
        by_cases hlj : j < l0
        · obtain ⟨b2, off2, rfl, hC2⟩ := HCA.out (by omega)
          have d0 := HI.out.cell (hC2 j (by omega))
          have hv := cmAt_ok (HCM.out j hlj)
          have hss := HSS.out j
          have j0 : (0 : Int) ≤ (j : Int) := by omega
          have j1 : (j : Int) < (l0 : Int) := by omega
          rw [hss] at hv
          have HSE := Lib.hid hss
          clear hss hC2
          generalize (F k).cs.getD j 0 = x at *
          generalize sumTo (F k).cs j = y at *
          obtain ⟨⟨hv1, hv2⟩, hv3⟩ := hv
          go_wp2
          all_goals (try (exfalso; omega))
          first
            | exact ⟨⟨j + 1, by omega, by go_num, by rw [HSE.out], HI⟩, by simp [intOf]; omega⟩
            | (go_roundw
               case rel => exact ⟨j + 1, by omega, by go_num, by rw [HSE.out], HI⟩
               case measure => simp [intOf]; omega)
        · obtain rfl : j = l0 := by omega
          generalize sumTo (F k).cs j = y at *
          go_wp2
          go_roundw
          case rel => exact ⟨k + 1, by omega, by go_num, HI⟩
          case measure => simp [intOf]; omega
    · obtain rfl : k = n := by omega
      go_wp2
      go_ret
      exact ⟨rfl, HG.out⟩

set_option maxRecDepth 100000 in
set_option maxHeartbeats 8000000 in
theorem scheck_bad {v : Value} {n q : Nat} {F : Nat → Flw} {c : Int} (w : World) (hF : Flows w v n F) (h8 : n ≤ 8) (hqn : q < n) (hok : Hid (∀ i, i < q → scAt F i = 0)) (hbad : scAt F q = c) (hne : c ≠ 0) :
    Calls Tryd.prog 15 #[v] w fun e w' => e = .returned (.iface 26 (.int .i64 c)) ∧ Gr w w' := by
  obtain ⟨a, cap, rfl, hl, hat, hA⟩ := hF
  have HA := Lib.hid hA
  have HT := Lib.hid hat
  have HB := Lib.hid (scAt_bad hbad hne)
  have HNE := Lib.hid hne
  clear hA hat hbad hne
  have g1 : (1 : Int) ≤ (n : Int) := by omega
  have g2 : (n : Int) ≤ 8 := by omega
  go_enter Tryd.func15, Tryd.ntmps15
  go_wp2
  all_goals (try (exfalso; omega))
  go_loopw [20] (fun i wr => ∃ k : Nat, k ≤ q ∧ i = .int .i64 k ∧ Hid (Gr w wr)) (fun i _ => n - (intOf i).toNat)
  case atStart => exact ⟨0, Nat.zero_le _, rfl, Gr.refl _⟩
  case round =>
    obtain ⟨k, hk, rfl, HG⟩ := hrel
    by_cases hlt : k < q
    · obtain ⟨b, off, rfl, hA2⟩ := HA.out (by omega)
      have D := Lib.hid (hA2 k (by omega))
      have D0 := Lib.hid (hA2 0 (by omega))
      have c0 := HG.out.cell D.out.1
      have c1 := HG.out.cell D.out.2
      have z0 := HG.out.cell D0.out.1
      rw [Nat.zero_mul, Nat.add_zero] at z0
      obtain ⟨a0, q0, e0⟩ := ints_shape (HT.out k (by omega)).1
      obtain ⟨a1, q1, e1⟩ := ints_shape (HT.out k (by omega)).2
      obtain ⟨a2, q2, e2⟩ := ints_shape (HT.out 0 (by omega)).1
      have HCS := Lib.hid (HT.out k (by omega)).1
      have HPS := Lib.hid (HT.out k (by omega)).2
      have HLL := Lib.hid (show (F k).cs.length ≤ 9223372036854775807 ∧ (F k).ps.length ≤ 9223372036854775807 ∧ (F 0).cs.length ≤ 9223372036854775807 from ⟨(HT.out k (by omega)).1.len, (HT.out k (by omega)).2.len, (HT.out 0 (by omega)).1.len⟩)
      rw [e0] at c0 HCS
      rw [e1] at c1 HPS
      rw [e2] at z0
      have HCA := Lib.hid (ints_any HCS.out)
      clear e0 e1 e2 hA2
      have i0 : (0 : Int) ≤ (k : Int) := by omega
      have i1 : (k : Int) < (n : Int) := by omega
      have i2 : (0 : Int) < (n : Int) := by omega
      have i3 : 0 < n := by omega
      have hk0 := scAt_ok (hok.out k (by omega))
      have hcur := Lib.hid hk0.1
      have hl0 := hk0.2.1
      have hl1 := hk0.2.2.1
      have HCM := Lib.hid hk0.2.2.2
      clear hk0
      have HSI := Lib.hid (fun j (hj : j ≤ (F k).cs.length) => sumTo_in (cs := (F k).cs) (k := j) (fun i hi => HCM.out i (by omega)))
      have HSS := Lib.hid (fun j => show sumTo (F k).cs (j + 1) = sumTo (F k).cs j + (F k).cs.getD j 0 from rfl)
      have HLV := HLL.out
      generalize (F k).cs.length = l0 at *
      generalize (F k).ps.length = l1 at *
      generalize (F 0).cs.length = l2 at *
      subst hl0
      have hl1' : (l0 : Int) < (l1 : Int) := by omega
      have hga := Lib.hid ((Gr.refl wr).alloc (.cells #[.slice a0 l0 q0, .slice a1 l1 q1] 46))
      go_wp2_with (go_at_call 19; refine (check_zero _ (HPS.out.gr (HG.out.alloc _)) hcur.out).mono ?_; rintro e w' ⟨rfl, rfl⟩)
      have z1 := hga.out.cell z0
      have w0 : (wr.alloc (.cells #[.slice a0 l0 q0, .slice a1 l1 q1] 46)).cell? ⟨wr.heap.size, 0, none⟩ = some (.slice a0 l0 q0) := by simp
      have w1 : (wr.alloc (.cells #[.slice a0 l0 q0, .slice a1 l1 q1] 46)).cell? ⟨wr.heap.size, 1, none⟩ = some (.slice a1 l1 q1) := by simp
      have HGA := Lib.hid (HG.out.trans hga.out)
      clear hga z0 c0 c1
      generalize wr.alloc (.cells #[.slice a0 l0 q0, .slice a1 l1 q1] 46) = wa at *
      go_quiet (fail)
      go_wp2
      go_loopw [6, 51] (fun s i wi => ∃ j : Nat, j ≤ l0 ∧ i = .int .i64 j ∧ s = .int .i64 (sumTo (F k).cs j) ∧ Hid (Gr w wi)) (fun _ i _ => l0 - (intOf i).toNat)
      case atStart => exact ⟨0, Nat.zero_le _, rfl, rfl, HGA.out.drewN _⟩
      case round =>
        obtain ⟨j, hj, rfl, rfl, HI⟩ := hrel
        have hs0 := HSI.out j hj
        by_cases hlj : j < l0
        · obtain ⟨b2, off2, rfl, hC2⟩ := HCA.out (by omega)
          have d0 := HI.out.cell (hC2 j (by omega))
          have hv := cmAt_ok (HCM.out j hlj)
          have hss := HSS.out j
          have j0 : (0 : Int) ≤ (j : Int) := by omega
          have j1 : (j : Int) < (l0 : Int) := by omega
          rw [hss] at hv
          have HSE := Lib.hid hss
          clear hss hC2
          generalize (F k).cs.getD j 0 = x at *
          generalize sumTo (F k).cs j = y at *
          obtain ⟨⟨hv1, hv2⟩, hv3⟩ := hv
          go_wp2
          all_goals (try (exfalso; omega))
          first
            | exact ⟨⟨j + 1, by omega, by go_num, by rw [HSE.out], HI⟩, by simp [intOf]; omega⟩
            | (go_roundw
               case rel => exact ⟨j + 1, by omega, by go_num, by rw [HSE.out], HI⟩
               case measure => simp [intOf]; omega)
        · obtain rfl : j = l0 := by omega
          generalize sumTo (F k).cs j = y at *
          go_wp2
          go_roundw
          case rel => exact ⟨k + 1, by omega, by go_num, HI⟩
          case measure => simp [intOf]; omega
    · obtain rfl : k = q := by omega
      obtain ⟨b, off, rfl, hA2⟩ := HA.out (by omega)
      have D := Lib.hid (hA2 k (by omega))
      have D0 := Lib.hid (hA2 0 (by omega))
      have c0 := HG.out.cell D.out.1
      have c1 := HG.out.cell D.out.2
      have z0 := HG.out.cell D0.out.1
      rw [Nat.zero_mul, Nat.add_zero] at z0
      obtain ⟨a0, q0, e0⟩ := ints_shape (HT.out k (by omega)).1
      obtain ⟨a1, q1, e1⟩ := ints_shape (HT.out k (by omega)).2
      obtain ⟨a2, q2, e2⟩ := ints_shape (HT.out 0 (by omega)).1
      have HCS := Lib.hid (HT.out k (by omega)).1
      have HPS := Lib.hid (HT.out k (by omega)).2
      have HLL := Lib.hid (show (F k).cs.length ≤ 9223372036854775807 ∧ (F k).ps.length ≤ 9223372036854775807 ∧ (F 0).cs.length ≤ 9223372036854775807 from ⟨(HT.out k (by omega)).1.len, (HT.out k (by omega)).2.len, (HT.out 0 (by omega)).1.len⟩)
      rw [e0] at c0 HCS
      rw [e1] at c1 HPS
      rw [e2] at z0
      have HCA := Lib.hid (ints_any HCS.out)
      clear e0 e1 e2 hA2
      have i0 : (0 : Int) ≤ (k : Int) := by omega
      have i1 : (k : Int) < (n : Int) := by omega
      have i2 : (0 : Int) < (n : Int) := by omega
      have i3 : 0 < n := by omega
      have HLV := HLL.out
      rcases HB.out with hcur | ⟨hcur, ⟨hb1, rfl⟩ | ⟨hb1, ⟨hb2, rfl⟩ | ⟨hb2, jq, hj1, hj2, hj3⟩⟩⟩
      · have hcur := Lib.hid hcur
        have HGA := Lib.hid (HG.out.alloc (.cells #[.slice a0 (F k).cs.length q0, .slice a1 (F k).ps.length q1] 46))
        generalize (F k).cs.length = l0 at *
        generalize (F k).ps.length = l1 at *
        go_wp2_with (go_at_call 19; refine (check_ne _ (HPS.out.gr (HG.out.alloc _)) hcur.out HNE.out).mono ?_; rintro e w' ⟨rfl, rfl⟩)
        go_ret
        exact ⟨rfl, HGA.out⟩
      · have hcur := Lib.hid hcur
        generalize (F k).cs.length = l0 at *
        generalize (F k).ps.length = l1 at *
        generalize (F 0).cs.length = l2 at *
        have hbb : ((l0 : Int) == (l2 : Int)) = false := by simp; omega
        have hga := Lib.hid ((Gr.refl wr).alloc (.cells #[.slice a0 l0 q0, .slice a1 l1 q1] 46))
        go_wp2_with (go_at_call 19; refine (check_zero _ (HPS.out.gr (HG.out.alloc _)) hcur.out).mono ?_; rintro e w' ⟨rfl, rfl⟩)
        have z1 := hga.out.cell z0
        have w0 : (wr.alloc (.cells #[.slice a0 l0 q0, .slice a1 l1 q1] 46)).cell? ⟨wr.heap.size, 0, none⟩ = some (.slice a0 l0 q0) := by simp
        have w1 : (wr.alloc (.cells #[.slice a0 l0 q0, .slice a1 l1 q1] 46)).cell? ⟨wr.heap.size, 1, none⟩ = some (.slice a1 l1 q1) := by simp
        have HGA := Lib.hid (HG.out.trans hga.out)
        clear hga z0 c0 c1
        generalize wr.alloc (.cells #[.slice a0 l0 q0, .slice a1 l1 q1] 46) = wa at *
        go_quiet (fail)
        go_wp2
        go_ret
        exact ⟨rfl, HGA.out.drewN _⟩
      · have hcur := Lib.hid hcur
        generalize (F k).cs.length = l0 at *
        generalize (F k).ps.length = l1 at *
        generalize (F 0).cs.length = l2 at *
        subst hb1
        have hb3 : (l1 : Int) ≤ (l0 : Int) := by omega
        have hga := Lib.hid ((Gr.refl wr).alloc (.cells #[.slice a0 l0 q0, .slice a1 l1 q1] 46))
        go_wp2_with (go_at_call 19; refine (check_zero _ (HPS.out.gr (HG.out.alloc _)) hcur.out).mono ?_; rintro e w' ⟨rfl, rfl⟩)
        have z1 := hga.out.cell z0
        have w0 : (wr.alloc (.cells #[.slice a0 l0 q0, .slice a1 l1 q1] 46)).cell? ⟨wr.heap.size, 0, none⟩ = some (.slice a0 l0 q0) := by simp
        have w1 : (wr.alloc (.cells #[.slice a0 l0 q0, .slice a1 l1 q1] 46)).cell? ⟨wr.heap.size, 1, none⟩ = some (.slice a1 l1 q1) := by simp
        have HGA := Lib.hid (HG.out.trans hga.out)
        clear hga z0 c0 c1
        generalize wr.alloc (.cells #[.slice a0 l0 q0, .slice a1 l1 q1] 46) = wa at *
        go_quiet (fail)
        go_wp2
        go_ret
        exact ⟨rfl, HGA.out.drewN _⟩
      · have hcur := Lib.hid hcur
        have HCM := Lib.hid hj2
        have HSI := Lib.hid (fun j (hj : j ≤ jq) => sumTo_in (cs := (F k).cs) (k := j) (fun i hi => HCM.out i (by omega)))
        have HSS := Lib.hid (fun j => show sumTo (F k).cs (j + 1) = sumTo (F k).cs j + (F k).cs.getD j 0 from rfl)
        have HCB := Lib.hid (cmAt_bad hj3 HNE.out)
        clear hj2 hj3
        generalize (F k).cs.length = l0 at *
        generalize (F k).ps.length = l1 at *
        generalize (F 0).cs.length = l2 at *
        subst hb1
        have hl1' : (l0 : Int) < (l1 : Int) := by omega
        have hga := Lib.hid ((Gr.refl wr).alloc (.cells #[.slice a0 l0 q0, .slice a1 l1 q1] 46))
        go_wp2_with (go_at_call 19; refine (check_zero _ (HPS.out.gr (HG.out.alloc _)) hcur.out).mono ?_; rintro e w' ⟨rfl, rfl⟩)
        have z1 := hga.out.cell z0
        have w0 : (wr.alloc (.cells #[.slice a0 l0 q0, .slice a1 l1 q1] 46)).cell? ⟨wr.heap.size, 0, none⟩ = some (.slice a0 l0 q0) := by simp
        have w1 : (wr.alloc (.cells #[.slice a0 l0 q0, .slice a1 l1 q1] 46)).cell? ⟨wr.heap.size, 1, none⟩ = some (.slice a1 l1 q1) := by simp
        have HGA := Lib.hid (HG.out.trans hga.out)
        clear hga z0 c0 c1
        generalize wr.alloc (.cells #[.slice a0 l0 q0, .slice a1 l1 q1] 46) = wa at *
        go_quiet (fail)
        go_wp2
        go_loopw [6, 51] (fun s i wi => ∃ j : Nat, j ≤ jq ∧ i = .int .i64 j ∧ s = .int .i64 (sumTo (F k).cs j) ∧ Hid (Gr w wi)) (fun _ i _ => l0 - (intOf i).toNat)
        case atStart => exact ⟨0, Nat.zero_le _, rfl, rfl, HGA.out.drewN _⟩
        case round =>
          obtain ⟨j, hj, rfl, rfl, HI⟩ := hrel
          have hs0 := HSI.out j hj
          obtain ⟨b2, off2, rfl, hC2⟩ := HCA.out (by omega)
          have d0 := HI.out.cell (hC2 j (by omega))
          have hss := HSS.out j
          have j0 : (0 : Int) ≤ (j : Int) := by omega
          have j1 : (j : Int) < (l0 : Int) := by omega
          clear hC2
          by_cases hlj : j < jq
          · have hv := cmAt_ok (HCM.out j hlj)
            rw [hss] at hv
            have HSE := Lib.hid hss
            clear hss
            generalize (F k).cs.getD j 0 = x at *
            generalize sumTo (F k).cs j = y at *
            obtain ⟨⟨hv1, hv2⟩, hv3⟩ := hv
            go_wp2
            all_goals (try (exfalso; omega))
            first
              | exact ⟨⟨j + 1, by omega, by go_num, by rw [HSE.out], HI⟩, by simp [intOf]; omega⟩
              | (go_roundw
                 case rel => exact ⟨j + 1, by omega, by go_num, by rw [HSE.out], HI⟩
                 case measure => simp [intOf]; omega)
          · obtain rfl : j = jq := by omega
            have hv := HCB.out
            rw [hss] at hv
            clear hss
            generalize (F k).cs.getD j 0 = x at *
            generalize sumTo (F k).cs j = y at *
            rcases hv with ⟨hv1, rfl⟩ | ⟨⟨hv1, hv2⟩, hv3, rfl⟩
            · rcases hv1 with hv1 | hv1
              · go_wp2
                go_ret
                exact ⟨rfl, HI.out⟩
              · have hv2 : ¬ x < 0 := by omega
                go_wp2
                go_ret
                exact ⟨rfl, HI.out⟩
            · go_wp2
              go_ret
              exact ⟨rfl, HI.out⟩

set_option maxRecDepth 100000 in
set_option maxHeartbeats 8000000 in
theorem rscheck_ok {v : Value} {n : Nat} {F : Nat → Flw} (w : World) (hF : Flows w v n F) (h1 : 1 ≤ n) (h8 : n ≤ 8) (hok : Hid (∀ i, i < n → scAt F i = 0)) :
    Calls Tryd.prog 5 #[v] w fun e w' => e = .returned (.int .i64 0) ∧ Gr w w' := by
  obtain ⟨a, cap, rfl, hl, hat, hA⟩ := hF
  have HA := Lib.hid hA
  have HT := Lib.hid hat
  clear hA hat
  have g1 : (1 : Int) ≤ (n : Int) := by omega
  have g2 : (n : Int) ≤ 8 := by omega
  go_enter Tryd.func5, Tryd.ntmps5
  go_wp2_with (go_at_call 11; refine (within_yes _ _ _ _ (by omega) (by omega)).mono ?_; rintro e w' ⟨rfl, rfl⟩)
  all_goals (try (exfalso; omega))
  go_loopw [15] (fun i wr => ∃ k : Nat, k ≤ n ∧ i = .int .i64 k ∧ Hid (Gr w wr)) (fun i _ => n - (intOf i).toNat)
  case atStart => exact ⟨0, Nat.zero_le _, rfl, Gr.refl _⟩
  case round =>
    obtain ⟨k, hk, rfl, HG⟩ := hrel
    by_cases hlt : k < n
    · obtain ⟨b, off, rfl, hA2⟩ := HA.out (by omega)
      have D := Lib.hid (hA2 k (by omega))
      have D0 := Lib.hid (hA2 0 (by omega))
      have c0 := HG.out.cell D.out.1
      have c1 := HG.out.cell D.out.2
      have z0 := HG.out.cell D0.out.1
      rw [Nat.zero_mul, Nat.add_zero] at z0
      obtain ⟨a0, q0, e0⟩ := ints_shape (HT.out k (by omega)).1
      obtain ⟨a1, q1, e1⟩ := ints_shape (HT.out k (by omega)).2
      obtain ⟨a2, q2, e2⟩ := ints_shape (HT.out 0 (by omega)).1
      have HCS := Lib.hid (HT.out k (by omega)).1
      have HPS := Lib.hid (HT.out k (by omega)).2
      have HLL := Lib.hid (show (F k).cs.length ≤ 9223372036854775807 ∧ (F k).ps.length ≤ 9223372036854775807 ∧ (F 0).cs.length ≤ 9223372036854775807 from ⟨(HT.out k (by omega)).1.len, (HT.out k (by omega)).2.len, (HT.out 0 (by omega)).1.len⟩)
      rw [e0] at c0 HCS
      rw [e1] at c1 HPS
      rw [e2] at z0
      have HCA := Lib.hid (ints_any HCS.out)
      clear e0 e1 e2 hA2
      have i0 : (0 : Int) ≤ (k : Int) := by omega
      have i1 : (k : Int) < (n : Int) := by omega
      have i2 : (0 : Int) < (n : Int) := by omega
      have i3 : 0 < n := by omega
      have hk0 := scAt_ok (hok.out k (by omega))
      have hcur := Lib.hid hk0.1
      have hl0 := hk0.2.1
      have hl1 := hk0.2.2.1
      have HCM := Lib.hid hk0.2.2.2
      clear hk0
      have HSI := Lib.hid (fun j (hj : j ≤ (F k).cs.length) => sumTo_in (cs := (F k).cs) (k := j) (fun i hi => HCM.out i (by omega)))
      have HSS := Lib.hid (fun j => show sumTo (F k).cs (j + 1) = sumTo (F k).cs j + (F k).cs.getD j 0 from rfl)
      have HLV := HLL.out
      generalize (F k).cs.length = l0 at *
      generalize (F k).ps.length = l1 at *
      generalize (F 0).cs.length = l2 at *
      subst hl0
      have hl1' : (l0 : Int) < (l1 : Int) := by omega
      have hga := Lib.hid ((Gr.refl wr).alloc (.cells #[.slice a0 l0 q0, .slice a1 l1 q1] 30))
      go_wp2_with (first | (go_at_call 12; refine (rcheck_of _ (HPS.out.gr (HG.out.alloc _)) hcur.out).mono ?_; rintro e w' ⟨rfl, rfl⟩) | (go_at_call 11; refine (within_yes _ _ _ _ (by omega) (by omega)).mono ?_; rintro e w' ⟨rfl, rfl⟩))
      have z1 := hga.out.cell z0
      have w0 : (wr.alloc (.cells #[.slice a0 l0 q0, .slice a1 l1 q1] 30)).cell? ⟨wr.heap.size, 0, none⟩ = some (.slice a0 l0 q0) := by simp
      have w1 : (wr.alloc (.cells #[.slice a0 l0 q0, .slice a1 l1 q1] 30)).cell? ⟨wr.heap.size, 1, none⟩ = some (.slice a1 l1 q1) := by simp
      have HGA := Lib.hid (HG.out.trans hga.out)
      clear hga z0 c0 c1
      generalize wr.alloc (.cells #[.slice a0 l0 q0, .slice a1 l1 q1] 30) = wa at *
      go_quiet (fail)
      go_wp2_with (go_at_call 11; refine (within_yes _ _ _ _ (by omega) (by omega)).mono ?_; rintro e w' ⟨rfl, rfl⟩)
      rw [decide_eq_false (show ¬ l1 ≤ l0 by omega)]
      go_loopw [6, 44] (fun s i wi => ∃ j : Nat, j ≤ l0 ∧ i = .int .i64 j ∧ s = .int .i64 (sumTo (F k).cs j) ∧ Hid (Gr w wi)) (fun _ i _ => l0 - (intOf i).toNat)
      case atStart => exact ⟨0, Nat.zero_le _, rfl, rfl, HGA.out.drewN _⟩
      case round =>
        obtain ⟨j, hj, rfl, rfl, HI⟩ := hrel
        have hs0 := HSI.out j hj
        by_cases hlj : j < l0
        · obtain ⟨b2, off2, rfl, hC2⟩ := HCA.out (by omega)
          have d0 := HI.out.cell (hC2 j (by omega))
          have hv := cmAt_ok (HCM.out j hlj)
          have hss := HSS.out j
          have j0 : (0 : Int) ≤ (j : Int) := by omega
          have j1 : (j : Int) < (l0 : Int) := by omega
          rw [hss] at hv
          have HSE := Lib.hid hss
          clear hss hC2
          generalize (F k).cs.getD j 0 = x at *
          generalize sumTo (F k).cs j = y at *
          obtain ⟨⟨hv1, hv2⟩, hv3⟩ := hv
          go_wp2_with (go_at_call 11; refine (within_yes _ _ _ _ (by omega) (by omega)).mono ?_; rintro e w' ⟨rfl, rfl⟩)
          all_goals (try (exfalso; omega))
          first
            | exact ⟨⟨j + 1, by omega, by go_num, by rw [HSE.out], HI⟩, by simp [intOf]; omega⟩
            | (go_roundw
               case rel => exact ⟨j + 1, by omega, by go_num, by rw [HSE.out], HI⟩
               case measure => simp [intOf]; omega)
        · obtain rfl : j = l0 := by omega
          generalize sumTo (F k).cs j = y at *
          go_wp2
          go_roundw
          case rel => exact ⟨k + 1, by omega, by go_num, HI⟩
          case measure => simp [intOf]; omega
    · obtain rfl : k = n := by omega
      go_wp2
      go_ret
      exact ⟨rfl, HG.out⟩

set_option maxRecDepth 100000 in
set_option maxHeartbeats 8000000 in
theorem rscheck_bad {v : Value} {n q : Nat} {F : Nat → Flw} {c : Int} (w : World) (hF : Flows w v n F) (h8 : n ≤ 8) (hqn : q < n) (hok : Hid (∀ i, i < q → scAt F i = 0)) (hbad : scAt F q = c) (hne : c ≠ 0) :
    Calls Tryd.prog 5 #[v] w fun e w' => e = .returned (.int .i64 c) ∧ Gr w w' := by
  obtain ⟨a, cap, rfl, hl, hat, hA⟩ := hF
  have HA := Lib.hid hA
  have HT := Lib.hid hat
  have HB := Lib.hid (scAt_bad hbad hne)
  have HNE := Lib.hid hne
  clear hA hat hbad hne
  have g1 : (1 : Int) ≤ (n : Int) := by omega
  have g2 : (n : Int) ≤ 8 := by omega
  go_enter Tryd.func5, Tryd.ntmps5
  go_wp2_with (go_at_call 11; refine (within_yes _ _ _ _ (by omega) (by omega)).mono ?_; rintro e w' ⟨rfl, rfl⟩)
  all_goals (try (exfalso; omega))
  go_loopw [15] (fun i wr => ∃ k : Nat, k ≤ q ∧ i = .int .i64 k ∧ Hid (Gr w wr)) (fun i _ => n - (intOf i).toNat)
  case atStart => exact ⟨0, Nat.zero_le _, rfl, Gr.refl _⟩
  case round =>
    obtain ⟨k, hk, rfl, HG⟩ := hrel
    by_cases hlt : k < q
    · obtain ⟨b, off, rfl, hA2⟩ := HA.out (by omega)
      have D := Lib.hid (hA2 k (by omega))
      have D0 := Lib.hid (hA2 0 (by omega))
      have c0 := HG.out.cell D.out.1
      have c1 := HG.out.cell D.out.2
      have z0 := HG.out.cell D0.out.1
      rw [Nat.zero_mul, Nat.add_zero] at z0
      obtain ⟨a0, q0, e0⟩ := ints_shape (HT.out k (by omega)).1
      obtain ⟨a1, q1, e1⟩ := ints_shape (HT.out k (by omega)).2
      obtain ⟨a2, q2, e2⟩ := ints_shape (HT.out 0 (by omega)).1
      have HCS := Lib.hid (HT.out k (by omega)).1
      have HPS := Lib.hid (HT.out k (by omega)).2
      have HLL := Lib.hid (show (F k).cs.length ≤ 9223372036854775807 ∧ (F k).ps.length ≤ 9223372036854775807 ∧ (F 0).cs.length ≤ 9223372036854775807 from ⟨(HT.out k (by omega)).1.len, (HT.out k (by omega)).2.len, (HT.out 0 (by omega)).1.len⟩)
      rw [e0] at c0 HCS
      rw [e1] at c1 HPS
      rw [e2] at z0
      have HCA := Lib.hid (ints_any HCS.out)
      clear e0 e1 e2 hA2
      have i0 : (0 : Int) ≤ (k : Int) := by omega
      have i1 : (k : Int) < (n : Int) := by omega
      have i2 : (0 : Int) < (n : Int) := by omega
      have i3 : 0 < n := by omega
      have hk0 := scAt_ok (hok.out k (by omega))
      have hcur := Lib.hid hk0.1
      have hl0 := hk0.2.1
      have hl1 := hk0.2.2.1
      have HCM := Lib.hid hk0.2.2.2
      clear hk0
      have HSI := Lib.hid (fun j (hj : j ≤ (F k).cs.length) => sumTo_in (cs := (F k).cs) (k := j) (fun i hi => HCM.out i (by omega)))
      have HSS := Lib.hid (fun j => show sumTo (F k).cs (j + 1) = sumTo (F k).cs j + (F k).cs.getD j 0 from rfl)
      have HLV := HLL.out
      generalize (F k).cs.length = l0 at *
      generalize (F k).ps.length = l1 at *
      generalize (F 0).cs.length = l2 at *
      subst hl0
      have hl1' : (l0 : Int) < (l1 : Int) := by omega
      have hga := Lib.hid ((Gr.refl wr).alloc (.cells #[.slice a0 l0 q0, .slice a1 l1 q1] 30))
      go_wp2_with (first | (go_at_call 12; refine (rcheck_of _ (HPS.out.gr (HG.out.alloc _)) hcur.out).mono ?_; rintro e w' ⟨rfl, rfl⟩) | (go_at_call 11; refine (within_yes _ _ _ _ (by omega) (by omega)).mono ?_; rintro e w' ⟨rfl, rfl⟩))
      have z1 := hga.out.cell z0
      have w0 : (wr.alloc (.cells #[.slice a0 l0 q0, .slice a1 l1 q1] 30)).cell? ⟨wr.heap.size, 0, none⟩ = some (.slice a0 l0 q0) := by simp
      have w1 : (wr.alloc (.cells #[.slice a0 l0 q0, .slice a1 l1 q1] 30)).cell? ⟨wr.heap.size, 1, none⟩ = some (.slice a1 l1 q1) := by simp
      have HGA := Lib.hid (HG.out.trans hga.out)
      clear hga z0 c0 c1
      generalize wr.alloc (.cells #[.slice a0 l0 q0, .slice a1 l1 q1] 30) = wa at *
      go_quiet (fail)
      go_wp2_with (go_at_call 11; refine (within_yes _ _ _ _ (by omega) (by omega)).mono ?_; rintro e w' ⟨rfl, rfl⟩)
      rw [decide_eq_false (show ¬ l1 ≤ l0 by omega)]
      go_loopw [6, 44] (fun s i wi => ∃ j : Nat, j ≤ l0 ∧ i = .int .i64 j ∧ s = .int .i64 (sumTo (F k).cs j) ∧ Hid (Gr w wi)) (fun _ i _ => l0 - (intOf i).toNat)
      case atStart => exact ⟨0, Nat.zero_le _, rfl, rfl, HGA.out.drewN _⟩
      case round =>
        obtain ⟨j, hj, rfl, rfl, HI⟩ := hrel
        have hs0 := HSI.out j hj
        by_cases hlj : j < l0
        · obtain ⟨b2, off2, rfl, hC2⟩ := HCA.out (by omega)
          have d0 := HI.out.cell (hC2 j (by omega))
          have hv := cmAt_ok (HCM.out j hlj)
          have hss := HSS.out j
          have j0 : (0 : Int) ≤ (j : Int) := by omega
          have j1 : (j : Int) < (l0 : Int) := by omega
          rw [hss] at hv
          have HSE := Lib.hid hss
          clear hss hC2
          generalize (F k).cs.getD j 0 = x at *
          generalize sumTo (F k).cs j = y at *
          obtain ⟨⟨hv1, hv2⟩, hv3⟩ := hv
          go_wp2_with (go_at_call 11; refine (within_yes _ _ _ _ (by omega) (by omega)).mono ?_; rintro e w' ⟨rfl, rfl⟩)
          all_goals (try (exfalso; omega))
          first
            | exact ⟨⟨j + 1, by omega, by go_num, by rw [HSE.out], HI⟩, by simp [intOf]; omega⟩
            | (go_roundw
               case rel => exact ⟨j + 1, by omega, by go_num, by rw [HSE.out], HI⟩
               case measure => simp [intOf]; omega)
        · obtain rfl : j = l0 := by omega
          generalize sumTo (F k).cs j = y at *
          go_wp2
          go_roundw
          case rel => exact ⟨k + 1, by omega, by go_num, HI⟩
          case measure => simp [intOf]; omega
    · obtain rfl : k = q := by omega
      obtain ⟨b, off, rfl, hA2⟩ := HA.out (by omega)
      have D := Lib.hid (hA2 k (by omega))
      have D0 := Lib.hid (hA2 0 (by omega))
      have c0 := HG.out.cell D.out.1
      have c1 := HG.out.cell D.out.2
      have z0 := HG.out.cell D0.out.1
      rw [Nat.zero_mul, Nat.add_zero] at z0
      obtain ⟨a0, q0, e0⟩ := ints_shape (HT.out k (by omega)).1
      obtain ⟨a1, q1, e1⟩ := ints_shape (HT.out k (by omega)).2
      obtain ⟨a2, q2, e2⟩ := ints_shape (HT.out 0 (by omega)).1
      have HCS := Lib.hid (HT.out k (by omega)).1
      have HPS := Lib.hid (HT.out k (by omega)).2
      have HLL := Lib.hid (show (F k).cs.length ≤ 9223372036854775807 ∧ (F k).ps.length ≤ 9223372036854775807 ∧ (F 0).cs.length ≤ 9223372036854775807 from ⟨(HT.out k (by omega)).1.len, (HT.out k (by omega)).2.len, (HT.out 0 (by omega)).1.len⟩)
      rw [e0] at c0 HCS
      rw [e1] at c1 HPS
      rw [e2] at z0
      have HCA := Lib.hid (ints_any HCS.out)
      clear e0 e1 e2 hA2
      have i0 : (0 : Int) ≤ (k : Int) := by omega
      have i1 : (k : Int) < (n : Int) := by omega
      have i2 : (0 : Int) < (n : Int) := by omega
      have i3 : 0 < n := by omega
      have HLV := HLL.out
      rcases HB.out with hcur | ⟨hcur, ⟨hb1, rfl⟩ | ⟨hb1, ⟨hb2, rfl⟩ | ⟨hb2, jq, hj1, hj2, hj3⟩⟩⟩
      · have hcur := Lib.hid hcur
        have HGA := Lib.hid (HG.out.alloc (.cells #[.slice a0 (F k).cs.length q0, .slice a1 (F k).ps.length q1] 30))
        generalize (F k).cs.length = l0 at *
        generalize (F k).ps.length = l1 at *
        have hcn := HNE.out
        have hcb : (c == 0) = false := by simpa using HNE.out
        go_wp2_with (first | (go_at_call 12; refine (rcheck_of _ (HPS.out.gr (HG.out.alloc _)) hcur.out).mono ?_; rintro e w' ⟨rfl, rfl⟩) | (go_at_call 11; refine (within_yes _ _ _ _ (by omega) (by omega)).mono ?_; rintro e w' ⟨rfl, rfl⟩))
        go_ret
        exact ⟨rfl, HGA.out⟩
      · have hcur := Lib.hid hcur
        generalize (F k).cs.length = l0 at *
        generalize (F k).ps.length = l1 at *
        generalize (F 0).cs.length = l2 at *
        have hbb : ((l0 : Int) == (l2 : Int)) = false := by simp; omega
        have hga := Lib.hid ((Gr.refl wr).alloc (.cells #[.slice a0 l0 q0, .slice a1 l1 q1] 30))
        go_wp2_with (first | (go_at_call 12; refine (rcheck_of _ (HPS.out.gr (HG.out.alloc _)) hcur.out).mono ?_; rintro e w' ⟨rfl, rfl⟩) | (go_at_call 11; refine (within_yes _ _ _ _ (by omega) (by omega)).mono ?_; rintro e w' ⟨rfl, rfl⟩))
        have z1 := hga.out.cell z0
        have w0 : (wr.alloc (.cells #[.slice a0 l0 q0, .slice a1 l1 q1] 30)).cell? ⟨wr.heap.size, 0, none⟩ = some (.slice a0 l0 q0) := by simp
        have w1 : (wr.alloc (.cells #[.slice a0 l0 q0, .slice a1 l1 q1] 30)).cell? ⟨wr.heap.size, 1, none⟩ = some (.slice a1 l1 q1) := by simp
        have HGA := Lib.hid (HG.out.trans hga.out)
        clear hga z0 c0 c1
        generalize wr.alloc (.cells #[.slice a0 l0 q0, .slice a1 l1 q1] 30) = wa at *
        go_quiet (fail)
        go_wp2_with (go_at_call 11; refine (within_yes _ _ _ _ (by omega) (by omega)).mono ?_; rintro e w' ⟨rfl, rfl⟩)
        go_ret
        exact ⟨rfl, HGA.out.drewN _⟩
      · have hcur := Lib.hid hcur
        generalize (F k).cs.length = l0 at *
        generalize (F k).ps.length = l1 at *
        generalize (F 0).cs.length = l2 at *
        subst hb1
        have hb3 : (l1 : Int) ≤ (l0 : Int) := by omega
        have hga := Lib.hid ((Gr.refl wr).alloc (.cells #[.slice a0 l0 q0, .slice a1 l1 q1] 30))
        go_wp2_with (first | (go_at_call 12; refine (rcheck_of _ (HPS.out.gr (HG.out.alloc _)) hcur.out).mono ?_; rintro e w' ⟨rfl, rfl⟩) | (go_at_call 11; refine (within_yes _ _ _ _ (by omega) (by omega)).mono ?_; rintro e w' ⟨rfl, rfl⟩))
        have z1 := hga.out.cell z0
        have w0 : (wr.alloc (.cells #[.slice a0 l0 q0, .slice a1 l1 q1] 30)).cell? ⟨wr.heap.size, 0, none⟩ = some (.slice a0 l0 q0) := by simp
        have w1 : (wr.alloc (.cells #[.slice a0 l0 q0, .slice a1 l1 q1] 30)).cell? ⟨wr.heap.size, 1, none⟩ = some (.slice a1 l1 q1) := by simp
        have HGA := Lib.hid (HG.out.trans hga.out)
        clear hga z0 c0 c1
        generalize wr.alloc (.cells #[.slice a0 l0 q0, .slice a1 l1 q1] 30) = wa at *
        go_quiet (fail)
        go_wp2_with (go_at_call 11; refine (within_yes _ _ _ _ (by omega) (by omega)).mono ?_; rintro e w' ⟨rfl, rfl⟩)
        go_ret
        exact ⟨rfl, HGA.out.drewN _⟩
      · have hcur := Lib.hid hcur
        have HCM := Lib.hid hj2
        have HSI := Lib.hid (fun j (hj : j ≤ jq) => sumTo_in (cs := (F k).cs) (k := j) (fun i hi => HCM.out i (by omega)))
        have HSS := Lib.hid (fun j => show sumTo (F k).cs (j + 1) = sumTo (F k).cs j + (F k).cs.getD j 0 from rfl)
        have HCB := Lib.hid (cmAt_bad hj3 HNE.out)
        clear hj2 hj3
        generalize (F k).cs.length = l0 at *
        generalize (F k).ps.length = l1 at *
        generalize (F 0).cs.length = l2 at *
        subst hb1
        have hl1' : (l0 : Int) < (l1 : Int) := by omega
        have hga := Lib.hid ((Gr.refl wr).alloc (.cells #[.slice a0 l0 q0, .slice a1 l1 q1] 30))
        go_wp2_with (first | (go_at_call 12; refine (rcheck_of _ (HPS.out.gr (HG.out.alloc _)) hcur.out).mono ?_; rintro e w' ⟨rfl, rfl⟩) | (go_at_call 11; refine (within_yes _ _ _ _ (by omega) (by omega)).mono ?_; rintro e w' ⟨rfl, rfl⟩))
        have z1 := hga.out.cell z0
        have w0 : (wr.alloc (.cells #[.slice a0 l0 q0, .slice a1 l1 q1] 30)).cell? ⟨wr.heap.size, 0, none⟩ = some (.slice a0 l0 q0) := by simp
        have w1 : (wr.alloc (.cells #[.slice a0 l0 q0, .slice a1 l1 q1] 30)).cell? ⟨wr.heap.size, 1, none⟩ = some (.slice a1 l1 q1) := by simp
        have HGA := Lib.hid (HG.out.trans hga.out)
        clear hga z0 c0 c1
        generalize wr.alloc (.cells #[.slice a0 l0 q0, .slice a1 l1 q1] 30) = wa at *
        go_quiet (fail)
        go_wp2_with (go_at_call 11; refine (within_yes _ _ _ _ (by omega) (by omega)).mono ?_; rintro e w' ⟨rfl, rfl⟩)
        rw [decide_eq_false (show ¬ l1 ≤ l0 by omega)]
        go_loopw [6, 44] (fun s i wi => ∃ j : Nat, j ≤ jq ∧ i = .int .i64 j ∧ s = .int .i64 (sumTo (F k).cs j) ∧ Hid (Gr w wi)) (fun _ i _ => l0 - (intOf i).toNat)
        case atStart => exact ⟨0, Nat.zero_le _, rfl, rfl, HGA.out.drewN _⟩
        case round =>
          obtain ⟨j, hj, rfl, rfl, HI⟩ := hrel
          have hs0 := HSI.out j hj
          obtain ⟨b2, off2, rfl, hC2⟩ := HCA.out (by omega)
          have d0 := HI.out.cell (hC2 j (by omega))
          have hss := HSS.out j
          have j0 : (0 : Int) ≤ (j : Int) := by omega
          have j1 : (j : Int) < (l0 : Int) := by omega
          clear hC2
          by_cases hlj : j < jq
          · have hv := cmAt_ok (HCM.out j hlj)
            rw [hss] at hv
            have HSE := Lib.hid hss
            clear hss
            generalize (F k).cs.getD j 0 = x at *
            generalize sumTo (F k).cs j = y at *
            obtain ⟨⟨hv1, hv2⟩, hv3⟩ := hv
            go_wp2_with (go_at_call 11; refine (within_yes _ _ _ _ (by omega) (by omega)).mono ?_; rintro e w' ⟨rfl, rfl⟩)
            all_goals (try (exfalso; omega))
            first
              | exact ⟨⟨j + 1, by omega, by go_num, by rw [HSE.out], HI⟩, by simp [intOf]; omega⟩
              | (go_roundw
                 case rel => exact ⟨j + 1, by omega, by go_num, by rw [HSE.out], HI⟩
                 case measure => simp [intOf]; omega)
          · obtain rfl : j = jq := by omega
            have hv := HCB.out
            rw [hss] at hv
            clear hss
            generalize (F k).cs.getD j 0 = x at *
            generalize sumTo (F k).cs j = y at *
            rcases hv with ⟨hv1, rfl⟩ | ⟨⟨hv1, hv2⟩, hv3, rfl⟩
            · rcases hv1 with hv1 | hv1
              · go_wp2_with (go_at_call 11; refine (within_no _ _ _ _ (by omega)).mono ?_; rintro e w' ⟨rfl, rfl⟩)
                go_ret
                exact ⟨rfl, HI.out⟩
              · have hv2 : ¬ x < 0 := by omega
                go_wp2_with (go_at_call 11; refine (within_no _ _ _ _ (by omega)).mono ?_; rintro e w' ⟨rfl, rfl⟩)
                go_ret
                exact ⟨rfl, HI.out⟩
            · go_wp2_with (go_at_call 11; refine (within_yes _ _ _ _ (by omega) (by omega)).mono ?_; rintro e w' ⟨rfl, rfl⟩)
              go_ret
              exact ⟨rfl, HI.out⟩
end Go.Proofs.YtfdmmfjheiiiiaaDoor

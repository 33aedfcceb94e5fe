/-
  sced.Make, walked: flows that may not be; ticks that may not be.
-/
import Derived.Test.YtfdmmfjheiiiiaaDoorSmG
namespace Go.Proofs.YtfdmmfjheiiiiaaDoor
open Go.RowKit Go.Extern.Stop Go.Stop Go.Extern

set_option maxRecDepth 100000 in
set_option maxHeartbeats 8000000 in
theorem make_flows (la : Option Addr) (lc n : Nat) (T : Int) (F : Nat → Flw) (w : World) (hF : Flows w (.slice la n lc) n F) (hc : scCk F n ≠ 0) :
    Calls Tryd.prog 7 #[.slice la n lc, .int .i64 T] w fun e w' => e = .returned (.tuple #[.agg #[.slice none 0 0, .slice none 0 0, .slice none 0 0], errV (scCk F n)]) ∧ Gr w w' := by
  have HCK : Hid (Calls Tryd.prog 15 #[.slice la n lc] (w.alloc (.cells #[.slice none 0 0, .slice none 0 0, .slice none 0 0] 35)) fun e w' => e = .returned (.iface 26 (.int .i64 (scCk F n))) ∧ Gr (w.alloc (.cells #[.slice none 0 0, .slice none 0 0, .slice none 0 0] 35)) w') := Lib.hid (by
    have h := scheck_any _ (hF.gr ((Gr.refl w).alloc (.cells #[.slice none 0 0, .slice none 0 0, .slice none 0 0] 35)))
    rw [errV_ne hc] at h
    exact h)
  rw [errV_ne hc]
  clear hF hc
  go_enter Tryd.func7, Tryd.ntmps7
  go_upto_region 2 with (go_at_call 15; refine HCK.out.mono ?_; rintro e w1 ⟨rfl, hg1⟩; have HG1 := Lib.hid hg1; clear hg1)
  clear HCK
  obtain ⟨rb, hrb⟩ : ∃ u, u = w.heap.size := ⟨_, rfl⟩
  have HRB : Hid (PlanB w1 rb ∧ w.heap.size ≤ rb) := Lib.hid (by rw [hrb]; exact ⟨(planB_new w).gr HG1.out, Nat.le_refl _⟩)
  have HGW : Hid (Gr w w1) := Lib.hid (((Gr.refl w).alloc _).trans HG1.out)
  rw [← hrb]
  clear hrb HG1
  have r0 := HRB.out.1.2.1 0 (by omega)
  have r1 := HRB.out.1.2.1 1 (by omega)
  have r2 := HRB.out.1.2.1 2 (by omega)
  have f0 := HRB.out.1.2.2 0 (by omega)
  have f1 := HRB.out.1.2.2 1 (by omega)
  have f2 := HRB.out.1.2.2 2 (by omega)
  go_wp2
  refine bodyPost_ret (v := .tuple #[.agg #[.slice none 0 0, .slice none 0 0, .slice none 0 0], .iface 26 (.int .i64 (scCk F n))]) (by simp [results, Tryd.results7, go_sem, r0, r1, r2]) rfl ⟨rfl, ?_⟩
  exact ((HGW.out.setCell HRB.out.2 _).setCell HRB.out.2 _).setCell HRB.out.2 _
set_option maxRecDepth 100000 in
set_option maxHeartbeats 8000000 in
theorem make_ticks (la : Option Addr) (lc n : Nat) (T : Int) (F : Nat → Flw) (w : World) (hF : Flows w (.slice la n lc) n F) (h8 : n ≤ 8) (hc : scCk F n = 0) (q : Nat) (hq : q < n) (hok : ∀ i, i < q → ¬ (T < ((F i).cs.length : Int) ∨ ((F i).ps.length : Int) ≤ T)) (hbad : T < ((F q).cs.length : Int) ∨ ((F q).ps.length : Int) ≤ T) :
    Calls Tryd.prog 7 #[.slice la n lc, .int .i64 T] w fun e w' => e = .returned (.tuple #[.agg #[.slice none 0 0, .slice none 0 0, .slice none 0 0], .iface 26 (.int .i64 2)]) ∧ Gr w w' := by
  have HCK : Hid (Calls Tryd.prog 15 #[.slice la n lc] (w.alloc (.cells #[.slice none 0 0, .slice none 0 0, .slice none 0 0] 35)) fun e w' => e = .returned .nilIface ∧ Gr (w.alloc (.cells #[.slice none 0 0, .slice none 0 0, .slice none 0 0] 35)) w') := Lib.hid (by
    have h := scheck_any _ (hF.gr ((Gr.refl w).alloc (.cells #[.slice none 0 0, .slice none 0 0, .slice none 0 0] 35)))
    rw [hc] at h
    exact h)
  have HF := Lib.hid hF
  have HOK := Lib.hid hok
  have HBAD := Lib.hid hbad
  have HQ := Lib.hid hq
  have n1 : (n : Int) ≤ 8 := by omega
  clear hF hc hok hbad hq h8
  go_enter Tryd.func7, Tryd.ntmps7
  go_upto_region 4 with (go_at_call 15; refine HCK.out.mono ?_; rintro e w1 ⟨rfl, hg1⟩; have HG1 := Lib.hid hg1; clear hg1)
  clear HCK
  obtain ⟨rb, hrb⟩ : ∃ u, u = w.heap.size := ⟨_, rfl⟩
  have HRB : Hid (PlanB w1 rb ∧ w.heap.size ≤ rb) := Lib.hid (by rw [hrb]; exact ⟨(planB_new w).gr HG1.out, Nat.le_refl _⟩)
  have HGW : Hid (Gr w w1) := Lib.hid (((Gr.refl w).alloc _).trans HG1.out)
  rw [← hrb]
  clear hrb HG1
  go_wp2
  go_loopw [29] (fun s wr => ∃ i : Nat, i ≤ q ∧ s = .int .i64 (i : Int) ∧ Hid (Gr w1 wr)) (fun s _ => n - (intOf s).toNat)
  case atStart => exact ⟨0, Nat.zero_le _, rfl, Gr.refl _⟩
  case round =>
    obtain ⟨i, hi, rfl, HG⟩ := hrel
    have hlt : i < n := by have := HQ.out; omega
    have j0 : (0 : Int) ≤ (i : Int) := by omega
    have j1 : (i : Int) < (n : Int) := by omega
    obtain ⟨b, off, a0, q0, a1, q1, rfl, ⟨c0, c1⟩, _, _⟩ := (HF.out.gr (HGW.out.trans HG.out)).read hlt
    obtain ⟨m0, hm0⟩ : ∃ m0, m0 = (F i).cs.length := ⟨_, rfl⟩
    obtain ⟨m1, hm1⟩ : ∃ m1, m1 = (F i).ps.length := ⟨_, rfl⟩
    rw [← hm0] at c0
    rw [← hm1] at c1
    by_cases hiq : i = q
    · subst hiq
      have hb := HBAD.out
      rw [← hm0, ← hm1] at hb
      have HRX := Lib.hid (HRB.out.1.gr HG.out)
      have r0 := HRX.out.2.1 0 (by omega)
      have r1 := HRX.out.2.1 1 (by omega)
      have r2 := HRX.out.2.1 2 (by omega)
      have f0 := HRX.out.2.2 0 (by omega)
      have f1 := HRX.out.2.2 1 (by omega)
      have f2 := HRX.out.2.2 2 (by omega)
      have rl2 := (HRB.out.1.gr HG.out).1.lt
      clear hm0 hm1
      by_cases h30 : T < (m0 : Int)
      · clear hb
        go_wp2
        refine bodyPost_ret (v := .tuple #[.agg #[.slice none 0 0, .slice none 0 0, .slice none 0 0], .iface 26 (.int .i64 2)]) (by simp [results, Tryd.results7, go_sem, r0, r1, r2, rl2]) rfl ⟨rfl, ?_⟩
        exact ((((HGW.out.trans HG.out).setCell HRB.out.2 _).setCell HRB.out.2 _).setCell HRB.out.2 _).alloc _
      · have h31 : (m1 : Int) ≤ T := hb.resolve_left h30
        clear hb
        go_wp2
        refine bodyPost_ret (v := .tuple #[.agg #[.slice none 0 0, .slice none 0 0, .slice none 0 0], .iface 26 (.int .i64 2)]) (by simp [results, Tryd.results7, go_sem, r0, r1, r2, rl2]) rfl ⟨rfl, ?_⟩
        exact ((((HGW.out.trans HG.out).setCell HRB.out.2 _).setCell HRB.out.2 _).setCell HRB.out.2 _).alloc _
    · have hb := HOK.out i (by omega)
      rw [← hm0, ← hm1] at hb
      have k0 : ¬ T < (m0 : Int) := fun h => hb (.inl h)
      have k1 : ¬ (m1 : Int) ≤ T := fun h => hb (.inr h)
      clear hb hm0 hm1
      go_wp2
      go_roundw
      case measure => simp [intOf]; omega
      case rel => exact ⟨i + 1, by omega, by go_num, HG.out.alloc _⟩
end Go.Proofs.YtfdmmfjheiiiiaaDoor

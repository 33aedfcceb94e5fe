/-
  The law BucketCells: its walk. (Printed by genlaw.py.)
-/
import Derived.Test.YtogmjjaoflaogaaDoorBktI
import Derived.Test.YtogmjjaoflaogaaDoorFrameI
namespace Go.Proofs.YtogmjjaoflaogaaDoor
open Go.RowKit Go.Extern.Stop Go.Stop Go.Extern

set_option maxRecDepth 100000 in
set_option maxHeartbeats 4000000 in
theorem cells_bad (b t r : Int) {v : Value} {l : List Itm} (w : World) (hb : Bd b ∧ Bd t ∧ Bd r) (hx : Items w v l) (hg : Glob w) (hw : wrongC b t r l ≠ 0) :
    Calls Tryd.prog 12 #[bktV b t r, v] w fun e w' => ∃ v', e = .returned (.tuple #[.slice none 0 0, v']) ∧ ErrIs w' v' (wrongC b t r l) (wrongP b t r l) ∧ Gr w w' := by
  have HXX := Lib.hid hx
  have HGL := Lib.hid hg
  have HG0 := Lib.hid ((Gr.refl w).alloc (.cells #[.int .i64 b, .int .i64 t, .int .i64 r] 25))
  obtain ⟨a, cap, rfl⟩ := items_shape hx
  clear hx hg
  by_cases h0 : BIn b t r
  · obtain ⟨B, rfl, rfl, rfl⟩ := bkt_of h0
    have hc := ckB_ok h0
    have HE : Hid (wrongC (B.b : Int) (B.t : Int) (B.r : Int) l = listCode l ∧ wrongP (B.b : Int) (B.t : Int) (B.r : Int) l = listPlace l) := Lib.hid (by unfold wrongC wrongP; rw [if_pos hc, if_pos hc]; exact ⟨rfl, rfl⟩)
    have HZ := Lib.hid (errV_zero hc)
    rw [HE.out.1] at hw
    have HW := Lib.hid hw
    have HH := Lib.hid (fun u => bcheck_any (B.b : Int) (B.t : Int) (B.r : Int) u hb.1 hb.2.1 hb.2.2)
    clear hw h0 hc
    unfold bktV at *
    rw [HE.out.1, HE.out.2]
    go_enter Tryd.func12, Tryd.ntmps12
    go_wp2_with (first
      | (go_at_call 39; (with_reducible refine (HH.out _).mono ?_); rintro e w1 ⟨rfl, hg1⟩; rw [HZ.out]; have HG1 := Lib.hid (HG0.out.trans hg1); clear hg1)
      | (go_at_call 40; (with_reducible refine (ilist_bad _ (HXX.out.gr HG1.out) (HGL.out.gr HG1.out) HW.out).mono ?_); rintro e w2 ⟨ty, x, rfl, he, hg2⟩; have HE2 := Lib.hid he; have HG2 := Lib.hid (HG1.out.trans hg2); clear hg2 he))
    go_ret2
    exact ⟨_, rfl, HE2.out, HG2.out⟩
  · have hc := ckB_no h0
    have HE : Hid (wrongC b t r l = 2 ∧ wrongP b t r l = -1) := Lib.hid (by unfold wrongC wrongP; rw [if_neg (by rw [hc]; decide), if_neg (by rw [hc]; decide)]; exact ⟨hc, rfl⟩)
    have HZ : Hid (errV (ckB b t r) = .iface 28 (.int .i64 2)) := Lib.hid (by rw [hc]; exact errV_ne (by decide))
    have HH := Lib.hid (fun u => bcheck_any b t r u hb.1 hb.2.1 hb.2.2)
    clear hw hc h0
    unfold bktV at *
    rw [HE.out.1, HE.out.2]
    go_enter Tryd.func12, Tryd.ntmps12
    go_wp2_with (go_at_call 39; (with_reducible refine (HH.out _).mono ?_); rintro e w1 ⟨rfl, hg1⟩; rw [HZ.out]; have HG1 := Lib.hid (HG0.out.trans hg1); clear hg1)
    go_ret2
    exact ⟨_, rfl, ErrIs.no _ _, HG1.out⟩

set_option maxRecDepth 100000 in
set_option maxHeartbeats 8000000 in
theorem bucketCells_walk (w : World) (hg : Glob w) (hf : FineIs w) (b t r : Int) (hb : Bd b ∧ Bd t ∧ Bd r) {v : Value} {l : List Itm} (hx : Items w v l) (hbd : ∀ i, i < l.length → (l.getD i .zero).bd) :
    Calls Tryd.prog 3 #[bktV b t r, v] w fun e w' => e = .returned (.bool true) ∧ Gr w w' := by
  have HXX := Lib.hid hx
  have HGL := Lib.hid hg
  have HF := Lib.hid hf
  have HBD : Hid (∀ i, i < l.length → -9223372036854775808 ≤ (l.getD i .zero).t) := Lib.hid (fun i hi => (hbd i hi).1.1)
  have HG0 := Lib.hid ((Gr.refl w).alloc (.cells #[.int .i64 b, .int .i64 t, .int .i64 r] 25))
  have HC : Hid (Cells3 (w.alloc (.cells #[.int .i64 b, .int .i64 t, .int .i64 r] 25)) w.heap.size (.int .i64 b) (.int .i64 t) (.int .i64 r)) := Lib.hid ⟨by simp, by simp, by simp⟩
  obtain ⟨a, cap, rfl⟩ := items_shape hx
  by_cases hm : 40 < l.length ∧ l.length ≤ 100 ∨ 150 < l.length
  · have HM := Lib.hid (fun u => many_yes a l.length cap u hm)
    clear hx hg hf hbd hm
    unfold bktV at *
    go_enter Tryd.func3, Tryd.ntmps3
    go_wp2_with (go_at_call 8; (with_reducible refine (HM.out _).mono ?_); rintro e w1 ⟨rfl, rfl⟩)
    go_ret
    exact ⟨rfl, HG0.out⟩
  · have HM := Lib.hid (fun u => many_no a l.length cap u (by omega))
    by_cases hw : wrongC b t r l = 0
    · have hc0 : ckB b t r = 0 := by
        unfold wrongC at hw
        by_cases h : ckB b t r = 0
        · exact h
        · rw [if_neg h] at hw
          exact absurd hw h
      have hl0 : listCode l = 0 := by unfold wrongC at hw; rw [if_pos hc0] at hw; exact hw
      obtain ⟨B, rfl, rfl, rfl⟩ := bkt_of (ckB_zero hc0)
      have hn : l.length ≤ 100 := by
        rcases Nat.lt_or_ge 100 l.length with h | h
        · rw [(list_many h).1] at hl0
          cases hl0
        · exact h
      have HP := Lib.hid (fun u (k : Gr w u) => cells_ok B u (hx.gr k) (hg.gr k) hl0 hn)
      have HR := Lib.hid (fun u (k : Gr w u) => rcells_ok B u (hx.gr k) hl0 hn)
      have HWC : Hid (wrongC (B.b : Int) (B.t : Int) (B.r : Int) l = 0 ∧ wrongP (B.b : Int) (B.t : Int) (B.r : Int) l = -1) := Lib.hid ⟨hw, by unfold wrongP; rw [if_pos hc0]; exact (list_fine rfl (by omega) (list_zero hl0 hn)).2⟩
      have HW := Lib.hid (fun u (k : Gr w u) => wrong_any (B.b : Int) (B.t : Int) (B.r : Int) u (hx.gr k) (hf.gr k))
      have HO := Lib.hid (fun u => of_any (B.b : Int) (B.t : Int) (B.r : Int) u)
      clear hx hg hf hbd hm hw hc0 hl0 hn
      unfold bktV at *
      generalize upToB (cellOk B l) l.length = bs at *
      go_enter Tryd.func3, Tryd.ntmps3
      go_wp2_with (first
        | (go_at_call 8; (with_reducible refine (HM.out _).mono ?_); rintro e w1 ⟨rfl, rfl⟩)
        | (go_at_call 9; (with_reducible refine (HW.out _ HG0.out).mono ?_); rintro e w2 ⟨rfl, hg2⟩; rw [HWC.out.1, HWC.out.2]; unfold faultV; have HGA := Lib.hid (HG0.out.trans (hg2.alloc (.cells #[.int .i64 0, .int .i64 (-1)] 30))); have HF2 : Hid (Cells2 (w2.alloc (.cells #[.int .i64 0, .int .i64 (-1)] 30)) w2.heap.size (.int .i64 0) (.int .i64 (-1))) := Lib.hid ⟨by simp, by simp⟩; have HC2 := Lib.hid (HC.out.gr (hg2.alloc (.cells #[.int .i64 0, .int .i64 (-1)] 30))); obtain ⟨x0, x1, x2⟩ := HC2.out; clear hg2)
        | (go_at_call 11; (with_reducible refine (HO.out _).mono ?_); rintro e w3 ⟨rfl, hg3⟩; have HG3 := Lib.hid hg3; clear hg3)
        | (go_at_call 10; (with_reducible refine (HR.out _ (HGA.out.trans HG3.out)).mono ?_); rintro e w4 ⟨r1, rfl, hr1, hg4⟩; have HR1 := Lib.hid hr1; have HG4 := Lib.hid (HG3.out.trans hg4); obtain ⟨y0, y1, y2⟩ := HC2.out.gr HG4.out; clear hr1 hg4)
        | (go_at_call 12; (with_reducible refine (HP.out _ (HGA.out.trans HG4.out)).mono ?_); rintro e w5 ⟨r2, rfl, hr2, hg5⟩; have HR2 := Lib.hid hr2; have HR1 := Lib.hid (BoolRow.gr HR1.out hg5); have HG5 := Lib.hid (HG4.out.trans hg5); obtain ⟨z0, z1⟩ := HF2.out.gr HG5.out; clear hr2 hg5)
        | (go_at_call 13; (with_reducible refine (at_yes _ (HGL.out.gr (HGA.out.trans HG5.out)) (ErrIs.nil _)).mono ?_); rintro e w6 ⟨rfl, hg6⟩; have HG6 := Lib.hid hg6; clear hg6)
        | (go_at_call 14; (with_reducible refine (sameBools_any _ (BoolRow.gr HR2.out HG6.out).bools (BoolRow.gr HR1.out HG6.out).bools).mono ?_); rintro e w7 ⟨rfl, hg7⟩; have HG7 := Lib.hid (HG6.out.trans hg7); clear hg7))
      go_ret
      exact ⟨rfl, (HGA.out.trans HG5.out).trans HG7.out⟩
    · have HP := Lib.hid (fun u (k : Gr w u) => cells_bad b t r u hb (hx.gr k) (hg.gr k) hw)
      have HW := Lib.hid (fun u (k : Gr w u) => wrong_any b t r u (hx.gr k) (hf.gr k))
      have hne : (wrongC b t r l == 0) = false := by simpa using hw
      clear hx hg hf hbd hm hw
      unfold bktV at *
      generalize wrongC b t r l = c at *
      generalize wrongP b t r l = pl at *
      go_enter Tryd.func3, Tryd.ntmps3
      go_wp2_with (first
        | (go_at_call 8; (with_reducible refine (HM.out _).mono ?_); rintro e w1 ⟨rfl, rfl⟩)
        | (go_at_call 9; (with_reducible refine (HW.out _ HG0.out).mono ?_); rintro e w2 ⟨rfl, hg2⟩; unfold faultV; have HGA := Lib.hid (HG0.out.trans (hg2.alloc (.cells #[.int .i64 c, .int .i64 pl] 30))); have HF2 : Hid (Cells2 (w2.alloc (.cells #[.int .i64 c, .int .i64 pl] 30)) w2.heap.size (.int .i64 c) (.int .i64 pl)) := Lib.hid ⟨by simp, by simp⟩; have HC2 := Lib.hid (HC.out.gr (hg2.alloc (.cells #[.int .i64 c, .int .i64 pl] 30))); obtain ⟨x0, x1, x2⟩ := HC2.out; clear hg2)
        | (go_at_call 12; (with_reducible refine (HP.out _ HGA.out).mono ?_); rintro e w5 ⟨v', rfl, he, hg5⟩; have HE := Lib.hid he; have HG5 := Lib.hid hg5; obtain ⟨z0, z1⟩ := HF2.out.gr HG5.out; clear he hg5)
        | (go_at_call 13; (with_reducible refine (at_yes _ (HGL.out.gr (HGA.out.trans HG5.out)) HE.out).mono ?_); rintro e w6 ⟨rfl, hg6⟩; have HG6 := Lib.hid hg6; clear hg6)
        | (go_at_call 14; (with_reducible refine (sameBools_any _ (bools_nil _) (bools_nil _)).mono ?_); rintro e w7 ⟨rfl, hg7⟩; have HG7 := Lib.hid (HG6.out.trans hg7); clear hg7))
      go_ret
      exact ⟨rfl, (HGA.out.trans HG5.out).trans HG7.out⟩
end Go.Proofs.YtogmjjaoflaogaaDoor

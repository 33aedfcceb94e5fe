/-
  The law BucketShapes: its walk. (Printed by genshape.py.)
-/
import Derived.Test.YtogmjjaoflaogaaGreatDoorBktX
import Derived.Test.YtogmjjaoflaogaaGreatDoorFrameI
namespace Go.Proofs.YtogmjjaoflaogaaGreatDoor
open Go.RowKit Go.Extern.Stop Go.Stop Go.Extern

theorem ints_nil (w : World) : Ints w (.slice none 0 0) [] := .inl ⟨_, _, rfl, rfl⟩
theorem res2_new (w : World) (c p : Int) : Res2 (w.alloc (.cells #[.int .i64 c, .int .i64 p] 50)) w.heap.size (.int .i64 c) (.int .i64 p) := ⟨by simp, by simp, by simp, by simp⟩
theorem res2_set0 {w : World} {p : Nat} {a b : Value} (h : Res2 w p a b) (x : Value) : Cells2 (w.setCell ⟨p, 0, none⟩ x) p x b :=
  ⟨World.cell?_setCell_same _ _ _ (u := a) h.c0, by rw [World.cell?_setCell_other _ _ _ _ (by simp)]; exact h.c1⟩
theorem sh_cases (B : Bkt) (l : List Itm) (n : Nat) : (∀ k, k < n → shOk B l k) ∨ ∃ q, q < n ∧ (∀ k, k < q → shOk B l k) ∧ ¬ shOk B l q := by
  induction n with
  | zero => exact .inl fun k hk => absurd hk (by omega)
  | succ n ih =>
    rcases ih with h | ⟨q, h1, h2, h3⟩
    · by_cases hn : shOk B l n
      · refine .inl fun k hk => ?_
        rcases Nat.lt_or_ge k n with h4 | h4
        · exact h k h4
        · obtain rfl : k = n := by omega
          exact hn
      · exact .inr ⟨n, by omega, h, hn⟩
    · exact .inr ⟨q, by omega, h2, h3⟩

set_option maxRecDepth 100000 in
set_option maxHeartbeats 4000000 in
theorem shape_bad (b t r : Int) {v : Value} {l : List Itm} (w : World) (hb : Bd b ∧ Bd t ∧ Bd r) (hx : Items w v l) (hg : Glob w) (hw : wrongC b t r l ≠ 0) :
    Calls Tryz.prog 20 #[bktV b t r, v] w fun e w' => ∃ v', e = .returned (.tuple #[.slice none 0 0, v']) ∧ ErrIs w' v' (wrongC b t r l) (wrongP b t r l) ∧ Gr w w' := by
  have HXX := Lib.hid hx
  have HGL := Lib.hid hg
  have HG0 := Lib.hid ((Gr.refl w).alloc (.cells #[.int .i64 b, .int .i64 t, .int .i64 r] 25))
  obtain ⟨a, cap, rfl⟩ := items_shape hx
  clear hx hg
  by_cases h0 : BIn b t r
  · obtain ⟨B, rfl, rfl, rfl⟩ := bkt_of h0
    have hc := ckB_ok h0
    have HE : Hid (wrongC (B.b : Int) (B.t : Int) (B.r : Int) l = listCode l ∧ wrongP (B.b : Int) (B.t : Int) (B.r : Int) l = listPlace l) := Lib.hid (by unfold wrongC wrongP; rw [if_pos hc, if_pos hc]; exact ⟨rfl, rfl⟩)
    have HZ := Lib.hid (errV_zero hc)
    rw [HE.out.1] at hw
    have HW := Lib.hid hw
    have HH := Lib.hid (fun u => bnew_ok B u)
    clear hw h0 hc
    unfold bktV at *
    rw [HE.out.1, HE.out.2]
    go_enter Tryz.func20, Tryz.ntmps20
    go_wp2_with (first
      | (go_at_call 7; (with_reducible refine (HH.out _).mono ?_); rintro e w1 ⟨p, rfl, _, _, hg1⟩; have HG1 := Lib.hid (HG0.out.trans hg1); clear hg1)
      | (go_at_call 37; (with_reducible refine (ilist_bad _ (HXX.out.gr HG1.out) (HGL.out.gr HG1.out) HW.out).mono ?_); rintro e w2 ⟨ty, x, rfl, he, hg2⟩; have HE2 := Lib.hid he; have HG2 := Lib.hid (HG1.out.trans hg2); clear hg2 he))
    go_ret2
    exact ⟨_, rfl, HE2.out, HG2.out⟩
  · have hc := ckB_no h0
    have HE : Hid (wrongC b t r l = 2 ∧ wrongP b t r l = -1) := Lib.hid (by unfold wrongC wrongP; rw [if_neg (by rw [hc]; decide), if_neg (by rw [hc]; decide)]; exact ⟨hc, rfl⟩)
    have HZ : Hid (errV (ckB b t r) = .iface 27 (.int .i64 2)) := Lib.hid (by rw [hc]; exact errV_ne (by decide))
    have HH := Lib.hid (fun u => bnew_no b t r u hb.1 hb.2.1 hb.2.2 h0)
    clear hw hc h0
    unfold bktV at *
    rw [HE.out.1, HE.out.2]
    go_enter Tryz.func20, Tryz.ntmps20
    go_wp2_with (go_at_call 7; (with_reducible refine (HH.out _).mono ?_); rintro e w1 ⟨rfl, hg1⟩; have HG1 := Lib.hid (HG0.out.trans hg1); clear hg1)
    go_ret2
    exact ⟨_, rfl, ErrIs.no _ _, HG1.out⟩

set_option maxRecDepth 100000 in
set_option maxHeartbeats 8000000 in
theorem bucketShapes_walk (w : World) (hg : Glob w) (hf : FineIs w) (b t r : Int) (hb : Bd b ∧ Bd t ∧ Bd r) {v : Value} {l : List Itm} (hx : Items w v l) (hbd : ∀ i, i < l.length → (l.getD i .zero).bd) :
    Calls Tryz.prog 4 #[bktV b t r, v] w fun e w' => e = .returned (.bool true) ∧ Gr w w' := by
  have HXX := Lib.hid hx
  have HGL := Lib.hid hg
  have HF := Lib.hid hf
  have HBD : Hid (∀ i, i < l.length → -9223372036854775808 ≤ (l.getD i .zero).t) := Lib.hid (fun i hi => (hbd i hi).1.1)
  have HG0 := Lib.hid ((Gr.refl w).alloc (.cells #[.int .i64 b, .int .i64 t, .int .i64 r] 25))
  have HC : Hid (Cells3 (w.alloc (.cells #[.int .i64 b, .int .i64 t, .int .i64 r] 25)) w.heap.size (.int .i64 b) (.int .i64 t) (.int .i64 r)) := Lib.hid ⟨by simp, by simp, by simp⟩
  obtain ⟨a, cap, rfl⟩ := items_shape hx
  by_cases hm : 40 < l.length ∧ l.length ≤ 100 ∨ 150 < l.length
  · have HM := Lib.hid (fun u => many_yes a l.length cap u hm)
    clear hx hg hf hbd hm
    unfold bktV at *
    go_enter Tryz.func4, Tryz.ntmps4
    go_wp2_with (go_at_call 17; (with_reducible refine (HM.out _).mono ?_); rintro e w1 ⟨rfl, rfl⟩)
    go_ret
    exact ⟨rfl, HG0.out⟩
  · have HM := Lib.hid (fun u => many_no a l.length cap u (by omega))
    by_cases hw : wrongC b t r l = 0
    · have hc0 : ckB b t r = 0 := by
        unfold wrongC at hw
        by_cases h : ckB b t r = 0
        · exact h
        · rw [if_neg h] at hw
          exact absurd hw h
      have hl0 : listCode l = 0 := by unfold wrongC at hw; rw [if_pos hc0] at hw; exact hw
      obtain ⟨B, rfl, rfl, rfl⟩ := bkt_of (ckB_zero hc0)
      have hn : l.length ≤ 100 := by
        rcases Nat.lt_or_ge 100 l.length with h | h
        · rw [(list_many h).1] at hl0
          cases hl0
        · exact h
      have HWC : Hid (wrongC (B.b : Int) (B.t : Int) (B.r : Int) l = 0 ∧ wrongP (B.b : Int) (B.t : Int) (B.r : Int) l = -1) := Lib.hid ⟨hw, by unfold wrongP; rw [if_pos hc0]; exact (list_fine rfl (by omega) (list_zero hl0 hn)).2⟩
      have HW := Lib.hid (fun u (k : Gr w u) => wrong_any (B.b : Int) (B.t : Int) (B.r : Int) u (hx.gr k) (hf.gr k))
      have HO := Lib.hid (fun u => of_any (B.b : Int) (B.t : Int) (B.r : Int) u)
      rcases sh_cases B l l.length with hall | ⟨q, hq1, hq2, hq3⟩
      · have HP := Lib.hid (fun u (k : Gr w u) => shape_ok B u (hx.gr k) (hg.gr k) hl0 hn hall)
        have HR := Lib.hid (fun u (k : Gr w u) => rshape_ok B u (hx.gr k) hl0 hn hall)
        clear hx hg hf hbd hm hw hc0 hl0 hn hall
        unfold bktV at *
        generalize upTo (shT B l) l.length = bs at *
        go_enter Tryz.func4, Tryz.ntmps4
        go_wp2_with (first
          | (go_at_call 17; (with_reducible refine (HM.out _).mono ?_); rintro e w1 ⟨rfl, rfl⟩)
          | (go_at_call 18; (with_reducible refine (HW.out _ HG0.out).mono ?_); rintro e w2 ⟨rfl, hg2⟩; rw [HWC.out.1, HWC.out.2]; unfold faultV; have HGB := Lib.hid (hg2.alloc (.cells #[.int .i64 0, .int .i64 (-1)] 50)); have HGA := Lib.hid (HG0.out.trans HGB.out); have HGB0 := Lib.hid (Nat.le_trans HG0.out.size hg2.size); have HW0 := Lib.hid hg2.size; have HF2 := Lib.hid (res2_new w2 0 (-1)); have HC2 := Lib.hid (HC.out.gr HGB.out); obtain ⟨x0, x1, x2⟩ := HC2.out; clear hg2)
          | (go_at_call 6; (with_reducible refine (HO.out _).mono ?_); rintro e w3 ⟨rfl, hg3⟩; have HG3 := Lib.hid hg3; clear hg3)
          | (go_at_call 19; (with_reducible refine (HR.out _ (HGA.out.trans HG3.out)).mono ?_); rintro e w4 ⟨r1, rfl, hr1, hg4⟩; have HR1 := Lib.hid hr1; have HG4 := Lib.hid (HG3.out.trans hg4); obtain ⟨y0, y1, y2⟩ := HC2.out.gr HG4.out; obtain ⟨m0, m1, _, _⟩ := HF2.out.gr HG4.out; clear hr1 hg4)
          | (go_at_call 20; (with_reducible refine (HP.out _ (HGA.out.trans HG4.out)).mono ?_); rintro e w5 ⟨r2, rfl, hr2, hg5⟩; have HR2 := Lib.hid hr2; have HR1 := Lib.hid (IntRow.gr HR1.out hg5); have HG5 := Lib.hid (HGA.out.trans (HG4.out.trans hg5)); obtain ⟨z0, z1, _, _⟩ := HF2.out.gr (HG4.out.trans hg5); clear hr2 hg5)
          | (go_at_call 21; (with_reducible refine (at_yes _ (HGL.out.gr HG5.out) (ErrIs.nil _)).mono ?_); rintro e w6 ⟨rfl, hg6⟩; have HG6 := Lib.hid hg6; clear hg6)
          | (go_at_call 22; (with_reducible refine (sameInts_any _ (IntRow.gr HR2.out HG6.out).ints (IntRow.gr HR1.out HG6.out).ints).mono ?_); rintro e w7 ⟨rfl, hg7⟩; have HG7 := Lib.hid (HG6.out.trans hg7); clear hg7))
        go_ret
        exact ⟨rfl, HG5.out.trans HG7.out⟩
      · have HP := Lib.hid (fun u (k : Gr w u) => shape_full B u (hx.gr k) (hg.gr k) hl0 hn q hq1 hq2 hq3)
        have HR := Lib.hid (fun u (k : Gr w u) => rshape_full B u (hx.gr k) hl0 hn q hq1 hq2 hq3)
        clear hx hg hf hbd hm hw hc0 hl0 hn hq1 hq2 hq3
        unfold bktV at *
        go_enter Tryz.func4, Tryz.ntmps4
        go_wp2_with (first
          | (go_at_call 17; (with_reducible refine (HM.out _).mono ?_); rintro e w1 ⟨rfl, rfl⟩)
          | (go_at_call 18; (with_reducible refine (HW.out _ HG0.out).mono ?_); rintro e w2 ⟨rfl, hg2⟩; rw [HWC.out.1, HWC.out.2]; unfold faultV; have HGB := Lib.hid (hg2.alloc (.cells #[.int .i64 0, .int .i64 (-1)] 50)); have HGA := Lib.hid (HG0.out.trans HGB.out); have HGB0 := Lib.hid (Nat.le_trans HG0.out.size hg2.size); have HW0 := Lib.hid hg2.size; have HF2 := Lib.hid (res2_new w2 0 (-1)); have HC2 := Lib.hid (HC.out.gr HGB.out); obtain ⟨x0, x1, x2⟩ := HC2.out; clear hg2)
          | (go_at_call 6; (with_reducible refine (HO.out _).mono ?_); rintro e w3 ⟨rfl, hg3⟩; have HG3 := Lib.hid hg3; clear hg3)
          | (go_at_call 19; (with_reducible refine (HR.out _ (HGA.out.trans HG3.out)).mono ?_); rintro e w4 ⟨rfl, hg4⟩; have HG4 := Lib.hid (HG3.out.trans hg4); obtain ⟨m0, m1, m2, m3⟩ := HF2.out.gr HG4.out; have HGS : Hid (Gr w (w4.setCell ⟨w2.heap.size, 0, none⟩ (.int .i64 12))) := Lib.hid ((HGA.out.trans HG4.out).setCell HGB0.out _); obtain ⟨y0, y1, y2⟩ := HC.out.gr (((HGB.out.trans HG4.out)).setCell (p := ⟨w2.heap.size, 0, none⟩) HW0.out (.int .i64 12)); have HFS := Lib.hid (res2_set0 ⟨m0, m1, m2, m3⟩ (.int .i64 12)); clear hg4)
          | (go_at_call 20; (with_reducible refine (HP.out _ HGS.out).mono ?_); rintro e w5 ⟨rfl, hg5⟩; have HG5 := Lib.hid (HGS.out.trans hg5); obtain ⟨z0, z1⟩ := HFS.out.gr hg5; clear hg5)
          | (go_at_call 21; (with_reducible refine (at_yes _ (HGL.out.gr HG5.out) (ErrIs.no _ _)).mono ?_); rintro e w6 ⟨rfl, hg6⟩; have HG6 := Lib.hid hg6; clear hg6)
          | (go_at_call 22; (with_reducible refine (sameInts_any _ (ints_nil _) (ints_nil _)).mono ?_); rintro e w7 ⟨rfl, hg7⟩; have HG7 := Lib.hid (HG6.out.trans hg7); clear hg7))
        go_ret
        exact ⟨rfl, HG5.out.trans HG7.out⟩
    · have HP := Lib.hid (fun u (k : Gr w u) => shape_bad b t r u hb (hx.gr k) (hg.gr k) hw)
      have HW := Lib.hid (fun u (k : Gr w u) => wrong_any b t r u (hx.gr k) (hf.gr k))
      have hne : (wrongC b t r l == 0) = false := by simpa using hw
      clear hx hg hf hbd hm hw
      unfold bktV at *
      generalize wrongC b t r l = c at *
      generalize wrongP b t r l = pl at *
      go_enter Tryz.func4, Tryz.ntmps4
      go_wp2_with (first
        | (go_at_call 17; (with_reducible refine (HM.out _).mono ?_); rintro e w1 ⟨rfl, rfl⟩)
        | (go_at_call 18; (with_reducible refine (HW.out _ HG0.out).mono ?_); rintro e w2 ⟨rfl, hg2⟩; unfold faultV; have HGA := Lib.hid (HG0.out.trans (hg2.alloc (.cells #[.int .i64 c, .int .i64 pl] 50))); have HF2 : Hid (Cells2 (w2.alloc (.cells #[.int .i64 c, .int .i64 pl] 50)) w2.heap.size (.int .i64 c) (.int .i64 pl)) := Lib.hid ⟨by simp, by simp⟩; have HC2 := Lib.hid (HC.out.gr (hg2.alloc (.cells #[.int .i64 c, .int .i64 pl] 50))); obtain ⟨x0, x1, x2⟩ := HC2.out; clear hg2)
        | (go_at_call 20; (with_reducible refine (HP.out _ HGA.out).mono ?_); rintro e w5 ⟨v', rfl, he, hg5⟩; have HE := Lib.hid he; have HG5 := Lib.hid hg5; obtain ⟨z0, z1⟩ := HF2.out.gr HG5.out; clear he hg5)
        | (go_at_call 21; (with_reducible refine (at_yes _ (HGL.out.gr (HGA.out.trans HG5.out)) HE.out).mono ?_); rintro e w6 ⟨rfl, hg6⟩; have HG6 := Lib.hid hg6; clear hg6)
        | (go_at_call 22; (with_reducible refine (sameInts_any _ (ints_nil _) (ints_nil _)).mono ?_); rintro e w7 ⟨rfl, hg7⟩; have HG7 := Lib.hid (HG6.out.trans hg7); clear hg7))
      go_ret
      exact ⟨rfl, (HGA.out.trans HG5.out).trans HG7.out⟩
end Go.Proofs.YtogmjjaoflaogaaGreatDoor

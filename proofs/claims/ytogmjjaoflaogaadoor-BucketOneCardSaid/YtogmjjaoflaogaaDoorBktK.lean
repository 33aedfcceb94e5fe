/-
  The law BucketOne: its walk.
-/
import Derived.Test.YtogmjjaoflaogaaDoorBktW
import Derived.Test.YtogmjjaoflaogaaDoorFrameI
namespace Go.Proofs.YtogmjjaoflaogaaDoor
open Go.RowKit Go.Extern.Stop Go.Stop Go.Extern

theorem ints_nil' (w : World) : Ints w (.slice none 0 0) [] := .inl ⟨_, _, rfl, rfl⟩
theorem res2_new' (w : World) (c p : Int) : Res2 (w.alloc (.cells #[.int .i64 c, .int .i64 p] 30)) w.heap.size (.int .i64 c) (.int .i64 p) := ⟨by simp, by simp, by simp, by simp⟩
theorem res2_set' {w : World} {p : Nat} {a b : Value} (h : Res2 w p a b) (x y : Value) : Cells2 ((w.setCell ⟨p, 0, none⟩ x).setCell ⟨p, 1, none⟩ y) p x y := by
  have e0 : (w.setCell ⟨p, 0, none⟩ x).cell? ⟨p, 0, none⟩ = some x := World.cell?_setCell_same _ _ _ (u := a) h.c0
  have e1 : (w.setCell ⟨p, 0, none⟩ x).cell? ⟨p, 1, none⟩ = some b := by rw [World.cell?_setCell_other _ _ _ _ (by simp)]; exact h.c1
  exact ⟨by rw [World.cell?_setCell_other _ _ _ _ (by simp)]; exact e0, World.cell?_setCell_same _ _ _ (u := b) e1⟩
def EIn (x : Int) : Prop := 0 ≤ x ∧ x ≤ 1000000
/-- What is wrong: the bucket, the second room, packets. -/
theorem one_badB (b t r x : Int) {v : Value} (w : World) (hb : Bd b ∧ Bd t ∧ Bd r) (h0 : ¬ BIn b t r) :
    Calls Tryd.prog 18 #[bktV b t r, .int .i64 x, v] w fun e w' => e = .returned (.tuple #[.slice none 0 0, .iface 28 (.int .i64 2)]) ∧ Gr w w' := by
  have HG0 := Lib.hid ((Gr.refl w).alloc (.cells #[.int .i64 b, .int .i64 t, .int .i64 r] 25))
  have HZ : Hid (errV (ckB b t r) = .iface 28 (.int .i64 2)) := Lib.hid (by rw [ckB_no h0]; exact errV_ne (by decide))
  have HH := Lib.hid (fun u => bcheck_any b t r u hb.1 hb.2.1 hb.2.2)
  clear h0
  unfold bktV at *
  go_enter Tryd.func18, Tryd.ntmps18
  go_wp2_with (go_at_call 39; (with_reducible refine (HH.out _).mono ?_); rintro e w1 ⟨rfl, hg1⟩; rw [HZ.out]; have HG1 := Lib.hid (HG0.out.trans hg1); clear hg1)
  go_ret2
  exact ⟨rfl, HG1.out⟩
theorem one_badE (b t r x : Int) {v : Value} (w : World) (hb : Bd b ∧ Bd t ∧ Bd r) (h0 : BIn b t r) (hx : ¬ EIn x) :
    Calls Tryd.prog 18 #[bktV b t r, .int .i64 x, v] w fun e w' => e = .returned (.tuple #[.slice none 0 0, .iface 28 (.int .i64 2)]) ∧ Gr w w' := by
  have HG0 := Lib.hid ((Gr.refl w).alloc (.cells #[.int .i64 b, .int .i64 t, .int .i64 r] 25))
  have HZ := Lib.hid (errV_zero (ckB_ok h0))
  have HH := Lib.hid (fun u => bcheck_any b t r u hb.1 hb.2.1 hb.2.2)
  unfold EIn at hx
  clear h0
  unfold bktV at *
  by_cases h1 : x < 0
  · clear hx
    go_enter Tryd.func18, Tryd.ntmps18
    go_wp2_with (go_at_call 39; (with_reducible refine (HH.out _).mono ?_); rintro e w1 ⟨rfl, hg1⟩; rw [HZ.out]; have HG1 := Lib.hid (HG0.out.trans hg1); clear hg1)
    go_ret2
    exact ⟨rfl, HG1.out⟩
  · have h2 : 1000000 < x := by omega
    clear hx
    go_enter Tryd.func18, Tryd.ntmps18
    go_wp2_with (go_at_call 39; (with_reducible refine (HH.out _).mono ?_); rintro e w1 ⟨rfl, hg1⟩; rw [HZ.out]; have HG1 := Lib.hid (HG0.out.trans hg1); clear hg1)
    all_goals (try (exfalso; omega))
    all_goals
      go_ret2
      exact ⟨rfl, HG1.out⟩
theorem one_badL (b t r x : Int) {v : Value} {l : List Itm} (w : World) (hb : Bd b ∧ Bd t ∧ Bd r) (h0 : BIn b t r) (hx : EIn x) (hv : Items w v l) (hg : Glob w) (hl : listCode l ≠ 0) :
    Calls Tryd.prog 18 #[bktV b t r, .int .i64 x, v] w fun e w' => ∃ v', e = .returned (.tuple #[.slice none 0 0, v']) ∧ ErrIs w' v' (listCode l) (listPlace l) ∧ Gr w w' := by
  obtain ⟨a, cap, rfl⟩ := items_shape hv
  have HXX := Lib.hid hv
  have HGL := Lib.hid hg
  have HL := Lib.hid hl
  have HG0 := Lib.hid ((Gr.refl w).alloc (.cells #[.int .i64 b, .int .i64 t, .int .i64 r] 25))
  have HZ := Lib.hid (errV_zero (ckB_ok h0))
  have HH := Lib.hid (fun u => bcheck_any b t r u hb.1 hb.2.1 hb.2.2)
  obtain ⟨x0, x1⟩ := hx
  clear h0 hv hg hl
  unfold bktV at *
  go_enter Tryd.func18, Tryd.ntmps18
  go_wp2_with (first
    | (go_at_call 39; (with_reducible refine (HH.out _).mono ?_); rintro e w1 ⟨rfl, hg1⟩; rw [HZ.out]; have HG1 := Lib.hid (HG0.out.trans hg1); clear hg1)
    | (go_at_call 40; (with_reducible refine (ilist_bad _ (HXX.out.gr HG1.out) (HGL.out.gr HG1.out) HL.out).mono ?_); rintro e w2 ⟨ty, y, rfl, he, hg2⟩; have HE2 := Lib.hid he; have HG2 := Lib.hid (HG1.out.trans hg2); clear hg2 he))
  all_goals (try (exfalso; omega))
  go_ret2
  exact ⟨_, rfl, HE2.out, HG2.out⟩

set_option maxRecDepth 100000 in
set_option maxHeartbeats 8000000 in
theorem bucketOne_walk (w : World) (hg : Glob w) (hf : FineIs w) (b t r : Int) (hb : Bd b ∧ Bd t ∧ Bd r) (x : Int) (hx0 : -9223372036854775808 ≤ x) (hx1 : x ≤ 9223372036854775807) {v : Value} {l : List Itm} (hx : Items w v l) (_ : ∀ i, i < l.length → (l.getD i .zero).bd) :
    Calls Tryd.prog 4 #[bktV b t r, .int .i64 x, v] w fun e w' => e = .returned (.bool true) ∧ Gr w w' := by
  have HGL := Lib.hid hg
  obtain ⟨w0, hw0⟩ : ∃ w0, w0 = w.alloc (.cells #[.int .i64 b, .int .i64 t, .int .i64 r] 25) := ⟨_, rfl⟩
  have HG0 : Hid (Gr w w0) := Lib.hid (by rw [hw0]; exact (Gr.refl w).alloc _)
  have HCC : Hid (Cells3 w0 w.heap.size (.int .i64 b) (.int .i64 t) (.int .i64 r)) := Lib.hid (by rw [hw0]; exact ⟨by simp, by simp, by simp⟩)
  have HO := Lib.hid (fun b t r u => of_any b t r u)
  have HBC := Lib.hid (fun u => rbcheck_any b t r u)
  have HW := Lib.hid (fun u (k : Gr w u) => wrong_any b t r u (hx.gr k) (hf.gr k))
  obtain ⟨a, cap, rfl⟩ := items_shape hx
  by_cases hm : 40 < l.length ∧ l.length ≤ 100 ∨ 150 < l.length
  · have HM := Lib.hid (fun u => many_yes a l.length cap u hm)
    clear hx hg hf hm
    unfold bktV at *
    go_enter Tryd.func4, Tryd.ntmps4
    go_wp2_with fail
    rw [← hw0]
    clear hw0
    go_wp2_with (go_at_call 8; (with_reducible refine (HM.out _).mono ?_); rintro e w1 ⟨rfl, rfl⟩)
    all_goals (try (exfalso; omega))
    go_ret
    exact ⟨rfl, HG0.out⟩
  · have HM := Lib.hid (fun u => many_no a l.length cap u (by omega))
    by_cases hc : BIn b t r
    · have hck := ckB_ok hc
      have hwc : wrongC b t r l = listCode l ∧ wrongP b t r l = listPlace l := by unfold wrongC wrongP; rw [if_pos hck, if_pos hck]; exact ⟨rfl, rfl⟩
      have HC0 := Lib.hid hck
      by_cases he : EIn x
      · by_cases hl0 : listCode l = 0
        · obtain ⟨B, rfl, rfl, rfl⟩ := bkt_of hc
          have hn : l.length ≤ 100 := by
            rcases Nat.lt_or_ge 100 l.length with h | h
            · rw [(list_many h).1] at hl0
              cases hl0
            · exact h
          have HP := Lib.hid (fun u (k : Gr w u) => one_ok B x he u (hx.gr k) (hg.gr k) hl0 hn)
          have HR := Lib.hid (fun u (k : Gr w u) => rone_ok B x he u (hx.gr k) hl0 hn)
          have HWC : Hid (wrongC (B.b : Int) (B.t : Int) (B.r : Int) l = 0 ∧ wrongP (B.b : Int) (B.t : Int) (B.r : Int) l = -1) := Lib.hid ⟨hwc.1.trans hl0, hwc.2.trans (list_fine rfl (by omega) (list_zero hl0 hn)).2⟩
          obtain ⟨e0, e1⟩ := he
          clear hx hg hf hm hwc hck hl0 hn hc
          unfold bktV at *
          generalize upTo (oneCol B x l) l.length = cs at *
          go_enter Tryd.func4, Tryd.ntmps4
          go_wp2_with fail
          rw [← hw0]
          clear hw0
          obtain ⟨x0, x1, x2⟩ := HCC.out
          go_wp2_with (first
            | (go_at_call 8; (with_reducible refine (HM.out _).mono ?_); rintro e w1 ⟨rfl, rfl⟩)
            | (go_at_call 9; (with_reducible refine (HW.out _ HG0.out).mono ?_); rintro e w2 ⟨rfl, hg2⟩; rw [HWC.out.1, HWC.out.2]; unfold faultV; have HGB := Lib.hid (hg2.alloc (.cells #[.int .i64 0, .int .i64 (-1)] 30)); have HGA := Lib.hid (HG0.out.trans HGB.out); have HF2 : Hid (Cells2 (w2.alloc (.cells #[.int .i64 0, .int .i64 (-1)] 30)) w2.heap.size (.int .i64 0) (.int .i64 (-1))) := Lib.hid ⟨by simp, by simp⟩; obtain ⟨y0, y1, y2⟩ := HCC.out.gr HGB.out; clear hg2)
            | (go_at_call 15; (with_reducible refine (HBC.out _).mono ?_); rintro e w4 ⟨rfl, hg4⟩; rw [HC0.out]; have HG4 := Lib.hid (HG3.out.trans hg4); obtain ⟨z0, z1⟩ := HF2.out.gr HG4.out; obtain ⟨p0, p1, p2⟩ := HCC.out.gr (HGB.out.trans HG4.out); clear hg4; have tok4 := trivial)
            | (go_at_call 11; have _ := tok4; (with_reducible refine (HO.out _ _ _ _).mono ?_); rintro e w5 ⟨rfl, hg5⟩; have HG5 := Lib.hid (HG4.out.trans hg5); clear hg5 tok4)
            | (go_at_call 11; (with_reducible refine (HO.out _ _ _ _).mono ?_); rintro e w3 ⟨rfl, hg3⟩; have HG3 := Lib.hid hg3; clear hg3)
            | (go_at_call 17; (with_reducible refine (HR.out _ (HGA.out.trans HG5.out)).mono ?_); rintro e w6 ⟨r1, rfl, hr1, hg6⟩; have HR1 := Lib.hid hr1; have HG6 := Lib.hid (HG5.out.trans hg6); obtain ⟨q0, q1, q2⟩ := HCC.out.gr (HGB.out.trans HG6.out); clear hr1 hg6)
            | (go_at_call 18; (with_reducible refine (HP.out _ (HGA.out.trans HG6.out)).mono ?_); rintro e w7 ⟨r2, rfl, hr2, hg7⟩; have HR2 := Lib.hid hr2; have HR1 := Lib.hid (IntRow.gr HR1.out hg7); have HG7 := Lib.hid (HG6.out.trans hg7); obtain ⟨n0, n1⟩ := HF2.out.gr HG7.out; clear hr2 hg7)
            | (go_at_call 13; (with_reducible refine (at_yes _ (HGL.out.gr (HGA.out.trans HG7.out)) (ErrIs.nil _)).mono ?_); rintro e w8 ⟨rfl, hg8⟩; have HG8 := Lib.hid hg8; clear hg8)
            | (go_at_call 19; (with_reducible refine (sameInts_any _ (IntRow.gr HR2.out HG8.out).ints (IntRow.gr HR1.out HG8.out).ints).mono ?_); rintro e w9 ⟨rfl, hg9⟩; have HG9 := Lib.hid (HG8.out.trans hg9); clear hg9))
          all_goals (try (exfalso; omega))
          go_ret
          exact ⟨rfl, (HGA.out.trans HG7.out).trans HG9.out⟩
        · have HP := Lib.hid (fun u (k : Gr w u) => one_badL b t r x u hb hc he (hx.gr k) (hg.gr k) hl0)
          have hne : (listCode l == 0) = false := by simpa using hl0
          have HWC := Lib.hid hwc
          obtain ⟨e0, e1⟩ := he
          clear hx hg hf hm hwc hck hl0 hc
          unfold bktV at *
          generalize wrongC b t r l = c0 at *
          generalize wrongP b t r l = pl0 at *
          generalize listCode l = c at *
          generalize listPlace l = pl at *
          go_enter Tryd.func4, Tryd.ntmps4
          go_wp2_with fail
          rw [← hw0]
          clear hw0
          obtain ⟨x0, x1, x2⟩ := HCC.out
          go_wp2_with (first
            | (go_at_call 8; (with_reducible refine (HM.out _).mono ?_); rintro e w1 ⟨rfl, rfl⟩)
            | (go_at_call 9; (with_reducible refine (HW.out _ HG0.out).mono ?_); rintro e w2 ⟨rfl, hg2⟩; rw [HWC.out.1, HWC.out.2]; unfold faultV; have HGB := Lib.hid (hg2.alloc (.cells #[.int .i64 c, .int .i64 pl] 30)); have HGA := Lib.hid (HG0.out.trans HGB.out); have HF2 : Hid (Cells2 (w2.alloc (.cells #[.int .i64 c, .int .i64 pl] 30)) w2.heap.size (.int .i64 c) (.int .i64 pl)) := Lib.hid ⟨by simp, by simp⟩; obtain ⟨y0, y1, y2⟩ := HCC.out.gr HGB.out; clear hg2)
            | (go_at_call 11; (with_reducible refine (HO.out _ _ _ _).mono ?_); rintro e w3 ⟨rfl, hg3⟩; have HG3 := Lib.hid hg3; clear hg3)
            | (go_at_call 15; (with_reducible refine (HBC.out _).mono ?_); rintro e w4 ⟨rfl, hg4⟩; rw [HC0.out]; have HG4 := Lib.hid (HG3.out.trans hg4); obtain ⟨z0, z1⟩ := HF2.out.gr HG4.out; obtain ⟨p0, p1, p2⟩ := HCC.out.gr (HGB.out.trans HG4.out); clear hg4)
            | (go_at_call 18; (with_reducible refine (HP.out _ (HGA.out.trans HG4.out)).mono ?_); rintro e w7 ⟨v', rfl, he, hg7⟩; have HE := Lib.hid he; have HG7 := Lib.hid (HG4.out.trans hg7); obtain ⟨n0, n1⟩ := HF2.out.gr HG7.out; clear he hg7)
            | (go_at_call 13; (with_reducible refine (at_yes _ (HGL.out.gr (HGA.out.trans HG7.out)) HE.out).mono ?_); rintro e w8 ⟨rfl, hg8⟩; have HG8 := Lib.hid hg8; clear hg8)
            | (go_at_call 19; (with_reducible refine (sameInts_any _ (ints_nil' _) (ints_nil' _)).mono ?_); rintro e w9 ⟨rfl, hg9⟩; have HG9 := Lib.hid (HG8.out.trans hg9); clear hg9))
          all_goals (try (exfalso; omega))
          go_ret
          exact ⟨rfl, (HGA.out.trans HG7.out).trans HG9.out⟩
      · have HP := Lib.hid (fun u => @one_badE b t r x (.slice a l.length cap) u hb hc he)
        have hex : x < 0 ∨ 1000000 < x := by unfold EIn at he; omega
        clear hx hg hf hm hwc hck hc he
        unfold bktV at *
        generalize wrongC b t r l = c at *
        generalize wrongP b t r l = pl at *
        rcases hex with hex | hex
        · go_enter Tryd.func4, Tryd.ntmps4
          go_wp2_with fail
          rw [← hw0]
          clear hw0
          obtain ⟨x0, x1, x2⟩ := HCC.out
          go_wp2_with (first
            | (go_at_call 8; (with_reducible refine (HM.out _).mono ?_); rintro e w1 ⟨rfl, rfl⟩)
            | (go_at_call 9; (with_reducible refine (HW.out _ HG0.out).mono ?_); rintro e w2 ⟨rfl, hg2⟩; unfold faultV; have HGB := Lib.hid (hg2.alloc (.cells #[.int .i64 c, .int .i64 pl] 30)); have HGA := Lib.hid (HG0.out.trans HGB.out); have HF2 := Lib.hid (res2_new' w2 c pl); have HLE := Lib.hid (Nat.le_trans HG0.out.size hg2.size); have HGB0 := Lib.hid hg2.size; obtain ⟨y0, y1, y2⟩ := HCC.out.gr HGB.out; clear hg2)
            | (go_at_call 11; (with_reducible refine (HO.out _ _ _ _).mono ?_); rintro e w3 ⟨rfl, hg3⟩; have HG3 := Lib.hid hg3; clear hg3)
            | (go_at_call 15; (with_reducible refine (HBC.out _).mono ?_); rintro e w4 ⟨rfl, hg4⟩; rw [HC0.out]; have HG4 := Lib.hid (HG3.out.trans hg4); clear hg4)
            | (go_at_call 16; (with_reducible refine (bare_any _ _).mono ?_); rintro e w5 ⟨rfl, hg5⟩; have HG5 := Lib.hid (HG4.out.trans hg5); obtain ⟨z0, z1, z2, z3⟩ := HF2.out.gr HG5.out; clear hg5; have HGS : Hid (Gr w ((w5.setCell ⟨w2.heap.size, 0, none⟩ (.int .i64 2)).setCell ⟨w2.heap.size, 1, none⟩ (.int .i64 (-1)))) := Lib.hid (((HGA.out.trans HG5.out).setCell HLE.out _).setCell HLE.out _); have HG0S : Hid (Gr w0 ((w5.setCell ⟨w2.heap.size, 0, none⟩ (.int .i64 2)).setCell ⟨w2.heap.size, 1, none⟩ (.int .i64 (-1)))) := Lib.hid (((HGB.out.trans HG5.out).setCell HGB0.out _).setCell HGB0.out _); obtain ⟨p0, p1, p2⟩ := HCC.out.gr HG0S.out; have HF5 := Lib.hid (res2_set' ⟨z0, z1, z2, z3⟩ (.int .i64 2) (.int .i64 (-1))))
            | (go_at_call 18; (with_reducible refine (HP.out _).mono ?_); rintro e w6 ⟨rfl, hg6⟩; have HG6 := Lib.hid hg6; obtain ⟨n0, n1⟩ := HF5.out.gr hg6; clear hg6)
            | (go_at_call 13; (with_reducible refine (at_yes _ (HGL.out.gr (HGS.out.trans HG6.out)) (ErrIs.no _ _)).mono ?_); rintro e w7 ⟨rfl, hg7⟩; have HG7 := Lib.hid hg7; clear hg7)
            | (go_at_call 19; (with_reducible refine (sameInts_any _ (ints_nil' _) (ints_nil' _)).mono ?_); rintro e w8 ⟨rfl, hg8⟩; have HG8 := Lib.hid (HG7.out.trans hg8); clear hg8))
          all_goals (try (exfalso; omega))
          go_ret
          exact ⟨rfl, (HGS.out.trans HG6.out).trans HG8.out⟩
        · have hex' : ¬ x < 0 := by omega
          go_enter Tryd.func4, Tryd.ntmps4
          go_wp2_with fail
          rw [← hw0]
          clear hw0
          obtain ⟨x0, x1, x2⟩ := HCC.out
          go_wp2_with (first
            | (go_at_call 8; (with_reducible refine (HM.out _).mono ?_); rintro e w1 ⟨rfl, rfl⟩)
            | (go_at_call 9; (with_reducible refine (HW.out _ HG0.out).mono ?_); rintro e w2 ⟨rfl, hg2⟩; unfold faultV; have HGB := Lib.hid (hg2.alloc (.cells #[.int .i64 c, .int .i64 pl] 30)); have HGA := Lib.hid (HG0.out.trans HGB.out); have HF2 := Lib.hid (res2_new' w2 c pl); have HLE := Lib.hid (Nat.le_trans HG0.out.size hg2.size); have HGB0 := Lib.hid hg2.size; obtain ⟨y0, y1, y2⟩ := HCC.out.gr HGB.out; clear hg2)
            | (go_at_call 11; (with_reducible refine (HO.out _ _ _ _).mono ?_); rintro e w3 ⟨rfl, hg3⟩; have HG3 := Lib.hid hg3; clear hg3)
            | (go_at_call 15; (with_reducible refine (HBC.out _).mono ?_); rintro e w4 ⟨rfl, hg4⟩; rw [HC0.out]; have HG4 := Lib.hid (HG3.out.trans hg4); clear hg4)
            | (go_at_call 16; (with_reducible refine (bare_any _ _).mono ?_); rintro e w5 ⟨rfl, hg5⟩; have HG5 := Lib.hid (HG4.out.trans hg5); obtain ⟨z0, z1, z2, z3⟩ := HF2.out.gr HG5.out; clear hg5; have HGS : Hid (Gr w ((w5.setCell ⟨w2.heap.size, 0, none⟩ (.int .i64 2)).setCell ⟨w2.heap.size, 1, none⟩ (.int .i64 (-1)))) := Lib.hid (((HGA.out.trans HG5.out).setCell HLE.out _).setCell HLE.out _); have HG0S : Hid (Gr w0 ((w5.setCell ⟨w2.heap.size, 0, none⟩ (.int .i64 2)).setCell ⟨w2.heap.size, 1, none⟩ (.int .i64 (-1)))) := Lib.hid (((HGB.out.trans HG5.out).setCell HGB0.out _).setCell HGB0.out _); obtain ⟨p0, p1, p2⟩ := HCC.out.gr HG0S.out; have HF5 := Lib.hid (res2_set' ⟨z0, z1, z2, z3⟩ (.int .i64 2) (.int .i64 (-1))))
            | (go_at_call 18; (with_reducible refine (HP.out _).mono ?_); rintro e w6 ⟨rfl, hg6⟩; have HG6 := Lib.hid hg6; obtain ⟨n0, n1⟩ := HF5.out.gr hg6; clear hg6)
            | (go_at_call 13; (with_reducible refine (at_yes _ (HGL.out.gr (HGS.out.trans HG6.out)) (ErrIs.no _ _)).mono ?_); rintro e w7 ⟨rfl, hg7⟩; have HG7 := Lib.hid hg7; clear hg7)
            | (go_at_call 19; (with_reducible refine (sameInts_any _ (ints_nil' _) (ints_nil' _)).mono ?_); rintro e w8 ⟨rfl, hg8⟩; have HG8 := Lib.hid (HG7.out.trans hg8); clear hg8))
          all_goals (try (exfalso; omega))
          go_ret
          exact ⟨rfl, (HGS.out.trans HG6.out).trans HG8.out⟩
    · have HP := Lib.hid (fun u => @one_badB b t r x (.slice a l.length cap) u hb hc)
      have hck := ckB_no hc
      have HWC : Hid (wrongC b t r l = 2 ∧ wrongP b t r l = -1) := Lib.hid (by unfold wrongC wrongP; rw [if_neg (by rw [hck]; decide), if_neg (by rw [hck]; decide)]; exact ⟨hck, rfl⟩)
      have HC0 := Lib.hid hck
      clear hx hg hf hm hck hc
      unfold bktV at *
      generalize wrongC b t r l = c0 at *
      generalize wrongP b t r l = pl0 at *
      go_enter Tryd.func4, Tryd.ntmps4
      go_wp2_with fail
      rw [← hw0]
      clear hw0
      obtain ⟨x0, x1, x2⟩ := HCC.out
      go_wp2_with (first
        | (go_at_call 8; (with_reducible refine (HM.out _).mono ?_); rintro e w1 ⟨rfl, rfl⟩)
        | (go_at_call 9; (with_reducible refine (HW.out _ HG0.out).mono ?_); rintro e w2 ⟨rfl, hg2⟩; rw [HWC.out.1, HWC.out.2]; unfold faultV; have HGB := Lib.hid (hg2.alloc (.cells #[.int .i64 2, .int .i64 (-1)] 30)); have HGA := Lib.hid (HG0.out.trans HGB.out); have HF2 : Hid (Cells2 (w2.alloc (.cells #[.int .i64 2, .int .i64 (-1)] 30)) w2.heap.size (.int .i64 2) (.int .i64 (-1))) := Lib.hid ⟨by simp, by simp⟩; obtain ⟨y0, y1, y2⟩ := HCC.out.gr HGB.out; clear hg2)
        | (go_at_call 11; (with_reducible refine (HO.out _ _ _ _).mono ?_); rintro e w3 ⟨rfl, hg3⟩; have HG3 := Lib.hid hg3; clear hg3)
        | (go_at_call 15; (with_reducible refine (HBC.out _).mono ?_); rintro e w4 ⟨rfl, hg4⟩; rw [HC0.out]; have HG4 := Lib.hid (HG3.out.trans hg4); obtain ⟨z0, z1⟩ := HF2.out.gr HG4.out; obtain ⟨p0, p1, p2⟩ := HCC.out.gr (HGB.out.trans HG4.out); clear hg4)
        | (go_at_call 18; (with_reducible refine (HP.out _).mono ?_); rintro e w7 ⟨rfl, hg7⟩; have HG7 := Lib.hid (HG4.out.trans hg7); obtain ⟨n0, n1⟩ := HF2.out.gr HG7.out; clear hg7)
        | (go_at_call 13; (with_reducible refine (at_yes _ (HGL.out.gr (HGA.out.trans HG7.out)) (ErrIs.no _ _)).mono ?_); rintro e w8 ⟨rfl, hg8⟩; have HG8 := Lib.hid hg8; clear hg8)
        | (go_at_call 19; (with_reducible refine (sameInts_any _ (ints_nil' _) (ints_nil' _)).mono ?_); rintro e w9 ⟨rfl, hg9⟩; have HG9 := Lib.hid (HG8.out.trans hg9); clear hg9))
      all_goals (try (exfalso; omega))
      go_ret
      exact ⟨rfl, (HGA.out.trans HG7.out).trans HG9.out⟩
end Go.Proofs.YtogmjjaoflaogaaDoor

/-
  The law BucketPlays: its walk.
-/
import Derived.Test.YtogmjjaoflaogaaGreatDoorBktR
import Derived.Test.YtogmjjaoflaogaaGreatDoorBktM
import Derived.Test.YtogmjjaoflaogaaGreatDoorFrameB
import Derived.Test.YtogmjjaoflaogaaGreatDoorFrameI
namespace Go.Proofs.YtogmjjaoflaogaaGreatDoor
open Go.RowKit Go.Extern.Stop Go.Stop Go.Extern

/-- The bucket ahead of ask k. -/
def askStep (B : Bkt) (s : BSt) (x y z : Int) : BSt := if x = 0 then (B.has s y).2 else if x = 1 then (B.take s y z).2 else (B.when s y z).2
def askSt (B : Bkt) (F : Nat → Nat → Int) : Nat → BSt
  | 0 => B.full
  | k + 1 => askStep B (askSt B F k) (F k 0) (F k 1) (F k 2)
theorem askSt_ok (B : Bkt) (F : Nat → Nat → Int) (k : Nat) : B.Ok (askSt B F k) := by
  induction k with
  | zero => exact B.full_ok
  | succ k ih =>
    show B.Ok (askStep B (askSt B F k) (F k 0) (F k 1) (F k 2))
    unfold askStep
    split
    · exact B.has_ok ih _
    · split
      · exact B.take_ok ih _ _
      · exact B.when_ok ih _ _
/-- Both buckets on their way. -/
structure PlayAt (w wr : World) (p q : Nat) (B : Bkt) (s1 s2 : BSt) : Prop where
  gr : Gr w wr
  st : StAt wr p B s1
  f : ∃ g, FAt wr q B s2 g
  ne : p ≠ q
  ap : w.heap.size ≤ p
  aq : w.heap.size ≤ q
section
variable {w wr u : World} {p q : Nat} {B : Bkt} {s1 s2 s' : BSt}
theorem PlayAt.to (h : PlayAt w wr p q B s1 s2) (k : Gr wr u) : PlayAt w u p q B s1 s2 := by
  obtain ⟨g, hf⟩ := h.f
  exact ⟨h.gr.trans k, h.st.gr k, ⟨g, hf.gr k⟩, h.ne, h.ap, h.aq⟩
theorem PlayAt.stP (h : PlayAt w wr p q B s1 s2) (hs : StAt u p B s') (ho : Only p 3 wr u) : PlayAt w u p q B s' s2 := by
  obtain ⟨g, hf⟩ := h.f
  exact ⟨ho.gr w h.gr h.ap, hs, ⟨g, hf.only h.st.mine ho (Ne.symm h.ne)⟩, h.ne, h.ap, h.aq⟩
theorem PlayAt.stF (h : PlayAt w wr p q B s1 s2) (hs : ∃ g, FAt u q B s' g) (ho : Only q 3 wr u) : PlayAt w u p q B s1 s' :=
  ⟨ho.gr w h.gr h.aq, h.st.only ho h.ne, hs, h.ne, h.ap, h.aq⟩
theorem PlayAt.ltp (h : PlayAt w wr p q B s1 s2) : p < wr.heap.size := cell_lt h.st.c0
theorem PlayAt.ltq (h : PlayAt w wr p q B s1 s2) : q < wr.heap.size := by obtain ⟨g, hf⟩ := h.f; exact cell_lt hf.c0
theorem Cells3.only {a : Nat} {x y z : Value} (h : Cells3 wr a x y z) (k : Only q 3 wr u) (hne : q ≠ a) : Cells3 u a x y z :=
  ⟨(k.cell a 0 (cell_lt h.c0) (.inl (Ne.symm hne))).trans h.c0, (k.cell a 1 (cell_lt h.c1) (.inl (Ne.symm hne))).trans h.c1, (k.cell a 2 (cell_lt h.c2) (.inl (Ne.symm hne))).trans h.c2⟩
end
theorem rec_ask : IntRec 45 3 := ⟨by kernel_rfl, _, Tryz.underlying45, rfl, fun j hj => by
  match j, hj with
  | 0, _ => exact ⟨_, rfl, rfl, rfl⟩
  | 1, _ => exact ⟨_, rfl, rfl, rfl⟩
  | 2, _ => exact ⟨_, rfl, rfl, rfl⟩⟩

set_option maxRecDepth 100000 in
set_option maxHeartbeats 16000000 in
theorem bucketPlays_walk (w : World) (hg : Glob w) (b t r : Int) (hb : Bd b ∧ Bd t ∧ Bd r) {v : Value} {n : Nat} {F : Nat → Nat → Int} (hx : Recs 3 w v n F) (hbd : ∀ i, i < n → ∀ j, j < 3 → Bd (F i j)) :
    Calls Tryz.prog 3 #[bktV b t r, v] w fun e w' => e = .returned (.bool true) ∧ Gr w w' := by
  have HGL := Lib.hid hg
  have hln := hx.len
  obtain ⟨a, cap, rfl, hx'⟩ := hx.any
  have HX := hx'
  obtain ⟨w0, hw0⟩ : ∃ w0, w0 = w.alloc (.cells #[.int .i64 b, .int .i64 t, .int .i64 r] 25) := ⟨_, rfl⟩
  have HG0 : Hid (Gr w w0) := Lib.hid (by rw [hw0]; exact (Gr.refl w).alloc _)
  have HCC : Hid (Cells3 w0 w.heap.size (.int .i64 b) (.int .i64 t) (.int .i64 r)) := Lib.hid (by rw [hw0]; exact ⟨by simp, by simp, by simp⟩)
  have HO := Lib.hid (fun b t r u => of_any b t r u)
  have HBC := Lib.hid (fun u => rbcheck_any b t r u)
  have HPC := Lib.hid (fun u => bcheck_any b t r u hb.1 hb.2.1 hb.2.2)
  by_cases hn : 60 < n
  · have hn' : (60 : Int) < (n : Int) := by omega
    clear hx hg hbd
    unfold bktV at *
    go_enter Tryz.func3, Tryz.ntmps3
    go_wp2_with fail
    go_ret
    exact ⟨rfl, by rw [← hw0]; exact HG0.out⟩
  · have hn' : (n : Int) ≤ 60 := by omega
    by_cases hc : BIn b t r
    · obtain ⟨B, rfl, rfl, rfl⟩ := bkt_of hc
      have HZ := Lib.hid (errV_zero (ckB_ok hc))
      have HC0 := Lib.hid (ckB_ok hc)
      have HNW := Lib.hid (fun u => bnew_ok B u)
      have HNF := Lib.hid (fun u => newFilled_any B u)
      have HBD : Hid (∀ k, k < n → -9223372036854775808 ≤ F k 1) := Lib.hid (fun k hk => (hbd k hk 1 (by omega)).1)
      clear hx hg hbd hc
      unfold bktV at *
      have tok1 := trivial
      have tokA := trivial
      go_enter Tryz.func3, Tryz.ntmps3
      go_wp2_with fail
      rw [← hw0]
      clear hw0
      obtain ⟨x0, x1, x2⟩ := HCC.out
      go_wp2_with (first
        | (go_at_call 6; have _ := tok1; (with_reducible refine (HO.out _ _ _ _).mono ?_); rintro e w1 ⟨rfl, hg1⟩; have HG1 := Lib.hid hg1; clear hg1 tok1)
        | (go_at_call 5; (with_reducible refine (HBC.out _).mono ?_); rintro e w2 ⟨rfl, hg2⟩; rw [HC0.out]; have HG2 := Lib.hid (HG1.out.trans hg2); obtain ⟨y0, y1, y2⟩ := HCC.out.gr HG2.out; clear hg2)
        | (go_at_call 7; (with_reducible refine (HNW.out _).mono ?_); rintro e w3 ⟨p, rfl, hp, hs, hg3⟩; have HG3 := Lib.hid (HG2.out.trans hg3); have HS := Lib.hid hs; have HP := Lib.hid (Nat.le_trans (HG0.out.trans HG2.out).size hp); clear hp hs hg3)
        | (go_at_call 8; have _ := tokA; (with_reducible refine (bare_true _ (HGL.out.gr (HG0.out.trans HG3.out)) (ErrIs.nil _)).mono ?_); rintro e w4 ⟨rfl, hg4⟩; have HG4 := Lib.hid (HG3.out.trans hg4); have HS4 := Lib.hid (HS.out.gr hg4); obtain ⟨z0, z1, z2⟩ := HCC.out.gr HG4.out; clear hg4 tokA)
        | (go_at_call 9; (with_reducible refine (HPC.out _).mono ?_); rintro e w5 ⟨rfl, hg5⟩; rw [HZ.out]; have HG5 := Lib.hid (HG4.out.trans hg5); have HS5 := Lib.hid (HS4.out.gr hg5); clear hg5)
        | (go_at_call 8; (with_reducible refine (bare_true _ (HGL.out.gr (HG0.out.trans HG5.out)) (ErrIs.nil _)).mono ?_); rintro e w6 ⟨rfl, hg6⟩; have HG6 := Lib.hid (HG5.out.trans hg6); have HS6 := Lib.hid (HS5.out.gr hg6); obtain ⟨p0, p1, p2⟩ := HCC.out.gr HG6.out; clear hg6)
        | (go_at_call 6; (with_reducible refine (HO.out _ _ _ _).mono ?_); rintro e w7 ⟨rfl, hg7⟩; have HG7 := Lib.hid (HG6.out.trans hg7); have HS7 := Lib.hid (HS6.out.gr hg7); clear hg7)
        | (go_at_call 13; (with_reducible refine (HNF.out _).mono ?_); rintro e w8 ⟨q, g0, rfl, hq, hs, hg8⟩; have HP0 : Hid (PlayAt w w8 p q B (askSt B F 0) (askSt B F 0)) := Lib.hid ⟨HG0.out.trans (HG7.out.trans hg8), HS7.out.gr hg8, ⟨g0, hs⟩, Nat.ne_of_lt (Nat.lt_of_lt_of_le (cell_lt HS7.out.c0) hq), HP.out, Nat.le_trans (HG0.out.trans HG7.out).size hq⟩; clear hq hs hg8))
      clear x0 x1 x2 y0 y1 y2 z0 z1 z2 p0 p1 p2
      go_loopw [12] (fun i wr => ∃ k : Nat, k ≤ n ∧ i = .int .i64 k ∧ Hid (PlayAt w wr p q B (askSt B F k) (askSt B F k))) (fun i _ => n - (intOf i).toNat)
      case atStart => exact ⟨0, Nat.zero_le _, rfl, HP0⟩
      case round =>
        obtain ⟨k, hk, rfl, HP⟩ := hrel
        by_cases hlt : k < n
        · obtain ⟨bb, off, rfl, hA⟩ := HX.out (by omega)
          have c0 := HP.out.gr.cell (hA k hlt 0 (by omega))
          have c1 := HP.out.gr.cell (hA k hlt 1 (by omega))
          have c2 := HP.out.gr.cell (hA k hlt 2 (by omega))
          rw [Nat.add_zero] at c0
          have i0 : (0 : Int) ≤ (k : Int) := by omega
          have i1 : (k : Int) < (n : Int) := by omega
          have hy := HBD.out k hlt
          have HOK := Lib.hid (askSt_ok B F k)
          have HNX : Hid (askSt B F (k + 1) = askStep B (askSt B F k) (F k 0) (F k 1) (F k 2)) := Lib.hid rfl
          clear hA
          generalize askSt B F k = s at *
          generalize F k 0 = x at *
          generalize F k 1 = y at *
          generalize F k 2 = z at *
          obtain ⟨w3, hw3⟩ : ∃ w3, w3 = wr.alloc (.cells #[.int .i64 x, .int .i64 y, .int .i64 z] 45) := ⟨_, rfl⟩
          have HP3 : Hid (PlayAt w w3 p q B s s) := Lib.hid (by rw [hw3]; exact HP.out.to ((Gr.refl wr).alloc _))
          have HC3 : Hid (Cells3 w3 wr.heap.size (.int .i64 x) (.int .i64 y) (.int .i64 z)) := Lib.hid (by rw [hw3]; exact ⟨by simp, by simp, by simp⟩)
          have HNE : Hid (p ≠ wr.heap.size ∧ q ≠ wr.heap.size) := Lib.hid ⟨Nat.ne_of_lt HP.out.ltp, Nat.ne_of_lt HP.out.ltq⟩
          clear HP
          have HH := Lib.hid (fun u h => has_any p B s y u h HOK.out hy)
          have HT := Lib.hid (fun u h => take_any p B s y z u h HOK.out hy)
          have HWN := Lib.hid (fun u h => when_any p B s y z u h HOK.out hy)
          have HRH := Lib.hid (fun g u h => rhas_any q g B s y u h HOK.out hy)
          have HRT := Lib.hid (fun g u h => rtake_any q g B s y z u h HOK.out hy)
          have HRW := Lib.hid (fun g u h => rwhen_any q g B s y z u h HOK.out hy)
          by_cases hx0 : x = 0
          · have HN2 : Hid (askSt B F (k + 1) = (B.has s y).2) := Lib.hid (by rw [HNX.out]; unfold askStep; rw [if_pos hx0])
            clear HT HWN HRT HRW HNX HOK
            subst hx0
            generalize (B.has s y).1 = rr at *
            generalize (B.has s y).2 = s' at *
            go_wp2_with fail
            rw [← hw3]
            clear hw3
            have d0 := HC3.out.c0
            have d1 := HC3.out.c1
            go_wp2
            have tok3 := trivial
            go_region_held3 (fun w' => w'.cell? ⟨wr.heap.size, 1, none⟩ = some (.int .i64 y))
              (first
                | exact HC5.out.c1
                | exact HC4.out.c1
                | go_keep)
              (first
                | (go_at_call 11; have _ := tok3; (with_reducible refine (HH.out _ (HP3.out.to (Gr.refl w3).drew).st).mono ?_); rintro e w4 ⟨rfl, hs, ho⟩; have HP4 := Lib.hid ((HP3.out.to (Gr.refl w3).drew).stP hs ho); have HC4 := Lib.hid ((HC3.out.gr (Gr.refl w3).drew).only ho HNE.out.1); clear hs ho tok3; have tokP := trivial)
                | (go_at_call 14; have _ := tokP; obtain ⟨gq, hgq⟩ := HP4.out.f; (with_reducible refine (HRH.out gq _ hgq).mono ?_); clear hgq; rintro e w5 ⟨rfl, hs, ho⟩; have HP5 := Lib.hid (HP4.out.stF hs ho); have HC5 := Lib.hid (HC4.out.only ho HNE.out.2); clear hs ho tokP)
                | (go_at_call 14; have _ := tok3; obtain ⟨gq, hgq⟩ := (HP3.out.to (Gr.refl w3).drew).f; (with_reducible refine (HRH.out gq _ hgq).mono ?_); clear hgq; rintro e w4 ⟨rfl, hs, ho⟩; have HP4 := Lib.hid ((HP3.out.to (Gr.refl w3).drew).stF hs ho); have HC4 := Lib.hid ((HC3.out.gr (Gr.refl w3).drew).only ho HNE.out.2); clear hs ho tok3; have tokF := trivial)
                | (go_at_call 11; have _ := tokF; (with_reducible refine (HH.out _ HP4.out.st).mono ?_); rintro e w5 ⟨rfl, hs, ho⟩; have HP5 := Lib.hid (HP4.out.stP hs ho); have HC5 := Lib.hid (HC4.out.only ho HNE.out.1); clear hs ho tokF))
            all_goals
              go_wp2
              go_roundw
              case rel => exact ⟨k + 1, by omega, by go_num, by rw [HN2.out]; exact HP5⟩
              case measure => simp [intOf]; omega
          · by_cases hx1 : x = 1
            · have HN2 : Hid (askSt B F (k + 1) = (B.take s y z).2) := Lib.hid (by rw [HNX.out]; unfold askStep; rw [if_neg hx0, if_pos hx1])
              clear HH HWN HRH HRW HNX HOK
              subst hx1
              generalize (B.take s y z).1 = rr at *
              generalize (B.take s y z).2 = s' at *
              go_wp2_with fail
              rw [← hw3]
              clear hw3
              have d0 := HC3.out.c0
              have d1 := HC3.out.c1
              have d2 := HC3.out.c2
              go_wp2
              have tok3 := trivial
              go_region_held3 (fun w' => w'.cell? ⟨wr.heap.size, 1, none⟩ = some (.int .i64 y) ∧ w'.cell? ⟨wr.heap.size, 2, none⟩ = some (.int .i64 z))
                (first
                  | exact ⟨HC5.out.c1, HC5.out.c2⟩
                  | exact ⟨HC4.out.c1, HC4.out.c2⟩
                  | go_keep)
                (first
                  | (go_at_call 12; have _ := tok3; (with_reducible refine (HT.out _ (HP3.out.to (Gr.refl w3).drew).st).mono ?_); rintro e w4 ⟨rfl, hs, ho⟩; have HP4 := Lib.hid ((HP3.out.to (Gr.refl w3).drew).stP hs ho); have HC4 := Lib.hid ((HC3.out.gr (Gr.refl w3).drew).only ho HNE.out.1); clear hs ho tok3; have tokP := trivial)
                  | (go_at_call 15; have _ := tokP; obtain ⟨gq, hgq⟩ := HP4.out.f; (with_reducible refine (HRT.out gq _ hgq).mono ?_); clear hgq; rintro e w5 ⟨rfl, hs, ho⟩; have HP5 := Lib.hid (HP4.out.stF hs ho); have HC5 := Lib.hid (HC4.out.only ho HNE.out.2); clear hs ho tokP)
                  | (go_at_call 15; have _ := tok3; obtain ⟨gq, hgq⟩ := (HP3.out.to (Gr.refl w3).drew).f; (with_reducible refine (HRT.out gq _ hgq).mono ?_); clear hgq; rintro e w4 ⟨rfl, hs, ho⟩; have HP4 := Lib.hid ((HP3.out.to (Gr.refl w3).drew).stF hs ho); have HC4 := Lib.hid ((HC3.out.gr (Gr.refl w3).drew).only ho HNE.out.2); clear hs ho tok3; have tokF := trivial)
                  | (go_at_call 12; have _ := tokF; (with_reducible refine (HT.out _ HP4.out.st).mono ?_); rintro e w5 ⟨rfl, hs, ho⟩; have HP5 := Lib.hid (HP4.out.stP hs ho); have HC5 := Lib.hid (HC4.out.only ho HNE.out.1); clear hs ho tokF))
              all_goals
                go_wp2
                go_roundw
                case rel => exact ⟨k + 1, by omega, by go_num, by rw [HN2.out]; exact HP5⟩
                case measure => simp [intOf]; omega
            · have HN2 : Hid (askSt B F (k + 1) = (B.when s y z).2) := Lib.hid (by rw [HNX.out]; unfold askStep; rw [if_neg hx0, if_neg hx1])
              clear HH HT HRH HRT HNX HOK
              generalize (B.when s y z).1.1 = rr at *
              generalize (B.when s y z).1.2 = rb at *
              generalize (B.when s y z).2 = s' at *
              go_wp2_with fail
              rw [← hw3]
              clear hw3
              obtain ⟨d0, d1, d2⟩ := HC3.out
              go_wp2_with (first
                | (go_at_call 10; (with_reducible refine (HWN.out _ HP3.out.st).mono ?_); rintro e w4 ⟨rfl, hs, ho⟩; have HP4 := Lib.hid (HP3.out.stP hs ho); have HC4 := Lib.hid (HC3.out.only ho HNE.out.1); obtain ⟨f0, f1, f2⟩ := HC4.out; clear hs ho)
                | (go_at_call 16; obtain ⟨gq, hgq⟩ := HP4.out.f; (with_reducible refine (HRW.out gq _ hgq).mono ?_); clear hgq; rintro e w5 ⟨rfl, hs, ho⟩; have HP5 := Lib.hid (HP4.out.stF hs ho); clear hs ho))
              go_roundw
              case rel => exact ⟨k + 1, by omega, by go_num, by rw [HN2.out]; exact HP5⟩
              case measure => simp [intOf]; omega
        · obtain rfl : k = n := by omega
          go_wp2
          go_ret
          exact ⟨rfl, HP.out.gr⟩
    · have HZ : Hid (errV (ckB b t r) = .iface 27 (.int .i64 2)) := Lib.hid (by rw [ckB_no hc]; exact errV_ne (by decide))
      have HC0 := Lib.hid (ckB_no hc)
      have HNW := Lib.hid (fun u => bnew_no b t r u hb.1 hb.2.1 hb.2.2 hc)
      clear hx hg hbd hc
      unfold bktV at *
      have tokA := trivial
      go_enter Tryz.func3, Tryz.ntmps3
      go_wp2_with fail
      rw [← hw0]
      clear hw0
      obtain ⟨x0, x1, x2⟩ := HCC.out
      go_wp2_with (first
        | (go_at_call 6; (with_reducible refine (HO.out _ _ _ _).mono ?_); rintro e w1 ⟨rfl, hg1⟩; have HG1 := Lib.hid hg1; clear hg1)
        | (go_at_call 5; (with_reducible refine (HBC.out _).mono ?_); rintro e w2 ⟨rfl, hg2⟩; rw [HC0.out]; have HG2 := Lib.hid (HG1.out.trans hg2); obtain ⟨y0, y1, y2⟩ := HCC.out.gr HG2.out; clear hg2)
        | (go_at_call 7; (with_reducible refine (HNW.out _).mono ?_); rintro e w3 ⟨rfl, hg3⟩; have HG3 := Lib.hid (HG2.out.trans hg3); clear hg3)
        | (go_at_call 8; have _ := tokA; (with_reducible refine (bare_true _ (HGL.out.gr (HG0.out.trans HG3.out)) (ErrIs.no _ _)).mono ?_); rintro e w4 ⟨rfl, hg4⟩; have HG4 := Lib.hid (HG3.out.trans hg4); obtain ⟨z0, z1, z2⟩ := HCC.out.gr HG4.out; clear hg4 tokA)
        | (go_at_call 9; (with_reducible refine (HPC.out _).mono ?_); rintro e w5 ⟨rfl, hg5⟩; rw [HZ.out]; have HG5 := Lib.hid (HG4.out.trans hg5); clear hg5)
        | (go_at_call 8; (with_reducible refine (bare_true _ (HGL.out.gr (HG0.out.trans HG5.out)) (ErrIs.no _ _)).mono ?_); rintro e w6 ⟨rfl, hg6⟩; have HG6 := Lib.hid (HG5.out.trans hg6); clear hg6)
        | (go_at_call 10; (with_reducible refine (when_none _ _ _).mono ?_); rintro e w7 ⟨rfl, rfl⟩)
        | (go_at_call 11; (with_reducible refine (has_none _ _).mono ?_); rintro e w7 ⟨rfl, rfl⟩)
        | (go_at_call 12; (with_reducible refine (take_none _ _ _).mono ?_); rintro e w7 ⟨rfl, rfl⟩))
      go_ret
      exact ⟨rfl, HG0.out.trans HG6.out⟩
end Go.Proofs.YtogmjjaoflaogaaGreatDoor

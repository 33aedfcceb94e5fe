/-
  The reference's Hashed: Put, where one must go. (Printed by genhas.py.)
-/
import Derived.Test.YtbpofdfehcbppaaDoorHasK
import Derived.Test.YtbpofdfehcbppaaDoorHasF
namespace Go.Proofs.YtbpofdfehcbppaaDoor
open Go.RowKit Go.Extern.Stop Go.Stop Go.Extern

/-- What the reference's Put leaves. -/
def RHPutP (w : World) (p : Nat) (q : HasP) (lv tv : Value) (l : List Hel) (turn : List Int) (y : Hel) (e : Ending) (w' : World) : Prop := ∃ r, e = .returned r ∧ RowH 108 w' r [y] ∧ RHDid w w' p q lv tv l turn
set_option maxRecDepth 100000 in
set_option maxHeartbeats 40000000 in
theorem rhput_full (p : Nat) (q : HasP) (lv tv : Value) (l : List Hel) (turn : List Int) (x : Hel) (ok : RPutOk q l turn x) (hroom : ¬ ((l.length : Nat) : Int) + 1 ≤ q.room) (lg : Nat) (hlg : longest q (l ++ [x]) q.lists = lg) (y : Hel) (f : List Hel) (hy : ofK q (l ++ [x]) lg = f ++ [y]) (T2 : List Int)
    (hT2 : T2 = if f = [] then (putT (fun k => ofK q l k) turn (hashOf q x.flow)).filter (fun i => decide (i ≠ (lg : Int))) else putT (fun k => ofK q l k) turn (hashOf q x.flow)) (hTL : (putT (fun k => ofK q l k) turn (hashOf q x.flow)).length ≤ 1000) (now : Int) (w : World) (h : RHasC w p q lv tv l turn) :
    Calls Tryd.prog 125 #[.pointer (some ⟨p, 0, none⟩), .int .i64 now, x.val] w (RHPutP w p q lv tv (outN (l ++ [x]) y.n) T2 y) := by
  have CB := Lib.hid (decide_eq_false hroom)
  have HLG := Lib.hid hlg
  have HY := Lib.hid hy
  have HT2 := Lib.hid hT2
  have HTN := Lib.hid hTL
  have HFX := Lib.hid (show ∀ z ∈ l ++ [x], 0 ≤ z.flow ∧ z.flow ≤ 15 from fun z hz => (List.mem_append.1 hz).elim (ok.flows z) (fun e => by rw [List.mem_singleton.1 e]; exact ok.flow))
  have HNX := Lib.hid (show (l ++ [x]).length ≤ 300 from by have := ok.few; simp; omega)
  have HOFL := Lib.hid (fun k lv tv t u h => rof_any p q ok.ok lv tv (l ++ [x]) t HNX.out HFX.out k u h)
  have HOUT := Lib.hid (fun lv tv t u h => rout_any p q lv tv (l ++ [x]) t HNX.out y u h)
  have HQL := Lib.hid ok.ok.lists
  clear hlg hy hT2 hTL
  obtain ⟨ta, tc, rfl⟩ := h.turn.shape
  have HA := Lib.hid h
  have HOK := Lib.hid ok
  have HPL := Lib.hid h.lt
  have HRL := Lib.hid ok.turn
  generalize hk0 : hashOf q x.flow = k at *
  have HK := Lib.hid hk0
  have HOF := Lib.hid (fun lv tv t u h => rof_any p q ok.ok lv tv l t (by have := ok.few; omega) ok.flows k u h)
  clear h ok hroom hk0
  unfold Hel.val at *
  go_enter Tryd.func125, Tryd.ntmps125
  go_upto_region 1 with fail
  obtain ⟨w0, hw0⟩ : ∃ u, u = w.alloc (.cells #[.int .i64 x.t, .int .i64 x.len, .int .i64 x.flow, .int .i64 x.band, .int .i64 x.mark, .int .i64 x.n] 108) := ⟨_, rfl⟩
  obtain ⟨bx, hbx⟩ : ∃ u, u = w.heap.size := ⟨_, rfl⟩
  have HX0 : Hid (HelAt w0 bx 0 x ∧ bx = w.heap.size) := Lib.hid (by rw [hw0]; exact ⟨held_new w x hbx, hbx⟩)
  have HG0 : Hid (Gr w w0) := Lib.hid (by rw [hw0]; exact (Gr.refl _).alloc _)
  rw [← hw0, ← hbx]
  clear hw0 hbx
  have HM0 := Lib.hid ((RHM.first HA.out).res_add HG0.out (show w.heap.size ≤ bx by have := HX0.out.2; omega) (cell_lt HX0.out.1.c0))
  have xf := HX0.out.1.c2
  rw [Nat.zero_add] at xf
  go_upto_region 2 with (go_at_call 28; refine (rwhere_any p q HOK.out.ok x.flow HOK.out.flow _ HM0.out.at_.c0 HM0.out.at_.c1).mono ?_; rw [HK.out]; rintro e w1 ⟨rfl, hg1⟩; have HM1 := Lib.hid (HM0.out.gr hg1); have HX1 := Lib.hid (HX0.out.1.gr hg1); clear hg1)
  clear xf
  by_cases hk0 : ofK q l k = []
  · have HT1 : Hid (putT (fun k => ofK q l k) turn k = turn ++ [(k : Int)]) := Lib.hid (by unfold putT; rw [if_pos hk0])
    have HK0 := Lib.hid hk0
    clear hk0
    go_upto_region 3 with (go_at_call 128; refine (HOF.out _ _ _ _ HM1.out.at_).mono ?_; rintro e w2 ⟨rr, rfl, hrow, hg2, _⟩; rw [HK0.out] at hrow; obtain ⟨ra, rc, rfl⟩ := hrow.shape; have HM2 := Lib.hid (HM1.out.gr hg2); have HX2 := Lib.hid (HX1.out.gr hg2); clear hrow hg2)
    have c4 := HM2.out.at_.c4
    have f4 := HM2.out.at_.f4
    have hp0 : p < w2.heap.size := HM2.out.at_.lt
    have HS2 := Lib.hid (show (∀ u, Sav (fun g => (Value.slice ta turn.length tc).ownBlock = some g) w2 u → u.cell? ⟨p, 4, none⟩ = some (.slice ta turn.length tc) ∧ u.frozen? ⟨p, 4, none⟩ = false) from fun u hs => ⟨hs.cell HM2.out.at_.c4 HM2.out.at_.tp, hs.frozen (p := ⟨p, 4, none⟩) HM2.out.at_.lt HM2.out.at_.f4 HM2.out.at_.tp⟩)
    go_upto_region 4 with (at_builtin; refine wpList_append_intR rfl _ _ _ (by rfl) (by kernel_rfl) _ turn (k : Int) (by rfl) (HM2.out.at_.turn.gr ((Gr.refl w2).alloc (.cells #[.int .i64 (k : Int)] 3))) ⟨w2.heap.size, 0, none⟩ 1 (by rfl) (by simp) (by have := HRL.out; omega) ?_; intro v6 w6 hrow hgr hown; have hsv : Sav (fun g => (Value.slice ta turn.length tc).ownBlock = some g) w2 w6 := (Sav.of_gr ((Gr.refl w2).alloc (.cells #[.int .i64 (k : Int)] 3))).then (.of_grown hgr fun g e => e); have ho6 : ∀ g, v6.ownBlock = some g → (Value.slice ta turn.length tc).ownBlock = some g ∨ w2.heap.size ≤ g := (fun g e => (hown g e).imp id (fun e => by simp at e; omega)); have HM4 := Lib.hid (show RHM w _ p q lv _ [bx] lv v6 l (putT (fun k => ofK q l k) turn k) from by rw [HT1.out]; exact HM2.out.set_t hsv hrow ho6); have HX4 := Lib.hid ((HX2.out.sav hsv (fun e => HM2.out.nin (r := bx) (by simp) (.inr (.inr e)))).sav (.set p 4 v6) (fun e => HM2.out.nin (r := bx) (by simp) (.inl e))); obtain ⟨d3, g3⟩ := HS2.out _ hsv; clear hgr hown ho6 hsv c4 f4; obtain ⟨a6, c6, rfl⟩ := hrow.shape; clear hrow; rw [show (turn ++ [(k : Int)]).length = turn.length + 1 from by simp] at HM4 HX4)
    generalize w6.setCell ⟨p, 4, none⟩ (.slice a6 (turn.length + 1) c6) = w4 at *
    generalize Value.slice a6 (turn.length + 1) c6 = tv4 at *
    clear d3 g3 hp0 HS2 HM2 HX2 HM1 HX1
    obtain ⟨ba, cap, hlv⟩ := HM4.out.at_.row.shape
    subst hlv
    have HC3 := Lib.hid HM4.out.at_.c3
    have HF3 := Lib.hid HM4.out.at_.f3
    have HROW0 := Lib.hid HM4.out.at_.row
    have HNL := Lib.hid HOK.out.few
    have HNE : Hid (¬ (Value.slice ba l.length cap).ownBlock = some p ∧ ¬ (Value.slice ba l.length cap).ownBlock = some bx) := Lib.hid ⟨fun e => (HM4.out.at_.ap p e).1 rfl, fun e => HM4.out.nin (r := bx) (by simp) (.inr (.inl e))⟩
    have HLT := Lib.hid (fun g (hg : (Value.slice ba l.length cap).ownBlock = some g) => (show g < w4.heap.size from HROW0.out.lt hg))
    refine wp_region_k (n := 10) (fun u => Sav (fun q => (Value.slice ba l.length cap).ownBlock = some q) w4 u ∧ RowH 108 u (.slice ba l.length cap) l) [Fg.eq (.pointer (some ⟨p, 0, none⟩)), Fg.eq (.pointer (some ⟨p, 0, none⟩)), Fg.eq (.pointer (some ⟨p, 0, none⟩)), Fg.eq (.pointer (some ⟨p, 3, none⟩)), Fg.eq (.slice ba l.length cap), Fg.eq (x.val), Fg.hel w4.heap.size x, Fg.rowp w4 (.slice ba l.length cap) (l ++ [x]), Fg.eq (.pointer (some ⟨p, 0, none⟩)), Fg.eq (.pointer (some ⟨p, 3, none⟩))] [35, 36, 37, 38, 39, 40, 41, 42, 43, 44] (⟨.of_gr (Gr.refl w4).drew, HROW0.out.gr (Gr.refl w4).drew⟩) (by kernel_rfl) (by kernel_rfl) (by kernel_rfl) ?_ ?_
    · intro L i o a w1 hi ho hA
      have hI := hA.gr
      match i, hi with
      | 0, _ =>
        obtain rfl := Option.some.inj ho
        exact kstep_val hA (q_move rfl (show a.eval (.tmp 0) = .pointer (some ⟨p, 0, none⟩) from hA.other 0 (by decide))) rfl
      | 1, _ =>
        obtain rfl := Option.some.inj ho
        exact kstep_val hA (q_move rfl (show a.eval (.tmp 0) = .pointer (some ⟨p, 0, none⟩) from hA.other 0 (by decide))) rfl
      | 2, _ =>
        obtain rfl := Option.some.inj ho
        exact kstep_val hA (q_nil rfl (hA.fact 1 (hA.dep 1 (by kernel_rfl) (by decide)))) rfl
      | 3, _ =>
        obtain rfl := Option.some.inj ho
        exact kstep_val hA (r_fa_millraceref_Hashed_3 rfl (hA.fact 2 (hA.dep 2 (by kernel_rfl) (by decide)))) rfl
      | 4, _ =>
        obtain rfl := Option.some.inj ho
        exact kstep_val hA (q_loadSP rfl (hA.fact 3 (hA.dep 3 (by kernel_rfl) (by decide))) (hI.1.cell HC3.out HNE.out.1)) rfl
      | 5, _ =>
        obtain rfl := Option.some.inj ho
        exact kstep_val hA (q_loadP rfl (show a.eval (.tmp 5) = .pointer (some ⟨bx, 0, none⟩) from hA.other 5 (by decide)) (HX4.out.sav hI.1 HNE.out.2)) rfl
      | 6, _ =>
        obtain rfl := Option.some.inj ho
        exact kstep_gr hA (q_buildP rfl (hA.fact 5 (hA.dep 5 (by kernel_rfl) (by decide)))) ((Gr.refl _).alloc _) ⟨hI.1.then (.of_gr ((Gr.refl _).alloc _)), hI.2.gr ((Gr.refl _).alloc _)⟩ ⟨_, rfl, hI.1.size, held_new _ _ rfl⟩
      | 7, _ =>
        obtain rfl := Option.some.inj ho
        obtain ⟨g, hv, hg, hh⟩ := (hA.fact 6 (hA.dep 6 (by kernel_rfl) (by decide)))
        obtain ⟨i0, hi0, hz0, hz1, hz2⟩ := info_parts packInfo
        obtain ⟨v', w', hr, hrow, hgrow, hown, hold⟩ := RowH.app (P := Tryd.prog) (ys := [x]) 38 38 i0 Hel.zero.val Tryd.underlying38 hi0 hz0 hz1 hz2 rfl (by intro u hu; exact (cells_int Hel.zero u (by simpa [Hel.val, Value.cells, Hel.cells] using hu)).2) hI.2 ⟨g, 0, none⟩ 1 (by simp) (by rw [flat_one]; exact hh.news) (by have := HNL.out; simp; omega)
        refine kstep_keep hA (q_append rfl (hA.fact 4 (hA.dep 4 (by kernel_rfl) (by decide))) hv hr) ⟨hI.1.then (.of_grown hgrow fun _ h => h), hold⟩ ⟨hrow, fun g hg => (hown g hg).imp id (Nat.le_trans hI.1.size)⟩ ?_
        intro j hj u hu
        match j, hj, hu with
        | 0, _, hu => exact hu
        | 1, _, hu => exact hu
        | 2, _, hu => exact hu
        | 3, _, hu => exact hu
        | 4, _, hu => exact hu
        | 5, _, hu => exact hu
        | 8, _, hu => exact hu
        | 9, _, hu => exact hu
        | 6, _, hu => obtain ⟨g', h1, h2, h3⟩ := hu; exact ⟨g', h1, h2, h3.sav (B := fun q => (Value.slice ba l.length cap).ownBlock = some q) (.of_grown hgrow fun _ h => h) (fun e => by have := HLT.out g' e; omega)⟩
        | 7, hj, _ => exact absurd rfl hj
        | j + 10, _, _ => trivial
      | 8, _ =>
        obtain rfl := Option.some.inj ho
        exact kstep_val hA (q_nil rfl (hA.fact 0 (hA.dep 0 (by kernel_rfl) (by decide)))) rfl
      | 9, _ =>
        obtain rfl := Option.some.inj ho
        exact kstep_val hA (r_fa_millraceref_Hashed_3 rfl (hA.fact 8 (hA.dep 8 (by kernel_rfl) (by decide)))) rfl
    · intro vz w2 hI hv
      obtain ⟨hrow, hown⟩ := hv 7 (by omega)
      have v9 : vz 9 = .pointer (some ⟨p, 3, none⟩) := hv 9 (by omega)
      have hrow' : RowH 108 w2 (vz 7) (l ++ [x]) := hrow
      have hown' : ∀ g, (vz 7).ownBlock = some g → (Value.slice ba l.length cap).ownBlock = some g ∨ w4.heap.size ≤ g := hown
      have d0 := hI.1.cell HC3.out HNE.out.1
      have d1 := hI.1.frozen (p := ⟨p, 3, none⟩) (cell_lt HC3.out) HF3.out HNE.out.1
      have HM5 := Lib.hid (HM4.out.set_l hI.1 hrow' hown')
      have HX5 := Lib.hid ((HX4.out.sav hI.1 HNE.out.2).sav (.set p 3 (vz 7)) (fun e => HM4.out.nin (r := bx) (by simp) (.inl e)))
      clear hv hrow hown hI hown'
      simp only [putN, List.drop_succ_cons, List.drop_zero, List.getElem?_cons_succ, List.getElem?_cons_zero]
      generalize vz 7 = u7 at *
      generalize vz 9 = u9 at *
      subst v9
      obtain ⟨a', cap', rfl⟩ := hrow'.shape
      clear hrow'
      rw [List.length_append, show [x].length = 1 from rfl] at *
      go_upto_region 5 with fail
      generalize w2.setCell ⟨p, 3, none⟩ (.slice a' (l.length + 1) cap') = wz at *
      clear d0 d1 HC3 HF3 HROW0 HNE HLT HM4 HX4
      have C5 := Lib.hid (And.intro HM5.out.at_.c3 HM5.out.at_.c2)
      refine wp_region_gg (n := 9) [Fg.eq (.pointer (some ⟨p, 0, none⟩)), Fg.eq (.pointer (some ⟨p, 0, none⟩)), Fg.eq (.pointer (some ⟨p, 3, none⟩)), Fg.eq (.slice (a') (l.length + 1) cap'), Fg.eq (.int .i64 (((l.length + 1 : Nat) : Int) : Int)), Fg.eq (.pointer (some ⟨p, 0, none⟩)), Fg.eq (.pointer (some ⟨p, 0, none⟩)), Fg.eq (.pointer (some ⟨p, 2, none⟩)), Fg.eq (.int .i64 q.room)] [45, 46, 47, 48, 49, 50, 51, 52, 53] (by kernel_rfl) (by kernel_rfl) (by kernel_rfl) ?_ ?_
      · intro L i o' ac w1 hi ho hA
        have hgr : Gr wz w1 := (Gr.refl wz).drew.trans hA.gr
        match i, hi with
        | 0, _ =>
          obtain rfl := Option.some.inj ho
          exact gg_plain rfl (gstep_val (q_move rfl (show ac.eval (.tmp 0) = .pointer (some ⟨p, 0, none⟩) from hA.other 0 (by decide))) rfl)
        | 1, _ =>
          obtain rfl := Option.some.inj ho
          exact gg_plain rfl (gstep_val (q_nil rfl (hA.fact 0 (hA.dep 0 (by kernel_rfl) (by decide)))) rfl)
        | 2, _ =>
          obtain rfl := Option.some.inj ho
          exact gg_plain rfl (gstep_val (rhp_fa_millraceref_Hashed_3 rfl (hA.fact 1 (hA.dep 1 (by kernel_rfl) (by decide)))) rfl)
        | 3, _ =>
          obtain rfl := Option.some.inj ho
          exact gg_plain rfl (gstep_val (rhp_loadS___millraceref_Pack rfl (hA.fact 2 (hA.dep 2 (by kernel_rfl) (by decide))) (hgr.cell C5.out.1)) rfl)
        | 4, _ =>
          obtain rfl := Option.some.inj ho
          exact gg_plain rfl (gstep_val (rhp_len___millraceref_Pack rfl (hA.fact 3 (hA.dep 3 (by kernel_rfl) (by decide)))) rfl)
        | 5, _ =>
          obtain rfl := Option.some.inj ho
          exact gg_plain rfl (gstep_val (q_move rfl (show ac.eval (.tmp 0) = .pointer (some ⟨p, 0, none⟩) from hA.other 0 (by decide))) rfl)
        | 6, _ =>
          obtain rfl := Option.some.inj ho
          exact gg_plain rfl (gstep_val (q_nil rfl (hA.fact 5 (hA.dep 5 (by kernel_rfl) (by decide)))) rfl)
        | 7, _ =>
          obtain rfl := Option.some.inj ho
          exact gg_plain rfl (gstep_val (rhp_fa_millraceref_Hashed_2 rfl (hA.fact 6 (hA.dep 6 (by kernel_rfl) (by decide)))) rfl)
        | 8, _ =>
          obtain rfl := Option.some.inj ho
          exact gg_plain rfl (gstep_val (q_loadI rfl (hA.fact 7 (hA.dep 7 (by kernel_rfl) (by decide))) (hgr.cell C5.out.2)) rfl)
        | k + 9, hk => exact absurd (show k + 9 < 9 from hk) (by omega)
      · intro vz w5 hg5 hv
        have HGY := Lib.hid ((Gr.refl wz).drew.trans hg5)
        have v49 : vz 4 = .int .i64 (((l.length + 1 : Nat) : Int) : Int) := hv 4 (by omega)
        have v53 : vz 8 = .int .i64 q.room := hv 8 (by omega)
        clear hv hg5
        simp only [putN, List.drop_succ_cons, List.drop_zero, List.getElem?_cons_succ, List.getElem?_cons_zero]
        generalize vz 4 = z49 at *
        subst v49
        generalize vz 8 = z53 at *
        subst v53
        generalize vz 0 = z45 at *
        generalize vz 1 = z46 at *
        generalize vz 2 = z47 at *
        generalize vz 3 = z48 at *
        generalize vz 5 = z50 at *
        generalize vz 6 = z51 at *
        generalize vz 7 = z52 at *
        have hroom := of_decide_eq_false CB.out
        go_upto_region 8 with fail
        clear hroom
        have HM6 := Lib.hid (HM5.out.gr HGY.out)
        have HX6 := Lib.hid (HX5.out.gr HGY.out)
        generalize putT (fun k => ofK q l k) turn k = T at *
        have c0 := HM6.out.at_.c0
        go_wp2
        clear c0
        go_loopw [8, 59] (fun s8 s59 wr => ∃ (ii : Nat), ii ≤ q.lists ∧ s59 = .int .i64 (ii : Int) ∧ s8 = .int .i64 (longest q (l ++ [x]) ii : Int) ∧ Hid (RHM w wr p q (.slice ba l.length cap) (.slice ta turn.length tc) [bx] (.slice a' (l.length + 1) cap') tv4 (l ++ [x]) T)) (fun _ s _ => q.lists - (intOf s).toNat)
        case atStart => exact ⟨0, Nat.zero_le _, rfl, rfl, HM6⟩
        case round =>
          clear HM6 HX6 HM5 HX5
          obtain ⟨ii, hi, rfl, rfl, HMR⟩ := hrel
          by_cases hlt : ii < q.lists
          · have j0 : (0 : Int) ≤ (ii : Int) := by omega
            have j1 : (ii : Int) < (q.lists : Int) := by omega
            have HWI := Lib.hid (show wrap64 ((ii : Int) + 1) = (ii : Int) + 1 from by have := HQL.out; unfold wrap64; omega)
            have HLS := Lib.hid (show longest q (l ++ [x]) (ii + 1) = if (ofK q (l ++ [x]) (longest q (l ++ [x]) ii)).length < (ofK q (l ++ [x]) ii).length then ii else longest q (l ++ [x]) ii from rfl)
            generalize longest q (l ++ [x]) ii = mm at *
            by_cases c : (ofK q (l ++ [x]) mm).length < (ofK q (l ++ [x]) ii).length
            · have c1 : ((ofK q (l ++ [x]) mm).length : Int) < ((ofK q (l ++ [x]) ii).length : Int) := by omega
              rw [if_pos c] at HLS
              clear c
              go_wp2_with (first
                | (go_at_call 128; have _ := tok2; refine (HOFL.out mm _ _ _ _ HM7.out.at_).mono ?_; rintro e w8 ⟨rr8, rfl, hrow8, hg8, _⟩; obtain ⟨ra8, rc8, rfl⟩ := hrow8.shape; have HM8 := Lib.hid (HM7.out.gr hg8); clear hrow8 hg8)
                | (go_at_call 128; refine (HOFL.out ii _ _ _ _ HMR.out.at_).mono ?_; rintro e w7 ⟨rr7, rfl, hrow7, hg7, _⟩; obtain ⟨ra7, rc7, rfl⟩ := hrow7.shape; have HM7 := Lib.hid (HMR.out.gr hg7); clear hrow7 hg7; have tok2 := trivial))
              rw [HWI.out]
              go_roundw
              case measure => simp [intOf]; omega
              case rel => exact ⟨ii + 1, by omega, by go_num, by rw [HLS.out], HM8⟩
            · have c1 : ¬ ((ofK q (l ++ [x]) mm).length : Int) < ((ofK q (l ++ [x]) ii).length : Int) := by omega
              rw [if_neg c] at HLS
              clear c
              go_wp2_with (first
                | (go_at_call 128; have _ := tok2; refine (HOFL.out mm _ _ _ _ HM7.out.at_).mono ?_; rintro e w8 ⟨rr8, rfl, hrow8, hg8, _⟩; obtain ⟨ra8, rc8, rfl⟩ := hrow8.shape; have HM8 := Lib.hid (HM7.out.gr hg8); clear hrow8 hg8)
                | (go_at_call 128; refine (HOFL.out ii _ _ _ _ HMR.out.at_).mono ?_; rintro e w7 ⟨rr7, rfl, hrow7, hg7, _⟩; obtain ⟨ra7, rc7, rfl⟩ := hrow7.shape; have HM7 := Lib.hid (HMR.out.gr hg7); clear hrow7 hg7; have tok2 := trivial))
              rw [HWI.out]
              go_roundw
              case measure => simp [intOf]; omega
              case rel => exact ⟨ii + 1, by omega, by go_num, by rw [HLS.out], HM8⟩
          · obtain rfl : ii = q.lists := by omega
            have j1 : ¬ (q.lists : Int) < (q.lists : Int) := by omega
            clear hi hlt
            rw [HLG.out]
            have k0 : (0 : Int) ≤ (f.length : Int) := by omega
            have hfl : f.length ≤ 300 := by
              have h1 := ofK_le q (l ++ [x]) lg
              have h2 := HNX.out
              rw [HY.out] at h1
              simp only [List.length_append, List.length_cons, List.length_nil] at h1 h2
              omega
            have k2 : wrap64 (f.length : Int) = (f.length : Int) := by unfold wrap64; omega
            have HFL := Lib.hid hfl
            clear hfl
            go_upto_region 15 with (go_at_call 128; go_loud (refine (HOFL.out lg _ _ _ _ HMR.out.at_).mono ?_; rintro e w7 ⟨rr, rfl, hrow, hg7, _⟩; rw [HY.out] at hrow; obtain ⟨ra, rc, rfl, hcp, hcm, hce⟩ := hrow.any; obtain ⟨b7, o7, rfl, hcell⟩ := hce.out (by simp); have hel := hcell f.length (by simp); rw [show (f ++ [y]).getD f.length .zero = y from by simp [List.getD_eq_getElem?_getD]] at hel; have HM7 := Lib.hid (HMR.out.gr hg7); have HEL7 := Lib.hid hel; have HCP := Lib.hid (And.intro hcp hcm); clear hce hcell hrow hg7 hel hcp hcm; rw [List.length_append, show [y].length = 1 from rfl] at HCP ⊢))
            have i1 : ((f.length + 1 : Nat) : Int) ≤ (rc : Int) := by have := HCP.out.1; omega
            obtain ⟨y0, y1, y2, y3, y4, y5⟩ := HEL7.out
            go_upto_region 16 with fail
            clear y0 y1 y2 y3 y4 y5 k2 i1
            obtain ⟨w8, hw8⟩ : ∃ u, u = w7.alloc (.cells #[.int .i64 y.t, .int .i64 y.len, .int .i64 y.flow, .int .i64 y.band, .int .i64 y.mark, .int .i64 y.n] 108) := ⟨_, rfl⟩
            obtain ⟨yb, hyb⟩ : ∃ u, u = w7.heap.size := ⟨_, rfl⟩
            have HY8 : Hid (HelAt w8 yb 0 y) := Lib.hid (by rw [hw8]; exact held_new w7 y hyb)
            have HG8 : Hid (Gr w7 w8) := Lib.hid (by rw [hw8]; exact (Gr.refl _).alloc _)
            have HM8 := Lib.hid (HM7.out.res_add HG8.out (show w7.heap.size ≤ yb by omega) (cell_lt HY8.out.c0))
            rw [← hw8, ← hyb]
            clear hw8 hyb HM7
            obtain ⟨y0, y1, y2, y3, y4, y5⟩ := HY8.out
            simp only [Nat.zero_add] at y1 y2 y3 y4 y5
            go_upto_region 17 with (go_at_call 129; refine (HOUT.out _ _ _ _ HM8.out.at_).mono ?_; rintro e w9 ⟨rfl, lv9, tv9, hm9⟩; have HM9 := Lib.hid (HM8.out.then hm9); have HY9 := Lib.hid (HY8.out.sav hm9.sav (HM8.out.nin (r := yb) (by simp))); clear hm9)
            clear y0 y1 y2 y3 y4 y5
            by_cases hf0 : f = []
            · have HTT : Hid (T2 = T.filter (fun i => decide (i ≠ (lg : Int)))) := Lib.hid (by rw [HT2.out, if_pos hf0])
              subst hf0
              obtain ⟨ua, uc, htv⟩ := HM9.out.at_.turn.shape
              subst htv
              have c4 := HM9.out.at_.c4
              go_upto_region 20 with fail
              clear c4
              go_loopw [12, 93] (fun s12 s93 wr => ∃ (jj : Nat), jj ≤ T.length ∧ s93 = .int .i64 (jj : Int) ∧ Hid (Gr w9 wr ∧ IntRow wr s12 ((T.take jj).filter (fun i => decide (i ≠ (lg : Int)))) ∧ ∀ g, s12.ownBlock = some g → w9.heap.size ≤ g)) (fun _ s _ => T.length - (intOf s).toNat)
              case atStart => exact ⟨0, Nat.zero_le _, rfl, Lib.hid ⟨Gr.refl _, IntRow.nil _, fun g hg => by cases hg⟩⟩
              case round =>
                obtain ⟨jj, hi, rfl, HK⟩ := hrel
                by_cases hlt : jj < T.length
                · have j0 : (0 : Int) ≤ (jj : Int) := by omega
                  have j1 : (jj : Int) < (T.length : Int) := by omega
                  obtain ⟨tg, toff, tcap, htv, _, _, hce⟩ := Row.cells HM9.out.at_.turn (by omega)
                  injection htv with e1 e2 e3
                  subst e1 e3
                  have ce := HK.out.1.cell (hce jj (.int .i64 (T.getD jj 0)) (by simp [hlt]))
                  have HTK := Lib.hid (show (T.take (jj + 1)).filter (fun i => decide (i ≠ (lg : Int))) = (T.take jj).filter (fun i => decide (i ≠ (lg : Int))) ++ (if T.getD jj 0 ≠ (lg : Int) then [T.getD jj 0] else []) from by
                    rw [List.take_add_one, List.getElem?_eq_getElem hlt, List.filter_append, List.getD_eq_getElem?_getD, List.getElem?_eq_getElem hlt]
                    by_cases e : T[jj] = (lg : Int) <;> simp [e])
                  have HWI := Lib.hid (show wrap64 ((jj : Int) + 1) = (jj : Int) + 1 from by have := HTN.out; unfold wrap64; omega)
                  have HLE := Lib.hid (show ((T.take jj).filter (fun i => decide (i ≠ (lg : Int)))).length ≤ 1000 from Nat.le_trans (List.length_filter_le _ _) (by have := HTN.out; rw [List.length_take]; omega))
                  generalize T.getD jj 0 = z at *
                  clear hce e2
                  obtain ⟨oa, oc, hov⟩ := HK.out.2.1.shape
                  generalize (T.take jj).filter (fun i => decide (i ≠ (lg : Int))) = TF at *
                  subst hov
                  have HOW := Lib.hid HK.out.2.2
                  by_cases hk : z = (lg : Int)
                  · rw [if_neg (by simpa using hk), List.append_nil] at HTK
                    go_wp2
                    rw [HWI.out]
                    go_roundw
                    case measure => simp [intOf]; omega
                    case rel => exact ⟨jj + 1, by omega, by go_num, Lib.hid ⟨HK.out.1, by rw [HTK.out]; exact HK.out.2.1, HOW.out⟩⟩
                  · rw [if_pos hk] at HTK
                    go_wp2_with (at_builtin; refine wpList_append_intR rfl _ _ _ (by rfl) (by kernel_rfl) _ TF z (by rfl) (HK.out.2.1.gr ((Gr.refl wr).alloc (.cells #[.int .i64 z] 3))) ⟨wr.heap.size, 0, none⟩ 1 (by rfl) (by simp) (by have := HLE.out; omega) ?_; intro v6 w6 hrow hgr hown; have HG6 := Lib.hid (show Gr w9 w6 from (HK.out.1.trans ((Gr.refl wr).alloc (.cells #[.int .i64 z] 3))).grown hgr (fun g hg => HOW.out g hg)); have HR6 := Lib.hid hrow; have HO6 := Lib.hid (show ∀ g, v6.ownBlock = some g → w9.heap.size ≤ g from fun g hg => (hown g hg).elim (HOW.out g) (fun e => Nat.le_trans (HK.out.1.trans ((Gr.refl wr).alloc (.cells #[.int .i64 z] 3))).size e)); clear hrow hgr hown)
                    rw [HWI.out]
                    go_roundw
                    case measure => simp [intOf]; omega
                    case rel => exact ⟨jj + 1, by omega, by go_num, Lib.hid ⟨HG6.out, by rw [HTK.out]; exact HR6.out, HO6.out⟩⟩
                · obtain rfl : jj = T.length := by omega
                  have j1 : ¬ (T.length : Int) < (T.length : Int) := by omega
                  have hk9 := HK.out
                  rw [List.take_length] at hk9
                  generalize T.filter (fun i => decide (i ≠ (lg : Int))) = TD at *
                  have HK9 := Lib.hid hk9
                  have HMG := Lib.hid (HM9.out.gr hk9.1)
                  have c4 := HMG.out.at_.c4
                  have f4 := HMG.out.at_.f4
                  obtain ⟨oa, oc, hov⟩ := hk9.2.1.shape
                  subst hov
                  have HM10 := Lib.hid (HM9.out.set_t (Sav.of_gr HK9.out.1) HK9.out.2.1 (fun g e => .inr (HK9.out.2.2 g e)))
                  have HY10 := Lib.hid ((HY9.out.gr HK9.out.1).sav (.set p 4 (.slice oa TD.length oc)) (fun e => HM9.out.nin (r := yb) (by simp) (.inl e)))
                  clear hk9
                  go_upto_region 26 with fail
                  generalize wr.setCell ⟨p, 4, none⟩ (.slice oa TD.length oc) = w10 at *
                  clear c4 f4
                  obtain ⟨y0, y1, y2, y3, y4, y5⟩ := HY10.out
                  simp only [Nat.zero_add] at y1 y2 y3 y4 y5
                  obtain ⟨w15, hw15⟩ : ∃ u, u = w10.alloc (.cells #[.int .i64 y.t, .int .i64 y.len, .int .i64 y.flow, .int .i64 y.band, .int .i64 y.mark, .int .i64 y.n] 108) := ⟨_, rfl⟩
                  have HR15 := Lib.hid (show RowH 108 w15 (.slice (some ⟨w10.heap.size, 0, none⟩) 1 1) [y] from by rw [hw15]; exact RowH.one _ w10 y rfl)
                  have HM15 := Lib.hid (HM10.out.gr (show Gr w10 w15 from by rw [hw15]; exact (Gr.refl _).alloc _))
                  go_wp2
                  rw [← hw15]
                  clear hw15
                  refine bodyPost_ret (v := .slice (some ⟨w10.heap.size, 0, none⟩) 1 1) (by simp [results, Tryd.results125, go_sem]) rfl ?_
                  rw [HTT.out]
                  exact ⟨_, rfl, HR15.out, _, _, HM15.out.did⟩
            · have i9 : ¬ (f.length : Int) = 0 := by have := List.length_pos_iff.2 hf0; omega
              have HTT : Hid (T2 = T) := Lib.hid (by rw [HT2.out, if_neg hf0])
              go_upto_region 26 with fail
              obtain ⟨y0, y1, y2, y3, y4, y5⟩ := HY9.out
              simp only [Nat.zero_add] at y1 y2 y3 y4 y5
              obtain ⟨w15, hw15⟩ : ∃ u, u = w9.alloc (.cells #[.int .i64 y.t, .int .i64 y.len, .int .i64 y.flow, .int .i64 y.band, .int .i64 y.mark, .int .i64 y.n] 108) := ⟨_, rfl⟩
              have HR15 := Lib.hid (show RowH 108 w15 (.slice (some ⟨w9.heap.size, 0, none⟩) 1 1) [y] from by rw [hw15]; exact RowH.one _ w9 y rfl)
              have HM15 := Lib.hid (HM9.out.gr (show Gr w9 w15 from by rw [hw15]; exact (Gr.refl _).alloc _))
              go_wp2
              rw [← hw15]
              clear hw15
              refine bodyPost_ret (v := .slice (some ⟨w9.heap.size, 0, none⟩) 1 1) (by simp [results, Tryd.results125, go_sem]) rfl ?_
              rw [HTT.out]
              exact ⟨_, rfl, HR15.out, _, _, HM15.out.did⟩
  · have HT1 : Hid (putT (fun k => ofK q l k) turn k = turn) := Lib.hid (by unfold putT; rw [if_neg hk0])
    have i2 : ¬ ((ofK q l k).length : Int) = 0 := by have := List.length_pos_iff.2 hk0; omega
    clear hk0
    go_upto_region 4 with (go_at_call 128; refine (HOF.out _ _ _ _ HM1.out.at_).mono ?_; rintro e w2 ⟨rr, rfl, hrow, hg2, _⟩; obtain ⟨ra, rc, rfl⟩ := hrow.shape; have HM2 := Lib.hid (HM1.out.gr hg2); have HX2 := Lib.hid (HX1.out.gr hg2); clear hrow hg2)
    obtain ⟨tv4, HM4⟩ : ∃ tv4, Hid (RHM w w2 p q lv (.slice ta turn.length tc) [bx] lv tv4 l (putT (fun k => ofK q l k) turn k)) := ⟨_, Lib.hid (by rw [HT1.out]; exact HM2.out)⟩
    have HX4 := HX2
    obtain ⟨w4, hw4⟩ : ∃ u, u = w2 := ⟨_, rfl⟩
    rw [← hw4] at HM4 HX4 ⊢
    clear hw4 i2 HM2 HX2 HM1 HX1
    obtain ⟨ba, cap, hlv⟩ := HM4.out.at_.row.shape
    subst hlv
    have HC3 := Lib.hid HM4.out.at_.c3
    have HF3 := Lib.hid HM4.out.at_.f3
    have HROW0 := Lib.hid HM4.out.at_.row
    have HNL := Lib.hid HOK.out.few
    have HNE : Hid (¬ (Value.slice ba l.length cap).ownBlock = some p ∧ ¬ (Value.slice ba l.length cap).ownBlock = some bx) := Lib.hid ⟨fun e => (HM4.out.at_.ap p e).1 rfl, fun e => HM4.out.nin (r := bx) (by simp) (.inr (.inl e))⟩
    have HLT := Lib.hid (fun g (hg : (Value.slice ba l.length cap).ownBlock = some g) => (show g < w4.heap.size from HROW0.out.lt hg))
    refine wp_region_k (n := 10) (fun u => Sav (fun q => (Value.slice ba l.length cap).ownBlock = some q) w4 u ∧ RowH 108 u (.slice ba l.length cap) l) [Fg.eq (.pointer (some ⟨p, 0, none⟩)), Fg.eq (.pointer (some ⟨p, 0, none⟩)), Fg.eq (.pointer (some ⟨p, 0, none⟩)), Fg.eq (.pointer (some ⟨p, 3, none⟩)), Fg.eq (.slice ba l.length cap), Fg.eq (x.val), Fg.hel w4.heap.size x, Fg.rowp w4 (.slice ba l.length cap) (l ++ [x]), Fg.eq (.pointer (some ⟨p, 0, none⟩)), Fg.eq (.pointer (some ⟨p, 3, none⟩))] [35, 36, 37, 38, 39, 40, 41, 42, 43, 44] (⟨.of_gr (Gr.refl w4).drew, HROW0.out.gr (Gr.refl w4).drew⟩) (by kernel_rfl) (by kernel_rfl) (by kernel_rfl) ?_ ?_
    · intro L i o a w1 hi ho hA
      have hI := hA.gr
      match i, hi with
      | 0, _ =>
        obtain rfl := Option.some.inj ho
        exact kstep_val hA (q_move rfl (show a.eval (.tmp 0) = .pointer (some ⟨p, 0, none⟩) from hA.other 0 (by decide))) rfl
      | 1, _ =>
        obtain rfl := Option.some.inj ho
        exact kstep_val hA (q_move rfl (show a.eval (.tmp 0) = .pointer (some ⟨p, 0, none⟩) from hA.other 0 (by decide))) rfl
      | 2, _ =>
        obtain rfl := Option.some.inj ho
        exact kstep_val hA (q_nil rfl (hA.fact 1 (hA.dep 1 (by kernel_rfl) (by decide)))) rfl
      | 3, _ =>
        obtain rfl := Option.some.inj ho
        exact kstep_val hA (r_fa_millraceref_Hashed_3 rfl (hA.fact 2 (hA.dep 2 (by kernel_rfl) (by decide)))) rfl
      | 4, _ =>
        obtain rfl := Option.some.inj ho
        exact kstep_val hA (q_loadSP rfl (hA.fact 3 (hA.dep 3 (by kernel_rfl) (by decide))) (hI.1.cell HC3.out HNE.out.1)) rfl
      | 5, _ =>
        obtain rfl := Option.some.inj ho
        exact kstep_val hA (q_loadP rfl (show a.eval (.tmp 5) = .pointer (some ⟨bx, 0, none⟩) from hA.other 5 (by decide)) (HX4.out.sav hI.1 HNE.out.2)) rfl
      | 6, _ =>
        obtain rfl := Option.some.inj ho
        exact kstep_gr hA (q_buildP rfl (hA.fact 5 (hA.dep 5 (by kernel_rfl) (by decide)))) ((Gr.refl _).alloc _) ⟨hI.1.then (.of_gr ((Gr.refl _).alloc _)), hI.2.gr ((Gr.refl _).alloc _)⟩ ⟨_, rfl, hI.1.size, held_new _ _ rfl⟩
      | 7, _ =>
        obtain rfl := Option.some.inj ho
        obtain ⟨g, hv, hg, hh⟩ := (hA.fact 6 (hA.dep 6 (by kernel_rfl) (by decide)))
        obtain ⟨i0, hi0, hz0, hz1, hz2⟩ := info_parts packInfo
        obtain ⟨v', w', hr, hrow, hgrow, hown, hold⟩ := RowH.app (P := Tryd.prog) (ys := [x]) 38 38 i0 Hel.zero.val Tryd.underlying38 hi0 hz0 hz1 hz2 rfl (by intro u hu; exact (cells_int Hel.zero u (by simpa [Hel.val, Value.cells, Hel.cells] using hu)).2) hI.2 ⟨g, 0, none⟩ 1 (by simp) (by rw [flat_one]; exact hh.news) (by have := HNL.out; simp; omega)
        refine kstep_keep hA (q_append rfl (hA.fact 4 (hA.dep 4 (by kernel_rfl) (by decide))) hv hr) ⟨hI.1.then (.of_grown hgrow fun _ h => h), hold⟩ ⟨hrow, fun g hg => (hown g hg).imp id (Nat.le_trans hI.1.size)⟩ ?_
        intro j hj u hu
        match j, hj, hu with
        | 0, _, hu => exact hu
        | 1, _, hu => exact hu
        | 2, _, hu => exact hu
        | 3, _, hu => exact hu
        | 4, _, hu => exact hu
        | 5, _, hu => exact hu
        | 8, _, hu => exact hu
        | 9, _, hu => exact hu
        | 6, _, hu => obtain ⟨g', h1, h2, h3⟩ := hu; exact ⟨g', h1, h2, h3.sav (B := fun q => (Value.slice ba l.length cap).ownBlock = some q) (.of_grown hgrow fun _ h => h) (fun e => by have := HLT.out g' e; omega)⟩
        | 7, hj, _ => exact absurd rfl hj
        | j + 10, _, _ => trivial
      | 8, _ =>
        obtain rfl := Option.some.inj ho
        exact kstep_val hA (q_nil rfl (hA.fact 0 (hA.dep 0 (by kernel_rfl) (by decide)))) rfl
      | 9, _ =>
        obtain rfl := Option.some.inj ho
        exact kstep_val hA (r_fa_millraceref_Hashed_3 rfl (hA.fact 8 (hA.dep 8 (by kernel_rfl) (by decide)))) rfl
    · intro vz w2 hI hv
      obtain ⟨hrow, hown⟩ := hv 7 (by omega)
      have v9 : vz 9 = .pointer (some ⟨p, 3, none⟩) := hv 9 (by omega)
      have hrow' : RowH 108 w2 (vz 7) (l ++ [x]) := hrow
      have hown' : ∀ g, (vz 7).ownBlock = some g → (Value.slice ba l.length cap).ownBlock = some g ∨ w4.heap.size ≤ g := hown
      have d0 := hI.1.cell HC3.out HNE.out.1
      have d1 := hI.1.frozen (p := ⟨p, 3, none⟩) (cell_lt HC3.out) HF3.out HNE.out.1
      have HM5 := Lib.hid (HM4.out.set_l hI.1 hrow' hown')
      have HX5 := Lib.hid ((HX4.out.sav hI.1 HNE.out.2).sav (.set p 3 (vz 7)) (fun e => HM4.out.nin (r := bx) (by simp) (.inl e)))
      clear hv hrow hown hI hown'
      simp only [putN, List.drop_succ_cons, List.drop_zero, List.getElem?_cons_succ, List.getElem?_cons_zero]
      generalize vz 7 = u7 at *
      generalize vz 9 = u9 at *
      subst v9
      obtain ⟨a', cap', rfl⟩ := hrow'.shape
      clear hrow'
      rw [List.length_append, show [x].length = 1 from rfl] at *
      go_upto_region 5 with fail
      generalize w2.setCell ⟨p, 3, none⟩ (.slice a' (l.length + 1) cap') = wz at *
      clear d0 d1 HC3 HF3 HROW0 HNE HLT HM4 HX4
      have C5 := Lib.hid (And.intro HM5.out.at_.c3 HM5.out.at_.c2)
      refine wp_region_gg (n := 9) [Fg.eq (.pointer (some ⟨p, 0, none⟩)), Fg.eq (.pointer (some ⟨p, 0, none⟩)), Fg.eq (.pointer (some ⟨p, 3, none⟩)), Fg.eq (.slice (a') (l.length + 1) cap'), Fg.eq (.int .i64 (((l.length + 1 : Nat) : Int) : Int)), Fg.eq (.pointer (some ⟨p, 0, none⟩)), Fg.eq (.pointer (some ⟨p, 0, none⟩)), Fg.eq (.pointer (some ⟨p, 2, none⟩)), Fg.eq (.int .i64 q.room)] [45, 46, 47, 48, 49, 50, 51, 52, 53] (by kernel_rfl) (by kernel_rfl) (by kernel_rfl) ?_ ?_
      · intro L i o' ac w1 hi ho hA
        have hgr : Gr wz w1 := (Gr.refl wz).drew.trans hA.gr
        match i, hi with
        | 0, _ =>
          obtain rfl := Option.some.inj ho
          exact gg_plain rfl (gstep_val (q_move rfl (show ac.eval (.tmp 0) = .pointer (some ⟨p, 0, none⟩) from hA.other 0 (by decide))) rfl)
        | 1, _ =>
          obtain rfl := Option.some.inj ho
          exact gg_plain rfl (gstep_val (q_nil rfl (hA.fact 0 (hA.dep 0 (by kernel_rfl) (by decide)))) rfl)
        | 2, _ =>
          obtain rfl := Option.some.inj ho
          exact gg_plain rfl (gstep_val (rhp_fa_millraceref_Hashed_3 rfl (hA.fact 1 (hA.dep 1 (by kernel_rfl) (by decide)))) rfl)
        | 3, _ =>
          obtain rfl := Option.some.inj ho
          exact gg_plain rfl (gstep_val (rhp_loadS___millraceref_Pack rfl (hA.fact 2 (hA.dep 2 (by kernel_rfl) (by decide))) (hgr.cell C5.out.1)) rfl)
        | 4, _ =>
          obtain rfl := Option.some.inj ho
          exact gg_plain rfl (gstep_val (rhp_len___millraceref_Pack rfl (hA.fact 3 (hA.dep 3 (by kernel_rfl) (by decide)))) rfl)
        | 5, _ =>
          obtain rfl := Option.some.inj ho
          exact gg_plain rfl (gstep_val (q_move rfl (show ac.eval (.tmp 0) = .pointer (some ⟨p, 0, none⟩) from hA.other 0 (by decide))) rfl)
        | 6, _ =>
          obtain rfl := Option.some.inj ho
          exact gg_plain rfl (gstep_val (q_nil rfl (hA.fact 5 (hA.dep 5 (by kernel_rfl) (by decide)))) rfl)
        | 7, _ =>
          obtain rfl := Option.some.inj ho
          exact gg_plain rfl (gstep_val (rhp_fa_millraceref_Hashed_2 rfl (hA.fact 6 (hA.dep 6 (by kernel_rfl) (by decide)))) rfl)
        | 8, _ =>
          obtain rfl := Option.some.inj ho
          exact gg_plain rfl (gstep_val (q_loadI rfl (hA.fact 7 (hA.dep 7 (by kernel_rfl) (by decide))) (hgr.cell C5.out.2)) rfl)
        | k + 9, hk => exact absurd (show k + 9 < 9 from hk) (by omega)
      · intro vz w5 hg5 hv
        have HGY := Lib.hid ((Gr.refl wz).drew.trans hg5)
        have v49 : vz 4 = .int .i64 (((l.length + 1 : Nat) : Int) : Int) := hv 4 (by omega)
        have v53 : vz 8 = .int .i64 q.room := hv 8 (by omega)
        clear hv hg5
        simp only [putN, List.drop_succ_cons, List.drop_zero, List.getElem?_cons_succ, List.getElem?_cons_zero]
        generalize vz 4 = z49 at *
        subst v49
        generalize vz 8 = z53 at *
        subst v53
        generalize vz 0 = z45 at *
        generalize vz 1 = z46 at *
        generalize vz 2 = z47 at *
        generalize vz 3 = z48 at *
        generalize vz 5 = z50 at *
        generalize vz 6 = z51 at *
        generalize vz 7 = z52 at *
        have hroom := of_decide_eq_false CB.out
        go_upto_region 8 with fail
        clear hroom
        have HM6 := Lib.hid (HM5.out.gr HGY.out)
        have HX6 := Lib.hid (HX5.out.gr HGY.out)
        generalize putT (fun k => ofK q l k) turn k = T at *
        have c0 := HM6.out.at_.c0
        go_wp2
        clear c0
        go_loopw [8, 59] (fun s8 s59 wr => ∃ (ii : Nat), ii ≤ q.lists ∧ s59 = .int .i64 (ii : Int) ∧ s8 = .int .i64 (longest q (l ++ [x]) ii : Int) ∧ Hid (RHM w wr p q (.slice ba l.length cap) (.slice ta turn.length tc) [bx] (.slice a' (l.length + 1) cap') tv4 (l ++ [x]) T)) (fun _ s _ => q.lists - (intOf s).toNat)
        case atStart => exact ⟨0, Nat.zero_le _, rfl, rfl, HM6⟩
        case round =>
          clear HM6 HX6 HM5 HX5
          obtain ⟨ii, hi, rfl, rfl, HMR⟩ := hrel
          by_cases hlt : ii < q.lists
          · have j0 : (0 : Int) ≤ (ii : Int) := by omega
            have j1 : (ii : Int) < (q.lists : Int) := by omega
            have HWI := Lib.hid (show wrap64 ((ii : Int) + 1) = (ii : Int) + 1 from by have := HQL.out; unfold wrap64; omega)
            have HLS := Lib.hid (show longest q (l ++ [x]) (ii + 1) = if (ofK q (l ++ [x]) (longest q (l ++ [x]) ii)).length < (ofK q (l ++ [x]) ii).length then ii else longest q (l ++ [x]) ii from rfl)
            generalize longest q (l ++ [x]) ii = mm at *
            by_cases c : (ofK q (l ++ [x]) mm).length < (ofK q (l ++ [x]) ii).length
            · have c1 : ((ofK q (l ++ [x]) mm).length : Int) < ((ofK q (l ++ [x]) ii).length : Int) := by omega
              rw [if_pos c] at HLS
              clear c
              go_wp2_with (first
                | (go_at_call 128; have _ := tok2; refine (HOFL.out mm _ _ _ _ HM7.out.at_).mono ?_; rintro e w8 ⟨rr8, rfl, hrow8, hg8, _⟩; obtain ⟨ra8, rc8, rfl⟩ := hrow8.shape; have HM8 := Lib.hid (HM7.out.gr hg8); clear hrow8 hg8)
                | (go_at_call 128; refine (HOFL.out ii _ _ _ _ HMR.out.at_).mono ?_; rintro e w7 ⟨rr7, rfl, hrow7, hg7, _⟩; obtain ⟨ra7, rc7, rfl⟩ := hrow7.shape; have HM7 := Lib.hid (HMR.out.gr hg7); clear hrow7 hg7; have tok2 := trivial))
              rw [HWI.out]
              go_roundw
              case measure => simp [intOf]; omega
              case rel => exact ⟨ii + 1, by omega, by go_num, by rw [HLS.out], HM8⟩
            · have c1 : ¬ ((ofK q (l ++ [x]) mm).length : Int) < ((ofK q (l ++ [x]) ii).length : Int) := by omega
              rw [if_neg c] at HLS
              clear c
              go_wp2_with (first
                | (go_at_call 128; have _ := tok2; refine (HOFL.out mm _ _ _ _ HM7.out.at_).mono ?_; rintro e w8 ⟨rr8, rfl, hrow8, hg8, _⟩; obtain ⟨ra8, rc8, rfl⟩ := hrow8.shape; have HM8 := Lib.hid (HM7.out.gr hg8); clear hrow8 hg8)
                | (go_at_call 128; refine (HOFL.out ii _ _ _ _ HMR.out.at_).mono ?_; rintro e w7 ⟨rr7, rfl, hrow7, hg7, _⟩; obtain ⟨ra7, rc7, rfl⟩ := hrow7.shape; have HM7 := Lib.hid (HMR.out.gr hg7); clear hrow7 hg7; have tok2 := trivial))
              rw [HWI.out]
              go_roundw
              case measure => simp [intOf]; omega
              case rel => exact ⟨ii + 1, by omega, by go_num, by rw [HLS.out], HM8⟩
          · obtain rfl : ii = q.lists := by omega
            have j1 : ¬ (q.lists : Int) < (q.lists : Int) := by omega
            clear hi hlt
            rw [HLG.out]
            have k0 : (0 : Int) ≤ (f.length : Int) := by omega
            have hfl : f.length ≤ 300 := by
              have h1 := ofK_le q (l ++ [x]) lg
              have h2 := HNX.out
              rw [HY.out] at h1
              simp only [List.length_append, List.length_cons, List.length_nil] at h1 h2
              omega
            have k2 : wrap64 (f.length : Int) = (f.length : Int) := by unfold wrap64; omega
            have HFL := Lib.hid hfl
            clear hfl
            go_upto_region 15 with (go_at_call 128; go_loud (refine (HOFL.out lg _ _ _ _ HMR.out.at_).mono ?_; rintro e w7 ⟨rr, rfl, hrow, hg7, _⟩; rw [HY.out] at hrow; obtain ⟨ra, rc, rfl, hcp, hcm, hce⟩ := hrow.any; obtain ⟨b7, o7, rfl, hcell⟩ := hce.out (by simp); have hel := hcell f.length (by simp); rw [show (f ++ [y]).getD f.length .zero = y from by simp [List.getD_eq_getElem?_getD]] at hel; have HM7 := Lib.hid (HMR.out.gr hg7); have HEL7 := Lib.hid hel; have HCP := Lib.hid (And.intro hcp hcm); clear hce hcell hrow hg7 hel hcp hcm; rw [List.length_append, show [y].length = 1 from rfl] at HCP ⊢))
            have i1 : ((f.length + 1 : Nat) : Int) ≤ (rc : Int) := by have := HCP.out.1; omega
            obtain ⟨y0, y1, y2, y3, y4, y5⟩ := HEL7.out
            go_upto_region 16 with fail
            clear y0 y1 y2 y3 y4 y5 k2 i1
            obtain ⟨w8, hw8⟩ : ∃ u, u = w7.alloc (.cells #[.int .i64 y.t, .int .i64 y.len, .int .i64 y.flow, .int .i64 y.band, .int .i64 y.mark, .int .i64 y.n] 108) := ⟨_, rfl⟩
            obtain ⟨yb, hyb⟩ : ∃ u, u = w7.heap.size := ⟨_, rfl⟩
            have HY8 : Hid (HelAt w8 yb 0 y) := Lib.hid (by rw [hw8]; exact held_new w7 y hyb)
            have HG8 : Hid (Gr w7 w8) := Lib.hid (by rw [hw8]; exact (Gr.refl _).alloc _)
            have HM8 := Lib.hid (HM7.out.res_add HG8.out (show w7.heap.size ≤ yb by omega) (cell_lt HY8.out.c0))
            rw [← hw8, ← hyb]
            clear hw8 hyb HM7
            obtain ⟨y0, y1, y2, y3, y4, y5⟩ := HY8.out
            simp only [Nat.zero_add] at y1 y2 y3 y4 y5
            go_upto_region 17 with (go_at_call 129; refine (HOUT.out _ _ _ _ HM8.out.at_).mono ?_; rintro e w9 ⟨rfl, lv9, tv9, hm9⟩; have HM9 := Lib.hid (HM8.out.then hm9); have HY9 := Lib.hid (HY8.out.sav hm9.sav (HM8.out.nin (r := yb) (by simp))); clear hm9)
            clear y0 y1 y2 y3 y4 y5
            by_cases hf0 : f = []
            · have HTT : Hid (T2 = T.filter (fun i => decide (i ≠ (lg : Int)))) := Lib.hid (by rw [HT2.out, if_pos hf0])
              subst hf0
              obtain ⟨ua, uc, htv⟩ := HM9.out.at_.turn.shape
              subst htv
              have c4 := HM9.out.at_.c4
              go_upto_region 20 with fail
              clear c4
              go_loopw [12, 93] (fun s12 s93 wr => ∃ (jj : Nat), jj ≤ T.length ∧ s93 = .int .i64 (jj : Int) ∧ Hid (Gr w9 wr ∧ IntRow wr s12 ((T.take jj).filter (fun i => decide (i ≠ (lg : Int)))) ∧ ∀ g, s12.ownBlock = some g → w9.heap.size ≤ g)) (fun _ s _ => T.length - (intOf s).toNat)
              case atStart => exact ⟨0, Nat.zero_le _, rfl, Lib.hid ⟨Gr.refl _, IntRow.nil _, fun g hg => by cases hg⟩⟩
              case round =>
                obtain ⟨jj, hi, rfl, HK⟩ := hrel
                by_cases hlt : jj < T.length
                · have j0 : (0 : Int) ≤ (jj : Int) := by omega
                  have j1 : (jj : Int) < (T.length : Int) := by omega
                  obtain ⟨tg, toff, tcap, htv, _, _, hce⟩ := Row.cells HM9.out.at_.turn (by omega)
                  injection htv with e1 e2 e3
                  subst e1 e3
                  have ce := HK.out.1.cell (hce jj (.int .i64 (T.getD jj 0)) (by simp [hlt]))
                  have HTK := Lib.hid (show (T.take (jj + 1)).filter (fun i => decide (i ≠ (lg : Int))) = (T.take jj).filter (fun i => decide (i ≠ (lg : Int))) ++ (if T.getD jj 0 ≠ (lg : Int) then [T.getD jj 0] else []) from by
                    rw [List.take_add_one, List.getElem?_eq_getElem hlt, List.filter_append, List.getD_eq_getElem?_getD, List.getElem?_eq_getElem hlt]
                    by_cases e : T[jj] = (lg : Int) <;> simp [e])
                  have HWI := Lib.hid (show wrap64 ((jj : Int) + 1) = (jj : Int) + 1 from by have := HTN.out; unfold wrap64; omega)
                  have HLE := Lib.hid (show ((T.take jj).filter (fun i => decide (i ≠ (lg : Int)))).length ≤ 1000 from Nat.le_trans (List.length_filter_le _ _) (by have := HTN.out; rw [List.length_take]; omega))
                  generalize T.getD jj 0 = z at *
                  clear hce e2
                  obtain ⟨oa, oc, hov⟩ := HK.out.2.1.shape
                  generalize (T.take jj).filter (fun i => decide (i ≠ (lg : Int))) = TF at *
                  subst hov
                  have HOW := Lib.hid HK.out.2.2
                  by_cases hk : z = (lg : Int)
                  · rw [if_neg (by simpa using hk), List.append_nil] at HTK
                    go_wp2
                    rw [HWI.out]
                    go_roundw
                    case measure => simp [intOf]; omega
                    case rel => exact ⟨jj + 1, by omega, by go_num, Lib.hid ⟨HK.out.1, by rw [HTK.out]; exact HK.out.2.1, HOW.out⟩⟩
                  · rw [if_pos hk] at HTK
                    go_wp2_with (at_builtin; refine wpList_append_intR rfl _ _ _ (by rfl) (by kernel_rfl) _ TF z (by rfl) (HK.out.2.1.gr ((Gr.refl wr).alloc (.cells #[.int .i64 z] 3))) ⟨wr.heap.size, 0, none⟩ 1 (by rfl) (by simp) (by have := HLE.out; omega) ?_; intro v6 w6 hrow hgr hown; have HG6 := Lib.hid (show Gr w9 w6 from (HK.out.1.trans ((Gr.refl wr).alloc (.cells #[.int .i64 z] 3))).grown hgr (fun g hg => HOW.out g hg)); have HR6 := Lib.hid hrow; have HO6 := Lib.hid (show ∀ g, v6.ownBlock = some g → w9.heap.size ≤ g from fun g hg => (hown g hg).elim (HOW.out g) (fun e => Nat.le_trans (HK.out.1.trans ((Gr.refl wr).alloc (.cells #[.int .i64 z] 3))).size e)); clear hrow hgr hown)
                    rw [HWI.out]
                    go_roundw
                    case measure => simp [intOf]; omega
                    case rel => exact ⟨jj + 1, by omega, by go_num, Lib.hid ⟨HG6.out, by rw [HTK.out]; exact HR6.out, HO6.out⟩⟩
                · obtain rfl : jj = T.length := by omega
                  have j1 : ¬ (T.length : Int) < (T.length : Int) := by omega
                  have hk9 := HK.out
                  rw [List.take_length] at hk9
                  generalize T.filter (fun i => decide (i ≠ (lg : Int))) = TD at *
                  have HK9 := Lib.hid hk9
                  have HMG := Lib.hid (HM9.out.gr hk9.1)
                  have c4 := HMG.out.at_.c4
                  have f4 := HMG.out.at_.f4
                  obtain ⟨oa, oc, hov⟩ := hk9.2.1.shape
                  subst hov
                  have HM10 := Lib.hid (HM9.out.set_t (Sav.of_gr HK9.out.1) HK9.out.2.1 (fun g e => .inr (HK9.out.2.2 g e)))
                  have HY10 := Lib.hid ((HY9.out.gr HK9.out.1).sav (.set p 4 (.slice oa TD.length oc)) (fun e => HM9.out.nin (r := yb) (by simp) (.inl e)))
                  clear hk9
                  go_upto_region 26 with fail
                  generalize wr.setCell ⟨p, 4, none⟩ (.slice oa TD.length oc) = w10 at *
                  clear c4 f4
                  obtain ⟨y0, y1, y2, y3, y4, y5⟩ := HY10.out
                  simp only [Nat.zero_add] at y1 y2 y3 y4 y5
                  obtain ⟨w15, hw15⟩ : ∃ u, u = w10.alloc (.cells #[.int .i64 y.t, .int .i64 y.len, .int .i64 y.flow, .int .i64 y.band, .int .i64 y.mark, .int .i64 y.n] 108) := ⟨_, rfl⟩
                  have HR15 := Lib.hid (show RowH 108 w15 (.slice (some ⟨w10.heap.size, 0, none⟩) 1 1) [y] from by rw [hw15]; exact RowH.one _ w10 y rfl)
                  have HM15 := Lib.hid (HM10.out.gr (show Gr w10 w15 from by rw [hw15]; exact (Gr.refl _).alloc _))
                  go_wp2
                  rw [← hw15]
                  clear hw15
                  refine bodyPost_ret (v := .slice (some ⟨w10.heap.size, 0, none⟩) 1 1) (by simp [results, Tryd.results125, go_sem]) rfl ?_
                  rw [HTT.out]
                  exact ⟨_, rfl, HR15.out, _, _, HM15.out.did⟩
            · have i9 : ¬ (f.length : Int) = 0 := by have := List.length_pos_iff.2 hf0; omega
              have HTT : Hid (T2 = T) := Lib.hid (by rw [HT2.out, if_neg hf0])
              go_upto_region 26 with fail
              obtain ⟨y0, y1, y2, y3, y4, y5⟩ := HY9.out
              simp only [Nat.zero_add] at y1 y2 y3 y4 y5
              obtain ⟨w15, hw15⟩ : ∃ u, u = w9.alloc (.cells #[.int .i64 y.t, .int .i64 y.len, .int .i64 y.flow, .int .i64 y.band, .int .i64 y.mark, .int .i64 y.n] 108) := ⟨_, rfl⟩
              have HR15 := Lib.hid (show RowH 108 w15 (.slice (some ⟨w9.heap.size, 0, none⟩) 1 1) [y] from by rw [hw15]; exact RowH.one _ w9 y rfl)
              have HM15 := Lib.hid (HM9.out.gr (show Gr w9 w15 from by rw [hw15]; exact (Gr.refl _).alloc _))
              go_wp2
              rw [← hw15]
              clear hw15
              refine bodyPost_ret (v := .slice (some ⟨w9.heap.size, 0, none⟩) 1 1) (by simp [results, Tryd.results125, go_sem]) rfl ?_
              rw [HTT.out]
              exact ⟨_, rfl, HR15.out, _, _, HM15.out.did⟩
end Go.Proofs.YtbpofdfehcbppaaDoor

/-
  millracelaw.QueueBands, walked: the law.
-/
import Derived.Test.YtbpofdfehcbppaaDoorBandE
namespace Go.Proofs.YtbpofdfehcbppaaDoor
open Go.RowKit Go.Extern.Stop Go.Stop Go.Extern

def tick9 (z : Int) : Int := z % 18446744073709551616 % 9
theorem tick9_in (z : Int) : 0 ≤ tick9 z ∧ tick9 z ≤ 8 := by unfold tick9; omega
theorem tick9_u (z : Int) : wrap64 ((IntKind.u64.wrap z).tmod 9) = tick9 z := by
  have h1 := tick9_in z
  have h0 : 0 ≤ IntKind.u64.wrap z := by rw [IntKind.wrap_u64]; omega
  rw [Int.tmod_eq_emod_of_nonneg h0, IntKind.wrap_u64]
  unfold tick9 at *
  unfold wrap64
  omega
set_option maxRecDepth 100000 in
set_option maxHeartbeats 4000000 in
theorem queueBands_walk (W : World) (hg : Glob W) {pv : Value} {zs : List Int} (hz : Ints W pv zs) (_ : ∀ x ∈ zs, Bd x) {sv : Value} {xs : List Stp} (hx : StpIn W sv xs) :
    Calls Tryd.prog 4 #[pv, sv] W fun e W' => e = .returned (.bool true) ∧ Gr W W' := by
  have HX := Lib.hid hx
  have HGL := Lib.hid hg
  have HZ := Lib.hid hz
  obtain ⟨sa, sc, rfl, _⟩ := hx
  obtain ⟨za, zc, rfl⟩ := ints_shape hz
  clear hg hz
  by_cases hl : 120 < xs.length
  · go_enter Tryd.func4, Tryd.ntmps4
    go_wp2
    all_goals first
      | (exfalso; omega)
      | (go_ret; exact ⟨rfl, Gr.refl _⟩)
  · by_cases hzl : 20 < zs.length
    · go_enter Tryd.func4, Tryd.ntmps4
      go_wp2
      all_goals first
        | (exfalso; omega)
        | (go_ret; exact ⟨rfl, Gr.refl _⟩)
    · have HL := Lib.hid (show xs.length ≤ 120 by omega)
      obtain ⟨i0, hi0, hz0, hz1, hz2⟩ := info_parts qInfo
      obtain ⟨i1, hi1, hy0, hy1, hy2⟩ := info_parts rqInfo
      go_enter Tryd.func4, Tryd.ntmps4
      go_upto_region 5 with fail
      all_goals try (exfalso; omega)
      obtain ⟨w0, hw0⟩ : ∃ w0, w0 = W.alloc (.cells #[.slice none 0 0] 47) := ⟨_, rfl⟩
      obtain ⟨wb, hwb⟩ : ∃ wb, wb = W.heap.size := ⟨_, rfl⟩
      have HQ0 : Hid (QBuild W w0 wb (.slice none 0 0) (.slice none 0 0) []) := Lib.hid (by
        rw [hw0, hwb]
        exact ⟨(Gr.refl _).alloc _, RowQ.nil _ _, (fun g hg => by cases hg), by simp, by simp, Nat.le_refl _, RowQ.nil _ _, (fun g hg => by cases hg), (fun i t h => by simp at h), fun i j a b _ h => by simp at h⟩)
      rw [← hw0, ← hwb]
      clear hw0 hwb
      go_wp2
      go_loopw [5, 7] (fun s5 s7 wr => ∃ (i : Nat) (u : Value) (ps : List (Int × Nat × Nat)), s7 = .int .i64 (i : Int) ∧ i ≤ zs.length ∧ ps.length = i ∧ Hid (QBuild W wr wb s5 u ps)) (fun _ s _ => zs.length - (intOf s).toNat)
      case atStart => exact ⟨0, _, [], rfl, Nat.zero_le _, rfl, HQ0⟩
      case round =>
        clear HQ0
        obtain ⟨i, u, ps, rfl, hin, hps, HQ⟩ := hrel
        have HPS := Lib.hid hps
        clear hps
        by_cases hlt : i < zs.length
        · have j0 : (0 : Int) ≤ (i : Int) := by omega
          have j1 : (i : Int) < (zs.length : Int) := by omega
          obtain ⟨zb, zo, zc', hze, HC⟩ := ints_cells HZ.out (by omega)
          injection hze with e1 e2 e3
          subst e1 e3
          have c0 := HQ.out.gr.cell (HC.out i hlt)
          have HTK := Lib.hid (tick9_u (zs.getD i 0))
          have HTB := Lib.hid (tick9_in (zs.getD i 0))
          generalize zs.getD i 0 = z at *
          go_upto_region 9 with fail
          rw [HTK.out]
          generalize tick9 z = P at *
          clear c0
          have HNF := Lib.hid (fun w => newfifo_ok P 1000000 false w ⟨by have := HTB.out; omega, by decide⟩)
          go_upto_region 12 with (go_at_call 10; (with_reducible refine (HNF.out _).mono ?_); rintro e w1 ⟨rfl, rfl⟩)
          all_goals try (exfalso; omega)
          obtain ⟨w1, hw1⟩ : ∃ w1, w1 = wr.alloc (.cells #[.slice none 0 0, .int .i64 0, .int .i64 P, .int .i64 1000000, .bool false] 35) := ⟨_, rfl⟩
          obtain ⟨p, hp⟩ : ∃ p, p = wr.heap.size := ⟨_, rfl⟩
          have HG1 : Hid (Gr wr w1) := Lib.hid (by rw [hw1]; exact (Gr.refl _).alloc _)
          have HF1 : Hid (FifoAt w1 p (.slice none 0 0) [] P 1000000 false) := Lib.hid (by rw [hw1]; exact fifo_born hp)
          have HP := Lib.hid hp
          rw [← hw1, ← hp]
          clear hw1 hp
          go_upto_region 13 with (at_builtin; refine wpList_append_q rfl _ _ _ (by rfl) i0 Tryd.underlying43 hi0 hz0 hz1 hz2 (by rfl) (HQ.out.row.gr (HG1.out.alloc _)) ⟨w1.heap.size, 0, none⟩ 1 1 rfl (ys := [.iface 25 (.pointer (some ⟨p, 0, none⟩))]) (by rfl) ?c1 ?c3 ?c2 ?_; (case c1 => (intro j u hu; rw [Addr.add_lit, alloc_cell _ _ rfl]; match j, hu with | 0, hu => (simp at hu; subst hu; rfl) | j + 1, hu => simp at hu)); (case c3 => (intro u hu; simp at hu; exact .inr ⟨_, _, hu⟩)); (case c2 => (have := HPS.out; simp; omega)); intro v4 w4 hrow hgr hown; have HR4 := Lib.hid hrow; have HG4 := Lib.hid hgr; have HO4 := Lib.hid hown; clear hrow hgr hown)
          obtain ⟨ua, uc, hue⟩ := HQ.out.row2.shape
          rw [List.length_map] at hue
          subst hue
          have HS4 := Lib.hid (show Sav (fun g => u5.ownBlock = some g) wr w4 from (Sav.of_gr (B := fun g => u5.ownBlock = some g) (HG1.out.alloc _)).then (.of_grown HG4.out fun _ h => h))
          have HF4 := Lib.hid (HF1.out.sav ((Sav.of_gr (B := fun g => u5.ownBlock = some g) ((Gr.refl w1).alloc _)).then (.of_grown HG4.out fun _ h => h)) (fun e => by have := HQ.out.row.lt e; have := HP.out; omega) (fun g hg => by cases hg))
          have HU4 := Lib.hid (HQ.out.row2.sav HS4.out (fun g hg e => HQ.out.row.apart HQ.out.row2 (by decide) e hg))
          have c0 := HS4.out.cell HQ.out.wc HQ.out.ne.1
          have f0 := HS4.out.frozen (p := ⟨wb, 0, none⟩) (cell_lt HQ.out.wc) HQ.out.wf HQ.out.ne.1
          have hwbl : wb < w4.heap.size := cell_lt c0
          have HC0 := Lib.hid c0
          have HF0 := Lib.hid f0
          have HWL := Lib.hid hwbl
          go_wp2_with (at_builtin; refine wpList_append_q rfl _ _ _ (by rfl) i1 Tryd.underlying45 hi1 hy0 hy1 hy2 (by rfl) (HU4.out.gr (((Gr.refl w4).alloc _).alloc _)) ⟨w4.heap.size + 1, 0, none⟩ 1 1 rfl (ys := [.iface 37 (.pointer (some ⟨w4.heap.size, 0, none⟩))]) (by rfl) ?c1 ?c3 ?c2 ?_; (case c1 => (intro j u hu; rw [Addr.add_lit, alloc_cell _ _ (by simp)]; match j, hu with | 0, hu => (simp at hu; subst hu; rfl) | j + 1, hu => simp at hu)); (case c3 => (intro u hu; simp at hu; exact .inr ⟨_, _, hu⟩)); (case c2 => (have := HPS.out; simp; omega)); intro v6 w6 hrow hgr hown; have HR6 := Lib.hid hrow; have HG6 := Lib.hid (show Sav (fun g => (Value.slice ua ps.length uc).ownBlock = some g) w4 w6 from (Sav.of_gr (B := fun g => (Value.slice ua ps.length uc).ownBlock = some g) (((Gr.refl w4).alloc _).alloc _)).then (.of_grown hgr fun _ h => h)); have HO6 := Lib.hid hown; have HRF := Lib.hid (show RFifoAt w6 w4.heap.size (.slice none 0 0) [] P 1000000 false from ((rfifo_born (a := P) (b := 1000000) (head := false) (rfl : w4.heap.size = w4.heap.size)).gr ((Gr.refl _).alloc _)).sav (Sav.of_grown hgr fun _ h => h) (fun e => by have := HU4.out.lt e; omega) (fun g hg => by cases hg)); have c6 := HG6.out.cell HC0.out HQ.out.ne.2; have f6 := HG6.out.frozen (p := ⟨wb, 0, none⟩) HWL.out HF0.out HQ.out.ne.2; obtain ⟨va, vc, hve⟩ := HR6.out.shape; rw [List.length_append, List.length_map] at hve; subst hve; clear hrow hgr hown)
          have HNE6 := Lib.hid (show ¬ (Value.slice va (ps.length + [Value.iface 37 (.pointer (some ⟨w4.heap.size, 0, none⟩))].length) vc).ownBlock = some wb from fun e => (HO6.out wb e).elim HQ.out.ne.2 (fun h1 => by have := HWL.out; simp at h1; omega))
          clear c0 f0 hwbl
          obtain ⟨w7, hw7⟩ : ∃ w7, w7 = w6.setCell ⟨wb, 0, none⟩ (.slice va (ps.length + 1) vc) := ⟨_, rfl⟩
          have HS7 : Hid (Sav (fun g => g = wb) w6 w7) := Lib.hid (by rw [hw7]; exact .set wb 0 _)
          have c7 : w7.cell? ⟨wb, 0, none⟩ = some (.slice va (ps.length + 1) vc) := by rw [hw7]; exact cell_ss c6
          have f7 : w7.frozen? ⟨wb, 0, none⟩ = false := by rw [hw7]; simpa using f6
          have HQ7 : Hid (QBuild W w7 wb v4 (.slice va (ps.length + 1) vc) (ps ++ [(P, p, w4.heap.size)])) := Lib.hid (by
            have hpb := HP.out
            have hsz := HS4.out.size
            have hv4 : ∀ g, v4.ownBlock = some g → u5.ownBlock = some g ∨ wr.heap.size ≤ g := fun g hg => (HO4.out g hg).imp id (fun e => by have := HG1.out.size; simp at e; omega)
            have hu7 : ∀ g, (Value.slice va (ps.length + 1) vc).ownBlock = some g → (Value.slice ua ps.length uc).ownBlock = some g ∨ wr.heap.size ≤ g := fun g hg => (HO6.out g hg).imp id (fun e => by simp at e; omega)
            have hv4wb : v4.ownBlock ≠ some wb := HR4.out.ne HC0.out notQ_slice
            have hpw : ¬ p = wb := fun e => by have := cell_lt HQ.out.wc; simp only at this; omega
            have hpu : (Value.slice ua ps.length uc).ownBlock ≠ some p := HU4.out.ne HF4.out.l.c1 notQ_int
            refine HQ.out.snoc HTB.out ?_ ?_ hv4 (HR6.out.sav HS7.out (fun g hg e => HNE6.out (by rw [← e]; exact hg))) hu7 c7 f7 ?_ (HRF.out.sav HS7.out (fun e => by have := HWL.out; omega) (fun g hg => by cases hg)) ⟨by omega, ?_⟩
            · exact ((HS4.out.mono fun g hg => .inl hg).then (HG6.out.mono fun g hg => .inr (.inl hg))).then (HS7.out.mono fun g hg => .inr (.inr hg))
            · exact (HR4.out.sav HG6.out (fun g hg e => HR4.out.apart HU4.out (by decide) hg e)).sav HS7.out (fun g hg e => hv4wb (by rw [← e]; exact hg))
            · exact (HF4.out.sav HG6.out hpu (fun g hg => by cases hg)).sav HS7.out hpw (fun g hg => by cases hg)
            · have := cell_lt HF4.out.l.c1; simpa using this)
          rw [← hw7]
          clear hw7 c6 f6 c7 f7
          go_roundw
          case measure => simp [intOf]; omega
          case rel => exact ⟨i + 1, _, ps ++ [(P, p, w4.heap.size)], by go_num, by omega, by have := HPS.out; simp; omega, HQ7⟩
        · have hnlt : ¬ (i : Int) < (zs.length : Int) := by omega
          obtain rfl : i = zs.length := by omega
          clear hlt hin
          by_cases hfew : zs.length < 1 ∨ 8 < zs.length
          · have HFW := Lib.hid (fun w => newbands_few u5 (ps.map fun t => .iface 25 (.pointer (some ⟨t.2.1, 0, none⟩))) w (RowQ.shape HQ.out.row) (by rw [List.length_map, HPS.out]; exact hfew))
            obtain ⟨oa, oc, hoe⟩ := HQ.out.row.shape
            rw [List.length_map, HPS.out] at hoe
            subst hoe
            rcases hfew with hf | hf
            all_goals
              go_wp2_with (first
                | (go_at_call 13; (with_reducible refine (HFW.out _).mono ?_); rintro e w1 ⟨rfl, rfl⟩)
                | (go_at_call 11; refine (bare_true _ (HGL.out.gr HQ.out.gr) (ErrIs.no _ _)).mono ?_; rintro e w4 ⟨rfl, hg4⟩; have HG4 := Lib.hid (HQ.out.gr.trans hg4); clear hg4))
              all_goals first
                | (exfalso; omega)
                | (go_ret; exact ⟨rfl, HG4.out⟩)
          · have hn1 : 1 ≤ zs.length := by omega
            have hn8 : zs.length ≤ 8 := by omega
            clear hfew
            have HNB := Lib.hid (newbands_ok u5 _ wr HQ.out.row (by rw [List.length_map, HPS.out]; omega) (fun u hu => by obtain ⟨t, _, rfl⟩ := List.mem_map.1 hu; exact ⟨_, _, rfl⟩))
            obtain ⟨og, oo, oc, hoe, hoc, hel⟩ := HQ.out.row.cells (by rw [List.length_map, HPS.out]; omega)
            rw [List.length_map, HPS.out] at hoe hoc
            subst hoe
            have HEL := Lib.hid hel
            clear hel
            go_upto_region 19 with (go_at_call 13; (with_reducible refine HNB.out.mono ?_); rintro e w1 ⟨pb, vb, rfl, hc, hrow, hg1, hp1, hown⟩; have HC1 := Lib.hid hc; have HRB := Lib.hid hrow; have HG1 := Lib.hid hg1; have HP1 := Lib.hid hp1; have HOW := Lib.hid hown; clear hc hrow hg1 hp1 hown)
            all_goals try (exfalso; omega)
            by_cases h3 : (3 : Int) < (zs.length : Int)
            · have h4 : 3 ≤ oc := by omega
              have HYS := Lib.hid (show 3 = ((ps.map fun t : Int × Nat × Nat => Value.iface 25 (.pointer (some ⟨t.2.1, 0, none⟩))).take 3).length from by simp [HPS.out]; try omega)
              go_wp2_with (first
                | (at_builtin; refine wpList_append_q rfl _ _ _ (by rfl) i0 Tryd.underlying43 hi0 hz0 hz1 hz2 (by rfl) (RowQ.empty (E := 98) (w := w1) rfl) ⟨og, oo, none⟩ oc 3 HYS.out (by rfl) ?c1 ?c3 ?c2 ?_; (case c1 => (intro j u hu; rw [Addr.add_lit]; refine ((Gr.refl w1).alloc _).cell (HG1.out.cell (HEL.out j u ?_)); (have hj : j < 3 := by have h1 := (List.getElem?_eq_some_iff.1 hu).1; rw [← HYS.out] at h1; exact h1); rwa [List.getElem?_take_of_lt hj] at hu)); (case c3 => (intro u hu; obtain ⟨t, _, rfl⟩ := List.mem_map.1 (List.mem_of_mem_take hu); exact .inr ⟨_, _, rfl⟩)); (case c2 => (rw [← HYS.out]; simp <;> omega)); intro v4 w4 hrow hgr hown; have HR4 := Lib.hid hrow; have HG4 := Lib.hid (show Gr w1 w4 from ((Gr.refl _).alloc _).grown hgr (fun k hk => by cases hk; exact Nat.le_refl _)); have HO4 := Lib.hid (show ∀ g, v4.ownBlock = some g → w1.heap.size ≤ g from fun g hg => (hown g hg).elim (fun h1 => by cases h1; exact Nat.le_refl _) (fun h1 => by simp at h1; omega)); clear hrow hgr hown)
                | (at_builtin; refine wpList_append_q rfl _ _ _ (by rfl) i0 Tryd.underlying43 hi0 hz0 hz1 hz2 (by rfl) (HR4.out.gr ((Gr.refl w4).alloc _)) ⟨w4.heap.size, 0, none⟩ 1 1 rfl (ys := [.nilIface]) (by rfl) ?c1 ?c3 ?c2 ?_; (case c1 => (intro j u hu; rw [Addr.add_lit, alloc_cell _ _ rfl]; match j, hu with | 0, hu => (simp at hu; subst hu; rfl) | j + 1, hu => simp at hu)); (case c3 => (intro u hu; simp at hu; exact .inl hu)); (case c2 => (rw [List.nil_append, ← HYS.out]; simp <;> omega)); intro v5 w5 hrow hgr hown; have HR5 := Lib.hid hrow; have HG5 := Lib.hid (show Gr w1 w5 from (HG4.out.alloc _).grown hgr HO4.out); clear hrow hgr hown)
                | (go_at_call 13; refine (newbands_nil _ _ _ HR5.out ⟨by simp, by rw [List.nil_append, List.length_append, ← HYS.out]; simp <;> omega⟩ (by rw [List.nil_append, nilAt_last (fun u hu => by obtain ⟨t, _, rfl⟩ := List.mem_map.1 (List.mem_of_mem_take hu); exact ⟨_, _, rfl⟩)]; omega)).mono ?_; rintro e w6 ⟨rfl, rfl⟩)
                | (go_at_call 11; refine (bare_true _ (HGL.out.gr ((HQ.out.gr.trans HG1.out).trans HG5.out)) (ErrIs.no _ _)).mono ?_; rintro e w7 ⟨rfl, hg7⟩; have HG7 := Lib.hid (HG5.out.trans hg7); clear hg7)
                | (go_at_call 12; refine (bands_play W wr _ HQ.out (by rw [HPS.out]; omega) (HG1.out.trans HG7.out) (HG7.out.cell HC1.out) (HRB.out.gr HG7.out) HP1.out HOW.out (HX.out.gr ((HQ.out.gr.trans HG1.out).trans HG7.out)) HL.out).mono ?_; rintro e w8 ⟨rfl, hg8⟩; have HG8 := Lib.hid hg8; clear hg8))
              all_goals first
                | (exfalso; omega)
                | (go_ret; exact ⟨rfl, HG8.out⟩)
            · have h4 : zs.length ≤ oc := hoc
              have h5 : (zs.length : Int) ≤ (oc : Int) := by omega
              have h6 : (0 : Int) ≤ (zs.length : Int) := by omega
              have HYS := Lib.hid (show zs.length = ((ps.map fun t : Int × Nat × Nat => Value.iface 25 (.pointer (some ⟨t.2.1, 0, none⟩))).take zs.length).length from by simp [HPS.out]; try omega)
              go_wp2_with (first
                | (at_builtin; refine wpList_append_q rfl _ _ _ (by rfl) i0 Tryd.underlying43 hi0 hz0 hz1 hz2 (by rfl) (RowQ.empty (E := 98) (w := w1) rfl) ⟨og, oo, none⟩ oc zs.length HYS.out (by rfl) ?c1 ?c3 ?c2 ?_; (case c1 => (intro j u hu; rw [Addr.add_lit]; refine ((Gr.refl w1).alloc _).cell (HG1.out.cell (HEL.out j u ?_)); (have hj : j < zs.length := by have h1 := (List.getElem?_eq_some_iff.1 hu).1; rw [← HYS.out] at h1; exact h1); rwa [List.getElem?_take_of_lt hj] at hu)); (case c3 => (intro u hu; obtain ⟨t, _, rfl⟩ := List.mem_map.1 (List.mem_of_mem_take hu); exact .inr ⟨_, _, rfl⟩)); (case c2 => (rw [← HYS.out]; simp <;> omega)); intro v4 w4 hrow hgr hown; have HR4 := Lib.hid hrow; have HG4 := Lib.hid (show Gr w1 w4 from ((Gr.refl _).alloc _).grown hgr (fun k hk => by cases hk; exact Nat.le_refl _)); have HO4 := Lib.hid (show ∀ g, v4.ownBlock = some g → w1.heap.size ≤ g from fun g hg => (hown g hg).elim (fun h1 => by cases h1; exact Nat.le_refl _) (fun h1 => by simp at h1; omega)); clear hrow hgr hown)
                | (at_builtin; refine wpList_append_q rfl _ _ _ (by rfl) i0 Tryd.underlying43 hi0 hz0 hz1 hz2 (by rfl) (HR4.out.gr ((Gr.refl w4).alloc _)) ⟨w4.heap.size, 0, none⟩ 1 1 rfl (ys := [.nilIface]) (by rfl) ?c1 ?c3 ?c2 ?_; (case c1 => (intro j u hu; rw [Addr.add_lit, alloc_cell _ _ rfl]; match j, hu with | 0, hu => (simp at hu; subst hu; rfl) | j + 1, hu => simp at hu)); (case c3 => (intro u hu; simp at hu; exact .inl hu)); (case c2 => (rw [List.nil_append, ← HYS.out]; simp <;> omega)); intro v5 w5 hrow hgr hown; have HR5 := Lib.hid hrow; have HG5 := Lib.hid (show Gr w1 w5 from (HG4.out.alloc _).grown hgr HO4.out); clear hrow hgr hown)
                | (go_at_call 13; refine (newbands_nil _ _ _ HR5.out ⟨by simp, by rw [List.nil_append, List.length_append, ← HYS.out]; simp <;> omega⟩ (by rw [List.nil_append, nilAt_last (fun u hu => by obtain ⟨t, _, rfl⟩ := List.mem_map.1 (List.mem_of_mem_take hu); exact ⟨_, _, rfl⟩)]; omega)).mono ?_; rintro e w6 ⟨rfl, rfl⟩)
                | (go_at_call 11; refine (bare_true _ (HGL.out.gr ((HQ.out.gr.trans HG1.out).trans HG5.out)) (ErrIs.no _ _)).mono ?_; rintro e w7 ⟨rfl, hg7⟩; have HG7 := Lib.hid (HG5.out.trans hg7); clear hg7)
                | (go_at_call 12; refine (bands_play W wr _ HQ.out (by rw [HPS.out]; omega) (HG1.out.trans HG7.out) (HG7.out.cell HC1.out) (HRB.out.gr HG7.out) HP1.out HOW.out (HX.out.gr ((HQ.out.gr.trans HG1.out).trans HG7.out)) HL.out).mono ?_; rintro e w8 ⟨rfl, hg8⟩; have HG8 := Lib.hid hg8; clear hg8))
              all_goals first
                | (exfalso; omega)
                | (go_ret; exact ⟨rfl, HG8.out⟩)
end Go.Proofs.YtbpofdfehcbppaaDoor

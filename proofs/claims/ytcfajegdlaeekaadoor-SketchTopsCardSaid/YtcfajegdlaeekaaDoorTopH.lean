/-
  The reference's Sorted, walked.
-/
import Derived.Test.YtcfajegdlaeekaaDoorTopG
import Derived.StillTailTactics
import Derived.WalkKit
namespace Go.Proofs.YtcfajegdlaeekaaDoor
open Go Go.RowKit Go.Shelf Go.Lib Go.Sort Go.Maps

theorem rpairInfo : (Tryd.prog.info? 45).map (fun i => (i.zero, i.size, i.bytes)) = some (some (.agg #[.int .i64 0, .int .i64 0]), 2, 16) := by kernel_rfl
/-- As far down as the pairs behind come not ahead. -/
def InsAt (L : List (Int × Int)) (p : Int × Int) (i : Nat) : Prop := i ≤ L.length ∧ ∀ j, i ≤ j → j < L.length → ¬ Bef (L.getD j (0, 0)) p
theorem InsAt.down {L : List (Int × Int)} {p q : Int × Int} {j : Nat} (h : InsAt L p (j + 1)) (hq : q = L.getD j (0, 0)) (hb : ¬ Bef q p) : InsAt L p j :=
  ⟨by have := h.1; omega, fun k h1 h2 => by
    by_cases e : k = j
    · rw [e, ← hq]; exact hb
    · exact h.2 k (by omega) h2⟩
set_option maxRecDepth 100000 in
set_option maxHeartbeats 4000000 in
theorem rsorted_any (b n : Nat) (f : Int → Int) (w : World) (h : MapI w b n f (has_ f)) (hn : n ≤ 1000) :
    Calls Tryd.prog 9 #[.map (some b)] w fun e w' => ∃ v L, e = .returned v ∧ PRow 45 w' v L ∧ PairsOf f L ∧ L.length ≤ 1000 ∧ Gr w w' := by
  have HM := Lib.hid h
  have HB := Lib.hid h.lt
  clear h
  obtain ⟨i0, hi0, hz0, hz1, hz2⟩ := info_parts rpairInfo
  go_enter Tryd.func9, Tryd.ntmps9
  go_wp2_with (first
    | (at_range; refine wpList_range_mapI (by rfl) _ (by rfl) (by rfl) HM.out ?_; intro w0 cnt0 hmr hgr hsz; have HR0 := Lib.hid hmr; have HG0 := Lib.hid hgr; clear hmr hgr hsz)
    | go_in)
  obtain ⟨r, hr⟩ : ∃ r, r = w.heap.size := ⟨_, rfl⟩
  rw [← hr] at HR0 ⊢
  have HRS := Lib.hid hr
  clear hr
  go_frame
  go_loopw [3] (fun s wr => ∃ (L : List (Int × Int)) (left : Int → Bool) (cnt : Nat), Hid (SrtAt w wr b r n f s L left cnt 45) ∧ Hid (L.Pairwise Bef)) (fun _ wr => wr.rangeLeft b r)
  case atStart => exact ⟨[], _, _, Lib.hid ⟨HR0.out, PRow.nil _ _, fun g hg => by simp [Value.ownBlock] at hg, by rw [HRS.out]; exact Nat.le_refl _, HG0.out, by simp, fun p hp => by simp at hp, fun k hk => .inl (by simp [has_, hk])⟩, Lib.hid List.Pairwise.nil⟩
  case round =>
    obtain ⟨L, left, cnt, HS, HO⟩ := hrel
    go_wp2_with (first
      | (at_next; refine wpList_next_mapR (by rfl) _ (by rfl) (by rfl) HS.out.mp ?_ ?_)
      | go_in)
    · intro hl0
      have HL := Lib.hid hl0
      clear hl0
      go_wp2
      go_ret
      exact ⟨_, L, rfl, HS.out.row, ⟨HO.out, HS.out.full HL.out⟩, Nat.le_trans HS.out.few hn, HS.out.gr⟩
    · intro x w1 cnt1 hbx hlx hmr hlt hsv hsz hen
      have H1 := Lib.hid (And.intro hbx (And.intro hlx (And.intro hmr (And.intro hlt hsv))))
      clear hbx hlx hmr hlt hsv hsz
      have HX : Hid (f x ≠ 0) := Lib.hid (HS.out.come H1.out.2.1)
      have HRW := Lib.hid (HS.out.row.sav H1.out.2.2.2.2 (fun g hg => (HS.out.own g hg).2))
      obtain ⟨oa, oc, hu⟩ := HRW.out.shape
      subst hu
      obtain ⟨m, hm⟩ : ∃ m, m = L.length := ⟨_, rfl⟩
      have HFEW : Hid (m ≤ 1000) := Lib.hid (by rw [hm]; exact Nat.le_trans HS.out.few hn)
      rw [← hm]
      have HMM := Lib.hid hm
      clear hm
      obtain ⟨y, hy⟩ : ∃ y, y = f x := ⟨_, rfl⟩
      rw [← hy] at hen
      have HY := Lib.hid hy
      clear hy
      go_wp2
      obtain ⟨wo, hwo⟩ : ∃ u, u = w1 := ⟨_, rfl⟩
      subst hwo
      go_loopw [6] (fun s wr => ∃ i : Nat, i ≤ m ∧ s = .int .i64 (i : Int) ∧ wr = wo ∧ Hid (InsAt L (x, y) i)) (fun s _ => (intOf s).toNat)
      case atStart => exact ⟨m, Nat.le_refl _, rfl, rfl, Lib.hid ⟨by rw [HMM.out]; exact Nat.le_refl _, fun j h1 h2 => by rw [← HMM.out] at h2; omega⟩⟩
      case round =>
        obtain ⟨i, hi, rfl, hww, HI⟩ := hrel
        subst hww
        have HRA := Lib.hid ((show Row 45 2 isInt wr (.slice oa m oc) m (pflat L) from by rw [HMM.out]; exact HRW.out).gr ((Gr.refl wr).alloc (.cells #[.int .i64 0, .int .i64 0] 45)))
        rcases Nat.eq_zero_or_pos i with h0 | h0
        · subst h0
          have HST : Hid (0 < 0 → Bef (L.getD (0 - 1) (0, 0)) (x, y)) := Lib.hid (fun h => by omega)
          have HZ : Hid (IntKind.i64.wrap 1 = ((0 + 1 : Nat) : Int)) := Lib.hid (by rw [IntKind.wrap_i64]; omega)
          have HZ2 : Hid ((0 : Int) = ((0 : Nat) : Int)) := Lib.hid rfl
          go_upto_region 9 with (at_builtin; refine wpList_append_row rfl _ _ _ (by rfl) i0 (.agg #[.int .i64 0, .int .i64 0]) 16 Tryd.underlying25 hi0 hz0 hz1 hz2 rfl ?c1 (by rfl) HRA.out ⟨wr.heap.size, 0, none⟩ 1 (by rfl) (pcells (0, 0)) (by rfl) (pnew wr 0 0 _) (fun u hu => (pcells_int _ u hu).1) (fun u hu => (pcells_int _ u hu).2) (Nat.le_trans HFEW.out (by omega)) (by decide) ?_; (case c1 => exact zero_int); intro v2 w2 hrow hgr hown; obtain ⟨g2, o2, k2, hv2, hk2, hm2, _⟩ := Row.cells hrow (by omega); subst hv2; have HR3 : Hid (PRow 45 w2.drew (.slice (some ⟨g2, o2, none⟩) (L.length + 1) k2) (L ++ [(0, 0)])) := Lib.hid (PRow.one (by rw [← HMM.out]; exact hrow)); have HG2 := Lib.hid hgr; have HO2 := Lib.hid hown; clear hrow hgr hown)
          have i1 : (0 : Int) ≤ ((0 : Nat) : Int) := by omega
          have i2 : ((0 : Nat) : Int) ≤ (m : Int) := by omega
          have hwi : wrap64 (((0 : Nat) : Int) + 1) = ((0 : Nat) : Int) + 1 := by have := HFEW.out; unfold wrap64; omega
          go_still_tail 7, (by kernel_rfl)
          repeat still_step
          clear hwi i1 i2
          try clear hwj
          try clear h1
          try clear c0 c1
          refine wpStill_sliceP rfl (.tmp 54) (.tmp 56) (by rfl) g2 o2 (m + 1) k2 (0 + 1) ?zea ?ea1 ?ea2 ?ea3 ?ea4 ?ea5
          case ea1 => rfl
          case zea => exact (IntKind.i64.wrap 1)
          case ea2 => rfl
          case ea3 => exact HZ.out
          case ea4 => exact Nat.succ_le_succ hi
          intro d1 hd1
          have HD1 := Lib.hid hd1
          clear hd1
          repeat still_step
          refine wpStill_sliceP rfl (.tmp 58) (.tmp 59) (by rfl) g2 o2 (m + 1) k2 (0) ?zfa ?fa1 ?fa2 ?fa3 ?fa4 ?fa5
          case fa1 => rfl
          case zfa => exact (0 : Int)
          case fa2 => rfl
          case fa3 => exact HZ2.out
          case fa4 => exact Nat.le_succ_of_le hi
          intro d2 hd2
          have HD2 := Lib.hid (hd2 (Nat.lt_of_lt_of_le (Nat.lt_succ_of_le hi) hk2))
          clear hd2
          refine wpStill_nil ?_
          change wpList _ _ _ _ _ (World.drew _)
          refine wpList_copy_shift rfl _ _ (by rfl) Tryd.underlying25 (by rw [hi0]; simp [hz1]) HR3.out (by rfl) (by rfl) (i := 0) (by rw [← HMM.out]; omega) (fun h => by rw [HD1.out (by rw [← HMM.out] at h; omega)]) HD2.out (by rw [← HMM.out]; try omega) (by rw [← HMM.out]) ?_
          intro w3 hr3 hs3
          have HR4 := Lib.hid hr3
          have HS3 := Lib.hid hs3
          clear hr3 hs3
          have hl4 : (L.take (0) ++ ((L ++ [(0, 0)]).getD (0) (0, 0)) :: L.drop (0)).length = L.length + 1 := by have := HMM.out; rw [List.length_append, List.length_cons, List.length_take, List.length_drop]; omega
          have hla : (L.take (0)).length = 0 := by rw [List.length_take, Nat.min_eq_left (by rw [← HMM.out]; omega)]
          have hat := PRow.at (show PRow 45 w3 (.slice (some ⟨g2, o2, none⟩) (L.take (0) ++ ((L ++ [(0, 0)]).getD (0) (0, 0)) :: L.drop (0)).length k2) _ by rw [hl4]; exact HR4.out) (i := 0) (by rw [hl4, ← HMM.out]; omega)
          have c3 := hat.1
          have c4 := hat.2
          have z3 := PRow.free HR4.out (o2 + (0) * 2)
          have z4 := PRow.free HR4.out (o2 + (0) * 2 + 1)
          have HPS := Lib.hid (PRow.setAt HR4.out x y)
          rw [hla] at HPS
          clear hat hl4 hla
          try simp only [Nat.zero_mul, Nat.add_zero] at c3 c4 z3 z4
          have HV : Hid (∀ q, q = g2 → (Value.slice oa L.length oc).ownBlock = some q ∨ wr.heap.size ≤ q) := Lib.hid (fun q hq => by
            subst hq
            rcases HO2.out q rfl with h | h
            · exact .inl (by rw [← HMM.out]; exact h)
            · right
              have hz : (wr.alloc (.cells #[.int .i64 0, .int .i64 0] 45)).heap.size = wr.heap.size + 1 := by simp
              omega)
          have H4 := Lib.hid (HS.out.put H1.out.2.1 HX.out H1.out.2.2.1 H1.out.2.2.2.2 HB.out (v' := .slice (some ⟨g2, o2, none⟩) (m + 1) k2) (L' := L.take (0) ++ (x, f x) :: L.drop (0)) (by rw [← HY.out, HMM.out]; exact HPS.out.1) (ins_perm L _ (0)) (((((Sav.of_gr ((Gr.refl wr).alloc _)).then (Sav.of_grown HG2.out fun q e => .inl (by rw [← HMM.out]; exact e))).then (Sav.of_gr (Gr.refl w2).drew)).then (HS3.out.mono HV.out)).then (HPS.out.2.mono HV.out)) (fun g hg => HV.out g (Option.some.inj hg).symm))
          have HIO := Lib.hid (ins_ord (p := (x, y)) HO.out HI.out.1 (fun q hq e => by have h8 := (HS.out.mem q hq).2.2; rw [e] at h8; rw [show left x = true from H1.out.2.1] at h8; cases h8) HI.out.2 HST.out)
          clear HV
          go_wp2
          refine ⟨⟨L.take (0) ++ (x, f x) :: L.drop (0), _, _, H4, Lib.hid (by rw [← HY.out]; exact HIO.out)⟩, ?_⟩
          rw [HS.out.mp.left_eq]
          exact Nat.lt_of_le_of_lt (Nat.le_of_eq H4.out.mp.left_eq) H1.out.2.2.2.1
        · obtain ⟨j, rfl⟩ : ∃ j, i = j + 1 := ⟨i - 1, by omega⟩
          obtain ⟨g, off, cap, e, _⟩ := Row.cells HRW.out (by rw [← HMM.out]; omega)
          obtain ⟨e1, _, e3⟩ := Value.slice.inj e
          subst e1 e3
          have hat := PRow.at HRW.out (i := j) (by rw [← HMM.out]; omega)
          obtain ⟨q, hq⟩ : ∃ q, q = L.getD j (0, 0) := ⟨_, rfl⟩
          rw [← hq] at hat
          obtain ⟨qk, qm⟩ := q
          have HQ := Lib.hid hq
          obtain ⟨c0, c1⟩ := hat
          dsimp only at c0 c1
          have hwj : wrap64 (j : Int) = (j : Int) := by have := HFEW.out; unfold wrap64; omega
          have HWJ := Lib.hid hwj
          have j0 : (0 : Int) ≤ (j : Int) := by omega
          have j1 : (j : Int) < (m : Int) := by omega
          have j2 : (0 : Int) < ((j + 1 : Nat) : Int) := by omega
          have HZ : Hid (IntKind.i64.wrap ((j : Int) + 1 + 1) = ((j + 1 + 1 : Nat) : Int)) := Lib.hid (by have := HFEW.out; rw [IntKind.wrap_i64]; omega)
          have HZ2 : Hid ((j : Int) + 1 = ((j + 1 : Nat) : Int)) := Lib.hid (by omega)
          clear hq h0
          by_cases h1 : qm < y
          · have HI2 : Hid (InsAt L (x, y) j) := Lib.hid (HI.out.down HQ.out (by unfold Bef; dsimp only; omega))
            go_wp2
            go_roundw
            case rel => exact ⟨j, by omega, by rw [HWJ.out], trivial, HI2⟩
            case measure => rw [HWJ.out]; simp only [intOf]; omega
          · by_cases h2 : qm = y
            · by_cases h3 : x < qk
              · have HI2 : Hid (InsAt L (x, y) j) := Lib.hid (HI.out.down HQ.out (by unfold Bef; dsimp only; omega))
                subst h2
                go_wp2
                go_roundw
                case rel => exact ⟨j, by omega, by rw [HWJ.out], trivial, HI2⟩
                case measure => rw [HWJ.out]; simp only [intOf]; omega
              · have hne : qk ≠ x := fun e => by
                  have hin : (qk, qm) ∈ L := by
                    rw [HQ.out, List.getD_eq_getElem?_getD, List.getElem?_eq_getElem (by rw [← HMM.out]; omega)]
                    exact List.getElem_mem _
                  have h8 := (HS.out.mem _ hin).2.2
                  rw [show (qk, qm).1 = x from e, show left x = true from H1.out.2.1] at h8
                  cases h8
                have HST : Hid (0 < j + 1 → Bef (L.getD (j + 1 - 1) (0, 0)) (x, y)) := Lib.hid (fun _ => by rw [Nat.add_sub_cancel, ← HQ.out]; unfold Bef; dsimp only; omega)
                clear hne
                have h2s := h2.symm
                clear h2
                subst h2s
                go_upto_region 9 with (at_builtin; refine wpList_append_row rfl _ _ _ (by rfl) i0 (.agg #[.int .i64 0, .int .i64 0]) 16 Tryd.underlying25 hi0 hz0 hz1 hz2 rfl ?c1 (by rfl) HRA.out ⟨wr.heap.size, 0, none⟩ 1 (by rfl) (pcells (0, 0)) (by rfl) (pnew wr 0 0 _) (fun u hu => (pcells_int _ u hu).1) (fun u hu => (pcells_int _ u hu).2) (Nat.le_trans HFEW.out (by omega)) (by decide) ?_; (case c1 => exact zero_int); intro v2 w2 hrow hgr hown; obtain ⟨g2, o2, k2, hv2, hk2, hm2, _⟩ := Row.cells hrow (by omega); subst hv2; have HR3 : Hid (PRow 45 w2.drew (.slice (some ⟨g2, o2, none⟩) (L.length + 1) k2) (L ++ [(0, 0)])) := Lib.hid (PRow.one (by rw [← HMM.out]; exact hrow)); have HG2 := Lib.hid hgr; have HO2 := Lib.hid hown; clear hrow hgr hown)
                have i1 : (0 : Int) ≤ ((j + 1 : Nat) : Int) := by omega
                have i2 : ((j + 1 : Nat) : Int) ≤ (m : Int) := by omega
                have hwi : wrap64 (((j + 1 : Nat) : Int) + 1) = ((j + 1 : Nat) : Int) + 1 := by have := HFEW.out; unfold wrap64; omega
                go_still_tail 7, (by kernel_rfl)
                repeat still_step
                clear hwi i1 i2
                try clear hwj
                try clear h1
                try clear c0 c1
                refine wpStill_sliceP rfl (.tmp 54) (.tmp 56) (by rfl) g2 o2 (m + 1) k2 (j + 1 + 1) ?zeb ?eb1 ?eb2 ?eb3 ?eb4 ?eb5
                case eb1 => rfl
                case zeb => exact (IntKind.i64.wrap ((j : Int) + 1 + 1))
                case eb2 => rfl
                case eb3 => exact HZ.out
                case eb4 => exact Nat.succ_le_succ hi
                intro d1 hd1
                have HD1 := Lib.hid hd1
                clear hd1
                repeat still_step
                refine wpStill_sliceP rfl (.tmp 58) (.tmp 59) (by rfl) g2 o2 (m + 1) k2 (j + 1) ?zfb ?fb1 ?fb2 ?fb3 ?fb4 ?fb5
                case fb1 => rfl
                case zfb => exact ((j : Int) + 1)
                case fb2 => rfl
                case fb3 => exact HZ2.out
                case fb4 => exact Nat.le_succ_of_le hi
                intro d2 hd2
                have HD2 := Lib.hid (hd2 (Nat.lt_of_lt_of_le (Nat.lt_succ_of_le hi) hk2))
                clear hd2
                refine wpStill_nil ?_
                change wpList _ _ _ _ _ (World.drew _)
                refine wpList_copy_shift rfl _ _ (by rfl) Tryd.underlying25 (by rw [hi0]; simp [hz1]) HR3.out (by rfl) (by rfl) (i := j + 1) (by rw [← HMM.out]; omega) (fun h => by rw [HD1.out (by rw [← HMM.out] at h; omega)]) HD2.out (by rw [← HMM.out]; try omega) (by rw [← HMM.out]) ?_
                intro w3 hr3 hs3
                have HR4 := Lib.hid hr3
                have HS3 := Lib.hid hs3
                clear hr3 hs3
                have hl4 : (L.take (j + 1) ++ ((L ++ [(0, 0)]).getD (j + 1) (0, 0)) :: L.drop (j + 1)).length = L.length + 1 := by have := HMM.out; rw [List.length_append, List.length_cons, List.length_take, List.length_drop]; omega
                have hla : (L.take (j + 1)).length = j + 1 := by rw [List.length_take, Nat.min_eq_left (by rw [← HMM.out]; omega)]
                have hat := PRow.at (show PRow 45 w3 (.slice (some ⟨g2, o2, none⟩) (L.take (j + 1) ++ ((L ++ [(0, 0)]).getD (j + 1) (0, 0)) :: L.drop (j + 1)).length k2) _ by rw [hl4]; exact HR4.out) (i := j + 1) (by rw [hl4, ← HMM.out]; omega)
                have c3 := hat.1
                have c4 := hat.2
                have z3 := PRow.free HR4.out (o2 + (j + 1) * 2)
                have z4 := PRow.free HR4.out (o2 + (j + 1) * 2 + 1)
                have HPS := Lib.hid (PRow.setAt HR4.out x y)
                rw [hla] at HPS
                clear hat hl4 hla
                try simp only [Nat.zero_mul, Nat.add_zero] at c3 c4 z3 z4
                have HV : Hid (∀ q, q = g2 → (Value.slice (some ⟨g, off, none⟩) L.length oc).ownBlock = some q ∨ wr.heap.size ≤ q) := Lib.hid (fun q hq => by
                  subst hq
                  rcases HO2.out q rfl with h | h
                  · exact .inl (by rw [← HMM.out]; exact h)
                  · right
                    have hz : (wr.alloc (.cells #[.int .i64 0, .int .i64 0] 45)).heap.size = wr.heap.size + 1 := by simp
                    omega)
                have H4 := Lib.hid (HS.out.put H1.out.2.1 HX.out H1.out.2.2.1 H1.out.2.2.2.2 HB.out (v' := .slice (some ⟨g2, o2, none⟩) (m + 1) k2) (L' := L.take (j + 1) ++ (x, f x) :: L.drop (j + 1)) (by rw [← HY.out, HMM.out]; exact HPS.out.1) (ins_perm L _ (j + 1)) (((((Sav.of_gr ((Gr.refl wr).alloc _)).then (Sav.of_grown HG2.out fun q e => .inl (by rw [← HMM.out]; exact e))).then (Sav.of_gr (Gr.refl w2).drew)).then (HS3.out.mono HV.out)).then (HPS.out.2.mono HV.out)) (fun g hg => HV.out g (Option.some.inj hg).symm))
                have HIO := Lib.hid (ins_ord (p := (x, y)) HO.out HI.out.1 (fun q hq e => by have h8 := (HS.out.mem q hq).2.2; rw [e] at h8; rw [show left x = true from H1.out.2.1] at h8; cases h8) HI.out.2 HST.out)
                clear HV
                go_wp2
                refine ⟨⟨L.take (j + 1) ++ (x, f x) :: L.drop (j + 1), _, _, H4, Lib.hid (by rw [← HY.out]; exact HIO.out)⟩, ?_⟩
                rw [HS.out.mp.left_eq]
                exact Nat.lt_of_le_of_lt (Nat.le_of_eq H4.out.mp.left_eq) H1.out.2.2.2.1
            · have HST : Hid (0 < j + 1 → Bef (L.getD (j + 1 - 1) (0, 0)) (x, y)) := Lib.hid (fun _ => by rw [Nat.add_sub_cancel, ← HQ.out]; unfold Bef; dsimp only; omega)
              go_upto_region 9 with (at_builtin; refine wpList_append_row rfl _ _ _ (by rfl) i0 (.agg #[.int .i64 0, .int .i64 0]) 16 Tryd.underlying25 hi0 hz0 hz1 hz2 rfl ?c1 (by rfl) HRA.out ⟨wr.heap.size, 0, none⟩ 1 (by rfl) (pcells (0, 0)) (by rfl) (pnew wr 0 0 _) (fun u hu => (pcells_int _ u hu).1) (fun u hu => (pcells_int _ u hu).2) (Nat.le_trans HFEW.out (by omega)) (by decide) ?_; (case c1 => exact zero_int); intro v2 w2 hrow hgr hown; obtain ⟨g2, o2, k2, hv2, hk2, hm2, _⟩ := Row.cells hrow (by omega); subst hv2; have HR3 : Hid (PRow 45 w2.drew (.slice (some ⟨g2, o2, none⟩) (L.length + 1) k2) (L ++ [(0, 0)])) := Lib.hid (PRow.one (by rw [← HMM.out]; exact hrow)); have HG2 := Lib.hid hgr; have HO2 := Lib.hid hown; clear hrow hgr hown)
              have i1 : (0 : Int) ≤ ((j + 1 : Nat) : Int) := by omega
              have i2 : ((j + 1 : Nat) : Int) ≤ (m : Int) := by omega
              have hwi : wrap64 (((j + 1 : Nat) : Int) + 1) = ((j + 1 : Nat) : Int) + 1 := by have := HFEW.out; unfold wrap64; omega
              go_still_tail 7, (by kernel_rfl)
              repeat still_step
              clear hwi i1 i2
              try clear hwj
              try clear h1
              try clear c0 c1
              refine wpStill_sliceP rfl (.tmp 54) (.tmp 56) (by rfl) g2 o2 (m + 1) k2 (j + 1 + 1) ?zec ?ec1 ?ec2 ?ec3 ?ec4 ?ec5
              case ec1 => rfl
              case zec => exact (IntKind.i64.wrap ((j : Int) + 1 + 1))
              case ec2 => rfl
              case ec3 => exact HZ.out
              case ec4 => exact Nat.succ_le_succ hi
              intro d1 hd1
              have HD1 := Lib.hid hd1
              clear hd1
              repeat still_step
              refine wpStill_sliceP rfl (.tmp 58) (.tmp 59) (by rfl) g2 o2 (m + 1) k2 (j + 1) ?zfc ?fc1 ?fc2 ?fc3 ?fc4 ?fc5
              case fc1 => rfl
              case zfc => exact ((j : Int) + 1)
              case fc2 => rfl
              case fc3 => exact HZ2.out
              case fc4 => exact Nat.le_succ_of_le hi
              intro d2 hd2
              have HD2 := Lib.hid (hd2 (Nat.lt_of_lt_of_le (Nat.lt_succ_of_le hi) hk2))
              clear hd2
              refine wpStill_nil ?_
              change wpList _ _ _ _ _ (World.drew _)
              refine wpList_copy_shift rfl _ _ (by rfl) Tryd.underlying25 (by rw [hi0]; simp [hz1]) HR3.out (by rfl) (by rfl) (i := j + 1) (by rw [← HMM.out]; omega) (fun h => by rw [HD1.out (by rw [← HMM.out] at h; omega)]) HD2.out (by rw [← HMM.out]; try omega) (by rw [← HMM.out]) ?_
              intro w3 hr3 hs3
              have HR4 := Lib.hid hr3
              have HS3 := Lib.hid hs3
              clear hr3 hs3
              have hl4 : (L.take (j + 1) ++ ((L ++ [(0, 0)]).getD (j + 1) (0, 0)) :: L.drop (j + 1)).length = L.length + 1 := by have := HMM.out; rw [List.length_append, List.length_cons, List.length_take, List.length_drop]; omega
              have hla : (L.take (j + 1)).length = j + 1 := by rw [List.length_take, Nat.min_eq_left (by rw [← HMM.out]; omega)]
              have hat := PRow.at (show PRow 45 w3 (.slice (some ⟨g2, o2, none⟩) (L.take (j + 1) ++ ((L ++ [(0, 0)]).getD (j + 1) (0, 0)) :: L.drop (j + 1)).length k2) _ by rw [hl4]; exact HR4.out) (i := j + 1) (by rw [hl4, ← HMM.out]; omega)
              have c3 := hat.1
              have c4 := hat.2
              have z3 := PRow.free HR4.out (o2 + (j + 1) * 2)
              have z4 := PRow.free HR4.out (o2 + (j + 1) * 2 + 1)
              have HPS := Lib.hid (PRow.setAt HR4.out x y)
              rw [hla] at HPS
              clear hat hl4 hla
              try simp only [Nat.zero_mul, Nat.add_zero] at c3 c4 z3 z4
              have HV : Hid (∀ q, q = g2 → (Value.slice (some ⟨g, off, none⟩) L.length oc).ownBlock = some q ∨ wr.heap.size ≤ q) := Lib.hid (fun q hq => by
                subst hq
                rcases HO2.out q rfl with h | h
                · exact .inl (by rw [← HMM.out]; exact h)
                · right
                  have hz : (wr.alloc (.cells #[.int .i64 0, .int .i64 0] 45)).heap.size = wr.heap.size + 1 := by simp
                  omega)
              have H4 := Lib.hid (HS.out.put H1.out.2.1 HX.out H1.out.2.2.1 H1.out.2.2.2.2 HB.out (v' := .slice (some ⟨g2, o2, none⟩) (m + 1) k2) (L' := L.take (j + 1) ++ (x, f x) :: L.drop (j + 1)) (by rw [← HY.out, HMM.out]; exact HPS.out.1) (ins_perm L _ (j + 1)) (((((Sav.of_gr ((Gr.refl wr).alloc _)).then (Sav.of_grown HG2.out fun q e => .inl (by rw [← HMM.out]; exact e))).then (Sav.of_gr (Gr.refl w2).drew)).then (HS3.out.mono HV.out)).then (HPS.out.2.mono HV.out)) (fun g hg => HV.out g (Option.some.inj hg).symm))
              have HIO := Lib.hid (ins_ord (p := (x, y)) HO.out HI.out.1 (fun q hq e => by have h8 := (HS.out.mem q hq).2.2; rw [e] at h8; rw [show left x = true from H1.out.2.1] at h8; cases h8) HI.out.2 HST.out)
              clear HV
              go_wp2
              refine ⟨⟨L.take (j + 1) ++ (x, f x) :: L.drop (j + 1), _, _, H4, Lib.hid (by rw [← HY.out]; exact HIO.out)⟩, ?_⟩
              rw [HS.out.mp.left_eq]
              exact Nat.lt_of_le_of_lt (Nat.le_of_eq H4.out.mp.left_eq) H1.out.2.2.2.1
end Go.Proofs.YtcfajegdlaeekaaDoor

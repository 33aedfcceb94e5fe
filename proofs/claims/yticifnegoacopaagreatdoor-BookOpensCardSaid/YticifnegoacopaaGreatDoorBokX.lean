/-
  The reference's Names. (Printed by genbokx.py.)
-/
import Derived.Test.YticifnegoacopaaGreatDoorBokK
import Derived.StillTailTactics
namespace Go.Proofs.YticifnegoacopaaGreatDoor
open Go Go.RowKit

theorem insAt_le (N : List ByteArray) (x : ByteArray) : insAt N x ≤ N.length := by
  unfold insAt
  exact List.Sublist.length_le (List.takeWhile_sublist _)
theorem insAt_lt {N : List ByteArray} {x : ByteArray} {j : Nat} (h : j < insAt N x) (hj : j < N.length) : less (N[j]'hj) x = true := by
  obtain ⟨ht, hd, hall⟩ := tw_facts (fun a => less a x) N
  have hm : N[j]'hj ∈ N.takeWhile fun a => less a x := by
    rw [← ht, List.mem_iff_getElem]
    exact ⟨j, by rw [List.length_take]; exact Nat.lt_min.2 ⟨h, hj⟩, by rw [List.getElem_take]⟩
  exact hall _ hm
theorem insAt_end {N : List ByteArray} {x : ByteArray} (hj : insAt N x < N.length) : less (N[insAt N x]'hj) x = false := by
  obtain ⟨ht, hd, hall⟩ := tw_facts (fun a => less a x) N
  have h1 := List.head?_dropWhile_not (fun a => less a x) N
  rw [← hd] at h1
  have h2 : (N.drop (insAt N x)).head? = some (N[insAt N x]'hj) := by rw [List.head?_drop, List.getElem?_eq_getElem hj]
  have h3 : (N.drop (N.takeWhile fun a => less a x).length).head? = some (N[insAt N x]'hj) := h2
  rw [h3] at h1
  exact h1
theorem insN_len (N : List ByteArray) (x : ByteArray) : (insN N x).length ≤ N.length + 1 := by
  unfold insN
  split
  · omega
  · have := insAt_le N x
    simp
    omega
theorem namesOf_len (L : List Ent) : (namesOf L).length ≤ L.length := by
  suffices h : ∀ N : List ByteArray, (L.foldl (fun N e => insN N e.1) N).length ≤ N.length + L.length by simpa [namesOf] using h []
  induction L with
  | nil => intro N; simp
  | cons e L ih =>
    intro N
    have h1 := ih (insN N e.1)
    have h2 := insN_len N e.1
    simp only [List.foldl_cons, List.length_cons]
    omega
theorem insN_has {N : List ByteArray} {x : ByteArray} (hj : insAt N x < N.length) (h : N[insAt N x]'hj = x) : insN N x = N := by
  unfold insN
  rw [if_pos (by rw [List.getElem?_eq_getElem hj, h])]
theorem insN_new {N : List ByteArray} {x : ByteArray} (h : ∀ hj : insAt N x < N.length, N[insAt N x]'hj ≠ x) : insN N x = N.take (insAt N x) ++ x :: N.drop (insAt N x) := by
  unfold insN
  rw [if_neg fun e => ?_]
  obtain ⟨hj, e2⟩ := List.getElem?_eq_some_iff.1 e
  exact h hj e2
theorem less_bytes (a b : ByteArray) : Op.bytesLess a.toList b.toList = less a b := by unfold less; rw [Lib.toList_data, Lib.toList_data]
/-- So far: the row of names, no cell of the caller's touched. -/
structure NRow (w wr : World) (v : Value) (N : List ByteArray) : Prop where
  row : StrRow wr v N
  gr : Gr w wr
  age : ∀ g, v.ownBlock = some g → w.heap.size ≤ g
theorem NRow.nil (w : World) : NRow w w (.slice none 0 0) [] := ⟨StrRow.nil w, Gr.refl w, fun g hg => by simp [Value.ownBlock] at hg⟩
theorem NRow.on {w wr u : World} {v : Value} {N : List ByteArray} (h : NRow w wr v N) (g : Gr wr u) : NRow w u v N := ⟨h.row.gr g, h.gr.trans g, h.age⟩

theorem NRow.next {w u w6 : World} {v v' : Value} {N M : List ByteArray} (h : NRow w u v N) (hr : StrRow w6 v' M) (hg : u.grownBy w6 v.ownBlock) (hb : ∀ q, v'.ownBlock = some q → v.ownBlock = some q ∨ u.heap.size ≤ q) : NRow w w6 v' M :=
  ⟨hr, gr_grown hg h.gr h.age, fun g hg => by
    rcases hb g hg with h1 | h1
    · exact h.age g h1
    · exact Nat.le_trans h.gr.size h1⟩
theorem NRow.turn {w w6 w7 : World} {g off n c : Nat} {N M : List ByteArray} (h : NRow w w6 (.slice (some ⟨g, off, none⟩) n c) N) (hr : StrRow w7 (.slice (some ⟨g, off, none⟩) n c) M) (hs : Sav (fun q => q = g) w6 w7) : NRow w w7 (.slice (some ⟨g, off, none⟩) n c) M :=
  ⟨hr, hs.gr h.gr (fun q e => by subst e; exact h.age q rfl), h.age⟩
set_option maxRecDepth 100000 in
set_option maxHeartbeats 16000000 in
/-- The reference's Names. -/
theorem rnames_any {w : World} {n0 r : Nat} {L : List Ent} (h : RBok w n0 r L) : Calls Tryz.prog 17 #[.pointer (some ⟨r, 0, none⟩)] w fun e w' => ∃ v, e = .returned v ∧ StrRow w' v (namesOf L) ∧ Gr w w' := by
  obtain ⟨v, h⟩ := h
  obtain ⟨va, vc, rfl⟩ := h.shape
  have c0 := h.c0
  have H0 := Lib.hid h
  obtain ⟨m, hm⟩ : ∃ m, m = L.length := ⟨_, rfl⟩
  have HM := Lib.hid hm
  rw [← hm] at c0
  have hm5 : m ≤ 500 := by rw [hm]; exact h.ok.1
  have m0 : (0 : Int) ≤ (m : Int) := by omega
  clear hm h
  have HG0 := Lib.hid (NRow.nil w)
  go_enter Tryz.func17, Tryz.ntmps17
  go_wp2
  go_loopw [3, 12] (fun s3 s12 wr => ∃ i : Nat, i ≤ m ∧ s12 = .int .i64 (i : Int) ∧ Hid (NRow w wr s3 (namesOf (L.take i)))) (fun _ s _ => m - (intOf s).toNat)
  case atStart => exact ⟨0, Nat.zero_le _, rfl, HG0⟩
  case round =>
    clear HG0
    obtain ⟨i, hi, rfl, HR⟩ := hrel
    by_cases hlt : i < m
    · have hil : i < L.length := by rw [← HM.out]; exact hlt
      obtain ⟨g, off, cap, e, hgl, k0, k1⟩ := ent_at (Row.gr H0.out.row HR.out.gr) hil
      obtain ⟨e1, _, e3⟩ := Value.slice.inj e
      subst e1 e3
      have HNX : Hid (namesOf (L.take (i + 1)) = insN (namesOf (L.take i)) (L[i]'hil).1) := Lib.hid (by rw [take_one hil, namesOf_snoc])
      have HLN : Hid ((namesOf (L.take i)).length ≤ i) := Lib.hid (Nat.le_trans (namesOf_len _) (by rw [List.length_take]; omega))
      have i0 : (0 : Int) ≤ (i : Int) := by omega
      have i1 : (i : Int) < (m : Int) := by omega
      clear c0 e
      generalize L[i]'hil = q at *
      obtain ⟨x, qn⟩ := q
      dsimp only at k0 k1 HNX
      obtain ⟨N2, hN2⟩ : ∃ N2, N2 = namesOf (L.take (i + 1)) := ⟨_, rfl⟩
      have HN2 := Lib.hid hN2
      rw [← hN2] at HNX
      clear hN2
      generalize namesOf (L.take i) = N at *
      obtain ⟨oa, oc, rfl⟩ := Row.shape HR.out.row
      obtain ⟨l, hl⟩ : ∃ l, l = N.length := ⟨_, rfl⟩
      have HL := Lib.hid hl
      rw [← hl] at HR HLN ⊢
      have hl5 : l ≤ 500 := by have := HLN.out; omega
      have l0 : (0 : Int) ≤ (l : Int) := by omega
      clear hl
      have HKL := Lib.hid (insAt_le N x)
      obtain ⟨k, hk⟩ : ∃ k, k = insAt N x := ⟨_, rfl⟩
      have HK := Lib.hid hk
      rw [← hk] at HKL
      clear hk
      obtain ⟨wo, hwo⟩ : ∃ u, u = wr.alloc (.cells #[.string x, .int .i64 qn] 61) := ⟨_, rfl⟩
      have HWO := Lib.hid hwo
      have HGO : Hid (Gr wr wo) := Lib.hid (by rw [hwo]; exact (Gr.refl wr).alloc _)
      obtain ⟨bx, hbx⟩ : ∃ b, b = wr.heap.size := ⟨_, rfl⟩
      have HBX := Lib.hid hbx
      have HCX : Hid (wo.cell? ⟨bx, 0, none⟩ = some (.string x)) := Lib.hid (by rw [hwo, hbx]; simp)
      have HNE : Hid (∀ g, (Value.slice oa l oc).ownBlock = some g → g ≠ bx) := Lib.hid (fun g hg e => by have h1 := Row.lt HR.out.row hg; rw [← hbx] at h1; omega)
      clear hwo hbx
      go_wp2
      rw [← HWO.out, ← HBX.out]
      clear HWO
      go_loopw [6] (fun s6 wr2 => ∃ j : Nat, j ≤ k ∧ s6 = .int .i64 (j : Int) ∧ Hid (Gr wo wr2)) (fun s _ => k - (intOf s).toNat)
      case atStart => exact ⟨0, Nat.zero_le _, rfl, Lib.hid (Gr.refl wo)⟩
      case round =>
        obtain ⟨j, hj, rfl, HG2⟩ := hrel
        have k2 := HG2.out.cell HCX.out
        have HR2 := Lib.hid (HR.out.on (HGO.out.trans HG2.out))
        have j0 : (0 : Int) ≤ (j : Int) := by omega
        by_cases hjk : j < k
        · have hjl : j < N.length := Nat.lt_of_lt_of_le hjk HKL.out
          obtain ⟨g2, o2, c2, e, hg2, hcap, kj⟩ := HR2.out.row.at hjl
          obtain ⟨e1, _, e3⟩ := Value.slice.inj e
          subst e1 e3
          have hls := insAt_lt (by rw [← HK.out]; exact hjk) hjl
          rw [← less_bytes] at hls
          have j1 : (j : Int) < (l : Int) := by have := HL.out; omega
          generalize N[j]'hjl = y at *
          clear e hcap
          go_wp2
          go_quiet (fail)
          go_wp2
          go_roundw
          case rel => exact ⟨j + 1, by omega, by go_num, Lib.hid (HG2.out.drewN _)⟩
          case measure => simp [intOf]; omega
        · obtain rfl : j = k := by omega
          by_cases hkl0 : j = l
          · subst hkl0
            go_wp2
            go_quiet (fail)
            go_wp2
            go_quiet (fail)
            go_upto_region 10 with (at_builtin; go_loud (refine wpList_append_strR rfl _ _ _ (by rfl) (by rfl) (.slice oa j oc) N ⟨#[]⟩ (by rfl) (StrRow.gr HR2.out.row (by repeat first | exact Gr.refl _ | refine Gr.drewN ?_ _ | refine Gr.drew ?_ | refine Gr.alloc ?_ _)) ⟨wr.heap.size, 0, none⟩ 1 (by rfl) ((alloc_cell _ _ rfl).trans rfl) (by have := HL.out; omega) ?_; intro v' w6 hrow hgr hblk; have H6 := Lib.hid (NRow.next (HR2.out.on (by repeat first | exact Gr.refl _ | refine Gr.drewN ?_ _ | refine Gr.drew ?_ | refine Gr.alloc ?_ _)) hrow hgr hblk); have HK6 := Lib.hid ((World.cell?_of_block (a := ⟨bx, 0, none⟩) (hgr.block bx (Nat.lt_of_lt_of_le (cell_lt k2) (Gr.size (by repeat first | exact Gr.refl _ | refine Gr.drewN ?_ _ | refine Gr.drew ?_ | refine Gr.alloc ?_ _))) (fun e => HNE.out _ e.symm rfl))).trans ((show Gr wr _ from (by repeat first | exact Gr.refl _ | refine Gr.drewN ?_ _ | refine Gr.drew ?_ | refine Gr.alloc ?_ _)).cell k2)); obtain ⟨g3, o3, c3, hv3, hk3, hm3, _⟩ := Row.cells hrow (by rw [List.length_append]; exact Nat.succ_pos _); have HB3 := Lib.hid (show g3 ≠ bx from (hblk g3 (by rw [hv3]; rfl)).elim (fun h2 => HNE.out _ h2) (fun h2 => Nat.ne_of_gt (Nat.lt_of_lt_of_le (Nat.lt_of_lt_of_le (cell_lt k2) (Gr.size (by repeat first | exact Gr.refl _ | refine Gr.drewN ?_ _ | refine Gr.drew ?_ | refine Gr.alloc ?_ _))) h2))); subst hv3; clear hrow hgr hblk))
            have hlen : (N ++ [(⟨#[]⟩ : ByteArray)]).length = j + 1 := by rw [List.length_append, List.length_singleton, HL.out]
            rw [hlen] at H6 hk3
            rw [← HL.out]
            have HL3 := Lib.hid (And.intro hlen hk3)
            clear hlen hk3 hm3
            have HR3 : Hid (StrRow w6.drew (.slice (some ⟨g3, o3, none⟩) (N.length + 1) c3) (N ++ [⟨#[]⟩])) := Lib.hid (by rw [← HL.out]; exact StrRow.gr H6.out.row (Gr.refl w6).drew)
            have i2 : (0 : Int) ≤ (j : Int) := by omega
            have i3 : (j : Int) ≤ (j : Int) := by have := HKL.out; have := HL.out; omega
            have hwk : wrap64 ((j : Int) + 1) = (j : Int) + 1 := by unfold wrap64; omega
            have HZ1 : Hid (IntKind.i64.wrap ((j : Int) + 1) = ((j + 1 : Nat) : Int)) := Lib.hid (by rw [IntKind.wrap_i64]; omega)
            have hkl : j ≤ j := by omega
            go_still_tail 7, (by kernel_rfl)
            repeat still_step
            refine wpStill_sliceS rfl (.tmp 47) (.tmp 49) (by rfl) g3 o3 (j + 1) c3 (j + 1) ?zeap ?ea1p ?ea2p ?ea3p ?ea4p ?ea5p
            case ea1p => rfl
            case zeap => exact (IntKind.i64.wrap ((j : Int) + 1))
            case ea2p => rfl
            case ea3p => exact HZ1.out
            case ea4p => exact Nat.succ_le_succ hkl
            intro d1 hd1
            have HD1 := Lib.hid hd1
            clear hd1
            repeat still_step
            refine wpStill_sliceS rfl (.tmp 51) (.tmp 52) (by rfl) g3 o3 (j + 1) c3 j ?zfap ?fa1p ?fa2p ?fa3p ?fa4p ?fa5p
            case fa1p => rfl
            case zfap => exact (j : Int)
            case fa2p => rfl
            case fa3p => rfl
            case fa4p => exact Nat.le_succ_of_le hkl
            intro d2 hd2
            have HD2 := Lib.hid (hd2 (Nat.lt_of_lt_of_le (Nat.lt_succ_of_le hkl) HL3.out.2))
            clear hd2
            refine wpStill_nil ?_
            change wpList _ _ _ _ _ (World.drew _)
            refine wpList_copy_shiftS rfl _ _ (by rfl) Tryz.underlying22 HR3.out (by rfl) (by rfl) (i := j) (by rw [← HL.out]; exact hkl) (fun h => by rw [HD1.out (by have := HL3.out.2; rw [← HL.out] at h; omega)]) HD2.out (by rw [← HL.out]; try omega) (by rw [← HL.out]) ?_
            intro w7 hr7 hs7
            have HR7 := Lib.hid hr7
            have HS7 := Lib.hid hs7
            clear hr7 hs7
            have hla : (N.take j).length = j := by rw [List.length_take, Nat.min_eq_left (by rw [← HL.out]; exact hkl)]
            have hl7 : (N.take j ++ (N ++ [(⟨#[]⟩ : ByteArray)]).getD j ⟨#[]⟩ :: N.drop j).length = j + 1 := by rw [List.length_append, List.length_cons, List.length_take, List.length_drop, ← HL.out]; omega
            obtain ⟨g9, o9, c9, e9, _, _, k7⟩ := StrRow.at HR7.out (i := j) (by rw [hl7]; omega)
            obtain ⟨e91, _, e93⟩ := Value.slice.inj e9
            cases e91
            subst e93
            obtain ⟨y7, k7b⟩ : ∃ y7 : ByteArray, w7.cell? ⟨g3, o3 + j, none⟩ = some (.string y7) := ⟨_, k7⟩
            clear k7
            have z7 := StrRow.free HR7.out (o3 + j)
            have HPS := Lib.hid (StrRow.setAt HR7.out x)
            rw [hla] at HPS
            have k8 := HS7.out.cell (p := ⟨bx, 0, none⟩) (show w6.drew.cell? ⟨bx, 0, none⟩ = some (.string x) from HK6.out) (fun e => HB3.out e.symm)
            have H8 : Hid (NRow w (w7.setCell ⟨g3, o3 + j, none⟩ (.string x)) (.slice (some ⟨g3, o3, none⟩) (j + 1) c3) (N.take j ++ x :: N.drop j)) := Lib.hid (by
              have h1 := H6.out.on (Gr.refl w6).drew
              have h2 := h1.turn (M := N.take j ++ x :: N.drop j) (w7 := w7.setCell ⟨g3, o3 + j, none⟩ (.string x)) (by have := HPS.out.1; rw [← HL.out] at this; exact this) (HS7.out.then HPS.out.2)
              exact h2)
            have HIN := Lib.hid (insN_new (N := N) (x := x) (fun h => absurd h (by rw [← HK.out, HL.out]; exact Nat.lt_irrefl _)))
            rw [← HK.out] at HIN
            have n0k : (0 : Int) ≤ (j : Int) := i2
            have n1k : (j : Int) < ((j + 1 : Nat) : Int) := by omega
            clear e9 hla hl7 hwk
            go_wp2
            go_roundw
            case rel => exact ⟨i + 1, by omega, by go_num, by rw [← HN2.out, HNX.out, HIN.out]; exact H8⟩
            case measure => simp [intOf]; omega
          · have hjl : j < N.length := by have := HKL.out; have := HL.out; omega
            obtain ⟨g2, o2, c2, e, hg2, hcap, kj⟩ := HR2.out.row.at hjl
            obtain ⟨e1, e2, e3⟩ := Value.slice.inj e
            clear e2
            subst e1 e3
            have HEND := insAt_end (N := N) (x := x) (by rw [← HK.out]; exact hjl)
            have HNY : Hid (∀ y, y = N[j]'hjl → less y x = false ∧ (y = x → insN N x = N) ∧ (¬ y = x → insN N x = N.take j ++ x :: N.drop j)) := Lib.hid (fun y hy => by
              subst hy
              refine ⟨?_, fun h => ?_, fun h => ?_⟩
              · simpa only [← HK.out] using HEND
              · exact insN_has (by rw [← HK.out]; exact hjl) (by simpa only [← HK.out] using h)
              · have h2 := insN_new (N := N) (x := x) (fun h3 => by simpa only [← HK.out] using h)
                rw [← HK.out] at h2
                exact h2)
            obtain ⟨y, hy⟩ : ∃ y, y = N[j]'hjl := ⟨_, rfl⟩
            have HNY2 := Lib.hid (HNY.out y hy)
            rw [← hy] at kj
            have hls := HNY2.out.1
            rw [← less_bytes] at hls
            have j1 : (j : Int) < (l : Int) := by have := HL.out; omega
            clear hy e hcap HEND HNY
            have jne : ¬ (j : Int) = (l : Int) := by omega
            by_cases hyx : y = x
            · have HIN := Lib.hid (HNY2.out.2.1 hyx)
              clear HNY2
              subst hyx
              go_wp2
              go_quiet (fail)
              go_wp2
              go_quiet (fail)
              go_wp2
              go_roundw
              case rel => exact ⟨i + 1, by omega, by go_num, by rw [← HN2.out, HNX.out, HIN.out]; first | exact HR2.out.on ((Gr.refl _).drewN _) | exact HR2.out.on (((Gr.refl _).drewN _).drewN _)⟩
              case measure => simp [intOf]; omega
            · have HINN := Lib.hid (HNY2.out.2.2 hyx)
              have hbq := beqS_no hyx
              clear HNY2
              go_wp2
              go_quiet (fail)
              go_wp2
              go_quiet (fail)
              go_upto_region 10 with (at_builtin; go_loud (refine wpList_append_strR rfl _ _ _ (by rfl) (by rfl) (.slice (some ⟨g2, o2, none⟩) l oc) N ⟨#[]⟩ (by rfl) (StrRow.gr HR2.out.row (by repeat first | exact Gr.refl _ | refine Gr.drewN ?_ _ | refine Gr.drew ?_ | refine Gr.alloc ?_ _)) ⟨wr.heap.size, 0, none⟩ 1 (by rfl) ((alloc_cell _ _ rfl).trans rfl) (by have := HL.out; omega) ?_; intro v' w6 hrow hgr hblk; have H6 := Lib.hid (NRow.next (HR2.out.on (by repeat first | exact Gr.refl _ | refine Gr.drewN ?_ _ | refine Gr.drew ?_ | refine Gr.alloc ?_ _)) hrow hgr hblk); have HK6 := Lib.hid ((World.cell?_of_block (a := ⟨bx, 0, none⟩) (hgr.block bx (Nat.lt_of_lt_of_le (cell_lt k2) (Gr.size (by repeat first | exact Gr.refl _ | refine Gr.drewN ?_ _ | refine Gr.drew ?_ | refine Gr.alloc ?_ _))) (fun e => HNE.out _ e.symm rfl))).trans ((show Gr wr _ from (by repeat first | exact Gr.refl _ | refine Gr.drewN ?_ _ | refine Gr.drew ?_ | refine Gr.alloc ?_ _)).cell k2)); obtain ⟨g3, o3, c3, hv3, hk3, hm3, _⟩ := Row.cells hrow (by rw [List.length_append]; exact Nat.succ_pos _); have HB3 := Lib.hid (show g3 ≠ bx from (hblk g3 (by rw [hv3]; rfl)).elim (fun h2 => HNE.out _ h2) (fun h2 => Nat.ne_of_gt (Nat.lt_of_lt_of_le (Nat.lt_of_lt_of_le (cell_lt k2) (Gr.size (by repeat first | exact Gr.refl _ | refine Gr.drewN ?_ _ | refine Gr.drew ?_ | refine Gr.alloc ?_ _))) h2))); subst hv3; clear hrow hgr hblk))
              clear hls hbq j1 jne hyx kj hg2 HR2 HNE
              have hlen : (N ++ [(⟨#[]⟩ : ByteArray)]).length = l + 1 := by rw [List.length_append, List.length_singleton, HL.out]
              rw [hlen] at H6 hk3
              rw [← HL.out]
              have HL3 := Lib.hid (And.intro hlen hk3)
              clear hlen hk3 hm3
              have HR3 : Hid (StrRow w6.drew (.slice (some ⟨g3, o3, none⟩) (N.length + 1) c3) (N ++ [⟨#[]⟩])) := Lib.hid (by rw [← HL.out]; exact StrRow.gr H6.out.row (Gr.refl w6).drew)
              have i2 : (0 : Int) ≤ (j : Int) := by omega
              have i3 : (j : Int) ≤ (l : Int) := by have := HKL.out; have := HL.out; omega
              have hwk : wrap64 ((j : Int) + 1) = (j : Int) + 1 := by unfold wrap64; omega
              have HZ1 : Hid (IntKind.i64.wrap ((j : Int) + 1) = ((j + 1 : Nat) : Int)) := Lib.hid (by rw [IntKind.wrap_i64]; omega)
              have hkl : j ≤ l := by omega
              go_still_tail 7, (by kernel_rfl)
              repeat still_step
              refine wpStill_sliceS rfl (.tmp 47) (.tmp 49) (by rfl) g3 o3 (l + 1) c3 (j + 1) ?zeaq ?ea1q ?ea2q ?ea3q ?ea4q ?ea5q
              case ea1q => rfl
              case zeaq => exact (IntKind.i64.wrap ((j : Int) + 1))
              case ea2q => rfl
              case ea3q => exact HZ1.out
              case ea4q => exact Nat.succ_le_succ hkl
              intro d1 hd1
              have HD1 := Lib.hid hd1
              clear hd1
              repeat still_step
              refine wpStill_sliceS rfl (.tmp 51) (.tmp 52) (by rfl) g3 o3 (l + 1) c3 j ?zfaq ?fa1q ?fa2q ?fa3q ?fa4q ?fa5q
              case fa1q => rfl
              case zfaq => exact (j : Int)
              case fa2q => rfl
              case fa3q => rfl
              case fa4q => exact Nat.le_succ_of_le hkl
              intro d2 hd2
              have HD2 := Lib.hid (hd2 (Nat.lt_of_lt_of_le (Nat.lt_succ_of_le hkl) HL3.out.2))
              clear hd2
              refine wpStill_nil ?_
              change wpList _ _ _ _ _ (World.drew _)
              refine wpList_copy_shiftS rfl _ _ (by rfl) Tryz.underlying22 HR3.out (by rfl) (by rfl) (i := j) (by rw [← HL.out]; exact hkl) (fun h => by rw [HD1.out (by have := HL3.out.2; rw [← HL.out] at h; omega)]) HD2.out (by rw [← HL.out]; try omega) (by rw [← HL.out]) ?_
              intro w7 hr7 hs7
              have HR7 := Lib.hid hr7
              have HS7 := Lib.hid hs7
              clear hr7 hs7
              have hla : (N.take j).length = j := by rw [List.length_take, Nat.min_eq_left (by rw [← HL.out]; exact hkl)]
              have hl7 : (N.take j ++ (N ++ [(⟨#[]⟩ : ByteArray)]).getD j ⟨#[]⟩ :: N.drop j).length = l + 1 := by rw [List.length_append, List.length_cons, List.length_take, List.length_drop, ← HL.out]; omega
              obtain ⟨g9, o9, c9, e9, _, _, k7⟩ := StrRow.at HR7.out (i := j) (by rw [hl7]; omega)
              obtain ⟨e91, _, e93⟩ := Value.slice.inj e9
              cases e91
              subst e93
              obtain ⟨y7, k7b⟩ : ∃ y7 : ByteArray, w7.cell? ⟨g3, o3 + j, none⟩ = some (.string y7) := ⟨_, k7⟩
              clear k7
              have z7 := StrRow.free HR7.out (o3 + j)
              have HPS := Lib.hid (StrRow.setAt HR7.out x)
              rw [hla] at HPS
              have k8 := HS7.out.cell (p := ⟨bx, 0, none⟩) (show w6.drew.cell? ⟨bx, 0, none⟩ = some (.string x) from HK6.out) (fun e => HB3.out e.symm)
              have H8 : Hid (NRow w (w7.setCell ⟨g3, o3 + j, none⟩ (.string x)) (.slice (some ⟨g3, o3, none⟩) (l + 1) c3) (N.take j ++ x :: N.drop j)) := Lib.hid (by
                have h1 := H6.out.on (Gr.refl w6).drew
                have h2 := h1.turn (M := N.take j ++ x :: N.drop j) (w7 := w7.setCell ⟨g3, o3 + j, none⟩ (.string x)) (by have := HPS.out.1; rw [← HL.out] at this; exact this) (HS7.out.then HPS.out.2)
                exact h2)
              have HIN := HINN
              have n0k : (0 : Int) ≤ (j : Int) := i2
              have n1k : (j : Int) < ((l + 1 : Nat) : Int) := by omega
              clear e9 hla hl7 hwk
              go_wp2
              go_roundw
              case rel => exact ⟨i + 1, by omega, by go_num, by rw [← HN2.out, HNX.out, HIN.out]; exact H8⟩
              case measure => simp [intOf]; omega
    · obtain rfl : i = m := by omega
      have HE : Hid (namesOf (L.take i) = namesOf L) := Lib.hid (by rw [HM.out, List.take_length])
      go_wp2
      go_ret
      exact ⟨_, rfl, by rw [← HE.out]; exact HR.out.row, HR.out.gr⟩
end Go.Proofs.YticifnegoacopaaGreatDoor

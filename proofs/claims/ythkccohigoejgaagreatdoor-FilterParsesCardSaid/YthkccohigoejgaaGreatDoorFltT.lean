/-
  The program's test: what a field is held against, walked.
-/
import Derived.Test.YthkccohigoejgaaGreatDoorFltP
import Derived.BigGuardPart
namespace Go.Proofs.YthkccohigoejgaaGreatDoor
open Go Go.RowKit

theorem take_any {w0 w : World} {r m k : Nat} {L : List Tok} {e : Int} (h : Rd w0 w r m L k e) (s : ByteArray) :
    Calls Tryz.prog 21 #[.pointer (some ⟨r, 0, none⟩), .string s] w fun e' w' => ∃ (hb : Bool) (k' : Nat), e' = .returned (.bool hb) ∧ (isT s (L.drop k) = if hb then some (L.drop k') else none) ∧ (hb = false → k' = k) ∧ Rd w0 w' r m L k' e ∧ Sav (fun q => q = r) w w' := by
  cases hs : isT s (L.drop k) with
  | none =>
    refine (take_miss h s hs).mono ?_
    rintro e' w' ⟨rfl, hg⟩
    exact ⟨false, k, rfl, rfl, fun _ => rfl, h.gr' hg, Sav.of_gr hg⟩
  | some R =>
    refine (take_hit h s hs).mono ?_
    rintro e' w' ⟨rfl, rfl, hr, hsv⟩
    exact ⟨true, k + 1, rfl, rfl, fun e => (by cases e), hr, hsv⟩
theorem cut_g (s : ByteArray) (hs : s.size ≤ 2001) (w : World) (h : Env w) : Calls Tryz.prog 31 #[.string s, .string ⟨#[46, 46]⟩] w fun e w' => e = .returned (.tuple #[.string (cutA s), .string (cutB s), .bool (cutT s)]) ∧ ∃ n, w' = w.drewN n := by
  obtain ⟨m, hm⟩ := h.mx
  exact Tryz.strings_Cut s kDots m w (by omega) hm
theorem cutA_size (s : ByteArray) : (cutA s).size ≤ s.size := by
  unfold cutA Lib.cut
  split
  · show ((s.data.toList.take _).toArray).size ≤ s.data.size
    rw [List.size_toArray, List.length_take, Array.length_toList]
    exact Nat.min_le_right _ _
  · show (s.data.toList.toArray).size ≤ s.data.size
    rw [List.size_toArray, Array.length_toList]
    exact Nat.le_refl _
theorem cutB_size (s : ByteArray) : (cutB s).size ≤ s.size := by
  unfold cutB Lib.cut
  split
  · show ((s.data.toList.drop _).toArray).size ≤ s.data.size
    rw [List.size_toArray, List.length_drop, Array.length_toList]
    exact Nat.sub_le _ _
  · exact Nat.zero_le _
/-- A test is read. -/
theorem test_end {w0 w w1 wz : World} {r m d k : Nat} {L : List Tok} {e x : Int} {v : Value} {f : Flt} (s : Sav (fun q => q = r) w w1) (h : Rd w0 wz r m L k e) (g : Gr w1 wz) (hk : k < L.length) (hx : x = (k : Int) + 1) (hF : FltV (fun g => w.heap.size ≤ g) (d + 1) (wz.setCell ⟨r, 2, none⟩ (.int .i64 x)) v f) : PAns w0 w (wz.setCell ⟨r, 2, none⟩ (.int .i64 x)) r m (d + 1) L e (.returned (.tuple #[v, .nilIface])) (.ok f (L.drop (k + 1))) :=
  ⟨v, k + 1, rfl, rfl, h.move hk hx, hF, s.then ((Sav.of_gr g).then (Sav.set r 2 _))⟩
/-- A test as it is made. -/
def TC (w : World) (t : Nat) (i lo hi : Int) (h : Bool) : Prop := w.heap[t]? = some (.cells #[.int .i64 i, .int .i64 lo, .int .i64 hi, .bool h] 85 (0, 0))
section
variable {w w' : World} {t : Nat} {i lo hi : Int} {h : Bool}
theorem TC.new (w : World) (i lo hi : Int) (h : Bool) : TC (w.alloc (.cells #[.int .i64 i, .int .i64 lo, .int .i64 hi, .bool h] 85)) w.heap.size i lo hi h := heap_alloc_new w _
theorem TC.gr (k : TC w t i lo hi h) (g : Gr w w') : TC w' t i lo hi h := (g.block (Array.getElem?_eq_some_iff.1 k).1).trans k
theorem TC.c0 (k : TC w t i lo hi h) : w.cell? ⟨t, 0, none⟩ = some (.int .i64 i) := cell_of_row _ _ 0 _ _ _ k
theorem TC.c1 (k : TC w t i lo hi h) : w.cell? ⟨t, 1, none⟩ = some (.int .i64 lo) := cell_of_row _ _ 1 _ _ _ k
theorem TC.c2 (k : TC w t i lo hi h) : w.cell? ⟨t, 2, none⟩ = some (.int .i64 hi) := cell_of_row _ _ 2 _ _ _ k
theorem TC.c3 (k : TC w t i lo hi h) : w.cell? ⟨t, 3, none⟩ = some (.bool h) := cell_of_row _ _ 3 _ _ _ k
theorem TC.fz (k : TC w t i lo hi h) (j : Nat) : w.frozen? ⟨t, j, none⟩ = false := by
  unfold World.frozen?
  have : w.heap[t]? = _ := k
  simp [this]
theorem heap_set (k : TC w t i lo hi h) (j : Nat) (v : Value) : (w.setCell ⟨t, j, none⟩ v).heap[t]? = some (.cells (#[Value.int .i64 i, .int .i64 lo, .int .i64 hi, .bool h].set! j v) 85 (0, 0)) := by
  have e : w.heap[t]? = _ := k
  simp [World.setCell, Array.getElem?_modify, e]
theorem TC.s1 (k : TC w t i lo hi h) (x : Int) : TC (w.setCell ⟨t, 1, none⟩ (.int .i64 x)) t i x hi h := heap_set k 1 _
theorem TC.s2 (k : TC w t i lo hi h) (x : Int) : TC (w.setCell ⟨t, 2, none⟩ (.int .i64 x)) t i lo x h := heap_set k 2 _
end
set_option maxRecDepth 100000 in
set_option maxHeartbeats 4000000 in
theorem test_any {w0 w : World} {r m k : Nat} {L : List Tok} {e : Int} (h : Rd w0 w r m L k e) (HE : Env w0) (d i : Nat) (hi : i < 5) :
    Calls Tryz.prog 23 #[.pointer (some ⟨r, 0, none⟩), .int .i64 (i : Int)] w fun e' w' => PAns w0 w w' r m (d + 1) L e e' (pTest i (L.drop k)) := by
  have HR := Lib.hid h
  have HEN := Lib.hid HE
  clear h HE
  go_enter Tryz.func23, Tryz.ntmps23
  go_wp2_with (go_at_call 21; refine (take_any HR.out _).mono ?_; rintro e' w1 ⟨hb, k1, rfl, h1, h2, h3, h4⟩; have H1 := Lib.hid (And.intro h1 (And.intro h2 (And.intro h3 h4))); clear h1 h2 h3 h4)
  obtain ⟨t, ht⟩ : ∃ t, t = w1.heap.size := ⟨_, rfl⟩
  obtain ⟨w2, hw2⟩ : ∃ w2, w2 = w1.alloc (.cells #[.int .i64 (i : Int), .int .i64 0, .int .i64 0, .bool hb] 85) := ⟨_, rfl⟩
  have HTC : Hid (TC w2 t i 0 0 hb) := Lib.hid (by rw [hw2, ht]; exact TC.new _ _ _ _ _)
  have HG2 : Hid (Gr w1 w2) := Lib.hid (by rw [hw2]; exact (Gr.refl w1).alloc _)
  have HR2 := Lib.hid (H1.out.2.2.1.gr' HG2.out)
  have HPT : Hid (pTest i (L.drop k) = pHeld i hb (L.drop k1)) := Lib.hid (by
    unfold pTest
    have he : kHas = ⟨#[104, 97, 115]⟩ := rfl
    rw [he, H1.out.1]
    cases hb with
    | true => rfl
    | false => have := H1.out.2.1 rfl; subst this; rfl)
  have HTT : Hid (w1.heap.size ≤ t) := Lib.hid (by rw [ht]; exact Nat.le_refl _)
  rw [← ht, ← hw2]
  clear ht hw2
  have HL := Lib.hid HR2.out.hl
  have hkl := HR2.out.hk
  have k0 : (0 : Int) ≤ (k1 : Int) := by omega
  have k2 : (L.length : Int) ≤ 2001 := by have := HL.out; omega
  have hrt : r ≠ t := by have := HR2.out.rm; have := H1.out.2.2.1.ms; have := HTT.out; omega
  obtain ⟨a, ca, g0, hA⟩ := HR2.out.ws
  have g2 := HR2.out.c2
  by_cases hk : k1 < L.length
  · obtain ⟨b, o, rfl, hbr, hbm, hcell⟩ := hA (by omega)
    have x0 := hcell k1 hk
    have HMM := Lib.hid (HR2.out.mem hk)
    have HDR := Lib.hid (HR2.out.drop hk)
    clear hA hcell
    have HPL : Hid (placeOf e (L.drop k1) = (L.getD k1 tok0).2) := Lib.hid (by rw [HDR.out]; rfl)
    have k1' : (k1 : Int) < (L.length : Int) := by omega
    generalize hu : L.getD k1 tok0 = u at x0 HMM HDR HPL
    clear hu
    obtain ⟨u, up⟩ := u
    simp only at x0
    have HSA := Lib.hid (Nat.le_trans (cutA_size u) HMM.out)
    have HSB := Lib.hid (Nat.le_trans (cutB_size u) HMM.out)
    cases hT : cutT u with
    | false =>
      by_cases hcA : codeOf (cutA u) = 0
      · have HV := Lib.hid (numOf_in hcA)
        have HNV := Lib.hid (numV_at hcA)
        cases hb with
        | true =>
          have HP : Hid (pTest i (L.drop k) = .ok (.has i (numOf (cutA u))) (L.drop (k1 + 1))) := Lib.hid (by
            rw [HPT.out, HDR.out, pHeld_cons, if_neg (by simp [hT]), if_neg (by simp [hcA]), if_neg (by simp [hT]), if_pos rfl])
          go_quiet (fail)
          go_wp2
          go_quiet (first | (go_at_call 31; refine (cut_g u HMM.out _ (HEN.out.gr (HR2.out.gr.drewN _))).mono ?_; rintro e' w3 ⟨rfl, n3, rfl⟩; rw [World.drewN_drewN, Nat.add_assoc]; exact ⟨rfl, _, rfl⟩))
          go_wp2_with (first
            | (go_at_call 32; refine (number_any _ HSA.out _ (HEN.out.gr (HR2.out.gr.drewN _))).mono ?_; rintro e' w4 ⟨rfl, hg4⟩; have HG4 : Hid (Gr w2 w4) := Lib.hid (((Gr.refl w2).drewN _).trans hg4); clear hg4; have HT4 := Lib.hid (HTC.out.gr HG4.out); have HR4 := Lib.hid (HR2.out.gr' HG4.out); have p0 := HT4.out.c0; have p1 := HT4.out.c1; have p2 := HT4.out.c2; have p3 := HT4.out.c3; have f1 := HT4.out.fz 1; have f2 := HT4.out.fz 2; have q2 := HR4.out.c2; have s2 := HR4.out.fz; try rw [HNV.out]))
          exact bodyPost_ret (v := .tuple #[.iface 85 (.agg #[.int .i64 (i : Int), .int .i64 (numOf (cutA u)), .int .i64 (numOf (cutA u)), .bool true]), .nilIface]) (by simp [results, Tryz.results23, go_sem]) rfl (by rw [HP.out]; exact test_end H1.out.2.2.2 (H1.out.2.2.1.gr' (((HG2.out.trans HG4.out).setCell HTT.out _).setCell HTT.out _)) (((HG2.out.trans HG4.out).setCell HTT.out _).setCell HTT.out _) hk rfl ⟨rfl, hi, HV.out⟩)
        | false =>
          have HP : Hid (pTest i (L.drop k) = .ok (.test i (numOf (cutA u)) (numOf (cutA u))) (L.drop (k1 + 1))) := Lib.hid (by
            rw [HPT.out, HDR.out, pHeld_cons, if_neg (by simp [hT]), if_neg (by simp [hcA]), if_neg (by simp [hT]), if_neg (by decide)])
          go_quiet (fail)
          go_wp2
          go_quiet (first | (go_at_call 31; refine (cut_g u HMM.out _ (HEN.out.gr (HR2.out.gr.drewN _))).mono ?_; rintro e' w3 ⟨rfl, n3, rfl⟩; rw [World.drewN_drewN, Nat.add_assoc]; exact ⟨rfl, _, rfl⟩))
          go_wp2_with (first
            | (go_at_call 32; refine (number_any _ HSA.out _ (HEN.out.gr (HR2.out.gr.drewN _))).mono ?_; rintro e' w4 ⟨rfl, hg4⟩; have HG4 : Hid (Gr w2 w4) := Lib.hid (((Gr.refl w2).drewN _).trans hg4); clear hg4; have HT4 := Lib.hid (HTC.out.gr HG4.out); have HR4 := Lib.hid (HR2.out.gr' HG4.out); have p0 := HT4.out.c0; have p1 := HT4.out.c1; have p2 := HT4.out.c2; have p3 := HT4.out.c3; have f1 := HT4.out.fz 1; have f2 := HT4.out.fz 2; have q2 := HR4.out.c2; have s2 := HR4.out.fz; try rw [HNV.out]))
          exact bodyPost_ret (v := .tuple #[.iface 85 (.agg #[.int .i64 (i : Int), .int .i64 (numOf (cutA u)), .int .i64 (numOf (cutA u)), .bool false]), .nilIface]) (by simp [results, Tryz.results23, go_sem]) rfl (by rw [HP.out]; exact test_end H1.out.2.2.2 (H1.out.2.2.1.gr' (((HG2.out.trans HG4.out).setCell HTT.out _).setCell HTT.out _)) (((HG2.out.trans HG4.out).setCell HTT.out _).setCell HTT.out _) hk rfl ⟨rfl, hi, HV.out, HV.out⟩)
      · have HNV : Hid True := trivial
        have HP : Hid (pTest i (L.drop k) = .err (codeOf (cutA u)) (L.drop k1)) := Lib.hid (by
          rw [HPT.out, HDR.out, pHeld_cons, if_neg (by simp [hT]), if_pos hcA])
        go_quiet (fail)
        go_wp2
        go_quiet (first | (go_at_call 31; refine (cut_g u HMM.out _ (HEN.out.gr (HR2.out.gr.drewN _))).mono ?_; rintro e' w3 ⟨rfl, n3, rfl⟩; rw [World.drewN_drewN, Nat.add_assoc]; exact ⟨rfl, _, rfl⟩))
        go_wp2_with (first
          | (go_at_call 32; refine (number_any _ HSA.out _ (HEN.out.gr (HR2.out.gr.drewN _))).mono ?_; rintro e' w4 ⟨rfl, hg4⟩; have HG4 : Hid (Gr w2 w4) := Lib.hid (((Gr.refl w2).drewN _).trans hg4); clear hg4; have HT4 := Lib.hid (HTC.out.gr HG4.out); have HR4 := Lib.hid (HR2.out.gr' HG4.out); have p0 := HT4.out.c0; have p1 := HT4.out.c1; have p2 := HT4.out.c2; have p3 := HT4.out.c3; have f1 := HT4.out.fz 1; have f2 := HT4.out.fz 2; have q2 := HR4.out.c2; have s2 := HR4.out.fz; try rw [HNV.out])
          | (go_at_call 13; refine (fail_any (H1.out.2.2.1.gr' ((HG2.out.trans HG4.out).setCell HTT.out _)) _).mono ?_; rintro e' w9 ⟨z, bz, rfl, hz1, hz2, hz3⟩; have HF := Lib.hid (PAns.fail (w0 := w0) (m := m) (d := d + 1) (H1.out.2.2.2.then (Sav.of_gr ((HG2.out.trans HG4.out).setCell HTT.out _))) hz1 hz2 hz3); clear hz1 hz2 hz3))
        exact bodyPost_ret (v := .tuple #[.nilIface, z]) (by simp [results, Tryz.results23, go_sem]) rfl (by rw [HP.out]; exact HF.out)
    | true =>
      have y3 := HTC.out.c3
      cases hb with
      | true =>
        have HP : Hid (pTest i (L.drop k) = .err 3 (L.drop k1)) := Lib.hid (by
          rw [HPT.out, HDR.out, pHeld_cons, if_pos (by simp [hT])])
        go_quiet (fail)
        go_wp2
        go_quiet (first | (go_at_call 31; refine (cut_g u HMM.out _ (HEN.out.gr (HR2.out.gr.drewN _))).mono ?_; rintro e' w3 ⟨rfl, n3, rfl⟩; rw [World.drewN_drewN, Nat.add_assoc]; exact ⟨rfl, _, rfl⟩))
        go_wp2_with (first
          | (go_at_call 13; refine (fail_any (H1.out.2.2.1.gr' (HG2.out.drewN _)) _).mono ?_; rintro e' w9 ⟨z, bz, rfl, hz1, hz2, hz3⟩; have HF := Lib.hid (PAns.fail (w0 := w0) (m := m) (d := d + 1) (H1.out.2.2.2.then (Sav.of_gr (HG2.out.drewN _))) hz1 hz2 hz3); clear hz1 hz2 hz3))
        exact bodyPost_ret (v := .tuple #[.nilIface, z]) (by simp [results, Tryz.results23, go_sem]) rfl (by rw [HP.out]; exact HF.out)
      | false =>
        by_cases hcA : codeOf (cutA u) = 0
        · have HV := Lib.hid (numOf_in hcA)
          have HNV := Lib.hid (numV_at hcA)
          by_cases hcB : codeOf (cutB u) = 0
          · have HVB := Lib.hid (numOf_in hcB)
            have HNB := Lib.hid (numV_at hcB)
            by_cases hlt : numOf (cutB u) < numOf (cutA u)
            · skip
              have HP : Hid (pTest i (L.drop k) = .err 10 (L.drop k1)) := Lib.hid (by
                rw [HPT.out, HDR.out, pHeld_cons, if_neg (by simp [hT]), if_neg (by simp [hcA]), if_pos hT, if_neg (by simp [hcB]), if_pos hlt])
              go_quiet (fail)
              go_wp2
              go_quiet (first | (go_at_call 31; refine (cut_g u HMM.out _ (HEN.out.gr (HR2.out.gr.drewN _))).mono ?_; rintro e' w3 ⟨rfl, n3, rfl⟩; rw [World.drewN_drewN, Nat.add_assoc]; exact ⟨rfl, _, rfl⟩))
              go_wp2_with (first
                | (go_at_call 32; refine (number_any _ HSB.out _ (HEN.out.gr (((HR4.out.gr.setCell (Nat.le_trans H1.out.2.2.1.gr.size HTT.out) _).setCell (Nat.le_trans H1.out.2.2.1.gr.size HTT.out) _)))).mono ?_; rintro e' w5 ⟨rfl, hg5⟩; have HG5 : Hid (Gr w1 w5) := Lib.hid ((((HG2.out.trans HG4.out).setCell HTT.out _).setCell HTT.out _).trans hg5); have HT5 := Lib.hid (((HT4.out.s1 _).s2 _).gr hg5); clear hg5; have HR5 := Lib.hid (H1.out.2.2.1.gr' HG5.out); clear p0 p1 p2 p3 f1 f2 q2 s2; have p0 := HT5.out.c0; have p1 := HT5.out.c1; have p2 := HT5.out.c2; have p3 := HT5.out.c3; have f1 := HT5.out.fz 1; have f2 := HT5.out.fz 2; have q2 := HR5.out.c2; have s2 := HR5.out.fz; try rw [HNB.out])
                | (go_at_call 32; refine (number_any _ HSA.out _ (HEN.out.gr (HR2.out.gr.drewN _))).mono ?_; rintro e' w4 ⟨rfl, hg4⟩; have HG4 : Hid (Gr w2 w4) := Lib.hid (((Gr.refl w2).drewN _).trans hg4); clear hg4; have HT4 := Lib.hid (HTC.out.gr HG4.out); have HR4 := Lib.hid (HR2.out.gr' HG4.out); have p0 := HT4.out.c0; have p1 := HT4.out.c1; have p2 := HT4.out.c2; have p3 := HT4.out.c3; have f1 := HT4.out.fz 1; have f2 := HT4.out.fz 2; have q2 := HR4.out.c2; have s2 := HR4.out.fz; try rw [HNV.out])
                | (go_at_call 13; refine (fail_any (H1.out.2.2.1.gr' (HG5.out.setCell HTT.out _)) _).mono ?_; rintro e' w9 ⟨z, bz, rfl, hz1, hz2, hz3⟩; have HF := Lib.hid (PAns.fail (w0 := w0) (m := m) (d := d + 1) (H1.out.2.2.2.then (Sav.of_gr (HG5.out.setCell HTT.out _))) hz1 hz2 hz3); clear hz1 hz2 hz3))
              exact bodyPost_ret (v := .tuple #[.nilIface, z]) (by simp [results, Tryz.results23, go_sem]) rfl (by rw [HP.out]; exact HF.out)
            · skip
              have HP : Hid (pTest i (L.drop k) = .ok (.test i (numOf (cutA u)) (numOf (cutB u))) (L.drop (k1 + 1))) := Lib.hid (by
                rw [HPT.out, HDR.out, pHeld_cons, if_neg (by simp [hT]), if_neg (by simp [hcA]), if_pos hT, if_neg (by simp [hcB]), if_neg hlt])
              go_quiet (fail)
              go_wp2
              go_quiet (first | (go_at_call 31; refine (cut_g u HMM.out _ (HEN.out.gr (HR2.out.gr.drewN _))).mono ?_; rintro e' w3 ⟨rfl, n3, rfl⟩; rw [World.drewN_drewN, Nat.add_assoc]; exact ⟨rfl, _, rfl⟩))
              go_wp2_with (first
                | (go_at_call 32; refine (number_any _ HSB.out _ (HEN.out.gr (((HR4.out.gr.setCell (Nat.le_trans H1.out.2.2.1.gr.size HTT.out) _).setCell (Nat.le_trans H1.out.2.2.1.gr.size HTT.out) _)))).mono ?_; rintro e' w5 ⟨rfl, hg5⟩; have HG5 : Hid (Gr w1 w5) := Lib.hid ((((HG2.out.trans HG4.out).setCell HTT.out _).setCell HTT.out _).trans hg5); have HT5 := Lib.hid (((HT4.out.s1 _).s2 _).gr hg5); clear hg5; have HR5 := Lib.hid (H1.out.2.2.1.gr' HG5.out); clear p0 p1 p2 p3 f1 f2 q2 s2; have p0 := HT5.out.c0; have p1 := HT5.out.c1; have p2 := HT5.out.c2; have p3 := HT5.out.c3; have f1 := HT5.out.fz 1; have f2 := HT5.out.fz 2; have q2 := HR5.out.c2; have s2 := HR5.out.fz; try rw [HNB.out])
                | (go_at_call 32; refine (number_any _ HSA.out _ (HEN.out.gr (HR2.out.gr.drewN _))).mono ?_; rintro e' w4 ⟨rfl, hg4⟩; have HG4 : Hid (Gr w2 w4) := Lib.hid (((Gr.refl w2).drewN _).trans hg4); clear hg4; have HT4 := Lib.hid (HTC.out.gr HG4.out); have HR4 := Lib.hid (HR2.out.gr' HG4.out); have p0 := HT4.out.c0; have p1 := HT4.out.c1; have p2 := HT4.out.c2; have p3 := HT4.out.c3; have f1 := HT4.out.fz 1; have f2 := HT4.out.fz 2; have q2 := HR4.out.c2; have s2 := HR4.out.fz; try rw [HNV.out]))
              exact bodyPost_ret (v := .tuple #[.iface 85 (.agg #[.int .i64 (i : Int), .int .i64 (numOf (cutA u)), .int .i64 (numOf (cutB u)), .bool false]), .nilIface]) (by simp [results, Tryz.results23, go_sem]) rfl (by rw [HP.out]; exact test_end H1.out.2.2.2 (H1.out.2.2.1.gr' (HG5.out.setCell HTT.out _)) (HG5.out.setCell HTT.out _) hk rfl ⟨rfl, hi, HV.out, HVB.out⟩)
          · have HNB : Hid True := trivial
            have HP : Hid (pTest i (L.drop k) = .err (codeOf (cutB u)) (L.drop k1)) := Lib.hid (by
              rw [HPT.out, HDR.out, pHeld_cons, if_neg (by simp [hT]), if_neg (by simp [hcA]), if_pos hT, if_pos hcB])
            go_quiet (fail)
            go_wp2
            go_quiet (first | (go_at_call 31; refine (cut_g u HMM.out _ (HEN.out.gr (HR2.out.gr.drewN _))).mono ?_; rintro e' w3 ⟨rfl, n3, rfl⟩; rw [World.drewN_drewN, Nat.add_assoc]; exact ⟨rfl, _, rfl⟩))
            go_wp2_with (first
              | (go_at_call 32; refine (number_any _ HSB.out _ (HEN.out.gr (((HR4.out.gr.setCell (Nat.le_trans H1.out.2.2.1.gr.size HTT.out) _).setCell (Nat.le_trans H1.out.2.2.1.gr.size HTT.out) _)))).mono ?_; rintro e' w5 ⟨rfl, hg5⟩; have HG5 : Hid (Gr w1 w5) := Lib.hid ((((HG2.out.trans HG4.out).setCell HTT.out _).setCell HTT.out _).trans hg5); have HT5 := Lib.hid (((HT4.out.s1 _).s2 _).gr hg5); clear hg5; have HR5 := Lib.hid (H1.out.2.2.1.gr' HG5.out); clear p0 p1 p2 p3 f1 f2 q2 s2; have p0 := HT5.out.c0; have p1 := HT5.out.c1; have p2 := HT5.out.c2; have p3 := HT5.out.c3; have f1 := HT5.out.fz 1; have f2 := HT5.out.fz 2; have q2 := HR5.out.c2; have s2 := HR5.out.fz; try rw [HNB.out])
              | (go_at_call 32; refine (number_any _ HSA.out _ (HEN.out.gr (HR2.out.gr.drewN _))).mono ?_; rintro e' w4 ⟨rfl, hg4⟩; have HG4 : Hid (Gr w2 w4) := Lib.hid (((Gr.refl w2).drewN _).trans hg4); clear hg4; have HT4 := Lib.hid (HTC.out.gr HG4.out); have HR4 := Lib.hid (HR2.out.gr' HG4.out); have p0 := HT4.out.c0; have p1 := HT4.out.c1; have p2 := HT4.out.c2; have p3 := HT4.out.c3; have f1 := HT4.out.fz 1; have f2 := HT4.out.fz 2; have q2 := HR4.out.c2; have s2 := HR4.out.fz; try rw [HNV.out])
              | (go_at_call 13; refine (fail_any (H1.out.2.2.1.gr' (HG5.out.setCell HTT.out _)) _).mono ?_; rintro e' w9 ⟨z, bz, rfl, hz1, hz2, hz3⟩; have HF := Lib.hid (PAns.fail (w0 := w0) (m := m) (d := d + 1) (H1.out.2.2.2.then (Sav.of_gr (HG5.out.setCell HTT.out _))) hz1 hz2 hz3); clear hz1 hz2 hz3))
            exact bodyPost_ret (v := .tuple #[.nilIface, z]) (by simp [results, Tryz.results23, go_sem]) rfl (by rw [HP.out]; exact HF.out)
        · have HNV : Hid True := trivial
          have HP : Hid (pTest i (L.drop k) = .err (codeOf (cutA u)) (L.drop k1)) := Lib.hid (by
            rw [HPT.out, HDR.out, pHeld_cons, if_neg (by simp [hT]), if_pos hcA])
          go_quiet (fail)
          go_wp2
          go_quiet (first | (go_at_call 31; refine (cut_g u HMM.out _ (HEN.out.gr (HR2.out.gr.drewN _))).mono ?_; rintro e' w3 ⟨rfl, n3, rfl⟩; rw [World.drewN_drewN, Nat.add_assoc]; exact ⟨rfl, _, rfl⟩))
          go_wp2_with (first
            | (go_at_call 32; refine (number_any _ HSA.out _ (HEN.out.gr (HR2.out.gr.drewN _))).mono ?_; rintro e' w4 ⟨rfl, hg4⟩; have HG4 : Hid (Gr w2 w4) := Lib.hid (((Gr.refl w2).drewN _).trans hg4); clear hg4; have HT4 := Lib.hid (HTC.out.gr HG4.out); have HR4 := Lib.hid (HR2.out.gr' HG4.out); have p0 := HT4.out.c0; have p1 := HT4.out.c1; have p2 := HT4.out.c2; have p3 := HT4.out.c3; have f1 := HT4.out.fz 1; have f2 := HT4.out.fz 2; have q2 := HR4.out.c2; have s2 := HR4.out.fz; try rw [HNV.out])
            | (go_at_call 13; refine (fail_any (H1.out.2.2.1.gr' ((HG2.out.trans HG4.out).setCell HTT.out _)) _).mono ?_; rintro e' w9 ⟨z, bz, rfl, hz1, hz2, hz3⟩; have HF := Lib.hid (PAns.fail (w0 := w0) (m := m) (d := d + 1) (H1.out.2.2.2.then (Sav.of_gr ((HG2.out.trans HG4.out).setCell HTT.out _))) hz1 hz2 hz3); clear hz1 hz2 hz3))
          exact bodyPost_ret (v := .tuple #[.nilIface, z]) (by simp [results, Tryz.results23, go_sem]) rfl (by rw [HP.out]; exact HF.out)
  · obtain rfl : k1 = L.length := by omega
    have HP : Hid (pTest i (L.drop k) = .err 3 (L.drop L.length)) := Lib.hid (by rw [HPT.out, List.drop_length]; rfl)
    clear hA
    go_quiet (fail)
    go_wp2_with (first
      | (go_at_call 13; refine (fail_any (H1.out.2.2.1.gr' (HG2.out.drewN _)) _).mono ?_; rintro e' w9 ⟨z, bz, rfl, hz1, hz2, hz3⟩; have HF := Lib.hid (PAns.fail (w0 := w0) (m := m) (d := d + 1) (H1.out.2.2.2.then (Sav.of_gr (HG2.out.drewN _))) hz1 hz2 hz3); clear hz1 hz2 hz3))
    exact bodyPost_ret (v := .tuple #[.nilIface, z]) (by simp [results, Tryz.results23, go_sem]) rfl (by rw [HP.out]; exact HF.out)
end Go.Proofs.YthkccohigoejgaaGreatDoor

/-
  action.New, walked. (Printed by genacth.py.)
-/
import Derived.Test.YtjghgafeoimgiaaDoorActG
import Derived.Test.YtjghgafeoimgiaaDoorMapI
import Derived.Carry
namespace Go.Proofs.YtjghgafeoimgiaaDoor
open Go.RowKit Go.Maps

/-- m[k] = v in a map's literal, at the walk. -/
theorem wpList_ins_mapI {w : World} {ops : Array Oper} {rest : List Oper} {o : Oper} {a : Act} {Q : Exit → Act → World → Prop} (hg : o.guard = none) (m x y : Operand) (hop : o.op = Op.insert 73 m x y)
    (b n : Nat) (f : Int → Int) (g : Int → Bool) (hm : a.eval m = .map (some b)) (h : MapI w b n f g) (hn : n < 1000000) (k v : Int) (hx : a.eval x = .int .i64 k) (hy : a.eval y = .int .i64 v) (hk : Bd k) (hv : Bd v)
    (hK : ∀ w', MapI w' b (n + 1) (fI f k v) (fI g k true) → Sav (fun q => q = b) w w' → wpList Tryd.prog ops Q rest (a.put o.dst undef) w') :
    wpList Tryd.prog ops Q (o :: rest) a w := by
  refine wpList_plain hg fun K' hK' => ?_
  obtain ⟨w', hrun, r1, r2, r3⟩ := h.set hn hk hv
  unfold Oper.wp
  simp [execOp, hop, hm, hx, hy, hrun, Result.andThen]
  exact hK' _ _ (hK w' r1 r3)
/-- v, ok = m[k], at the walk. -/
theorem wpList_look2_mapI {w : World} {ops : Array Oper} {rest : List Oper} {o : Oper} {a : Act} {Q : Exit → Act → World → Prop} (hg : o.guard = none) (m x : Operand) (hop : o.op = Op.lookup 73 m x true)
    (b n : Nat) (f : Int → Int) (g : Int → Bool) (hm : a.eval m = .map (some b)) (h : MapI w b n f g) (k : Int) (hx : a.eval x = .int .i64 k) (hk : Bd k)
    (hK : wpList Tryd.prog ops Q rest (a.put o.dst (.tuple #[.int .i64 (f k), .bool (g k)])) w) :
    wpList Tryd.prog ops Q (o :: rest) a w := by
  obtain ⟨D, h1, h2, h3⟩ := h
  refine wpList_lookup_own_ok_int w hg m x _ hop _ _ _ int_key map_under int_under (int_zeroV w) b n D hm h1 _ _ hx (keyOf_int_mk int_under (lit_wf hk)) (fun c hc _ => ?_)
  rw [h2 k] at hc
  have e : f k = c := by
    have e1 := DataW.lit.inj hc
    exact (Lit.int.inj e1).2
  rw [← e, h3 k]
  exact hK
/-- The most that A may be, by kinds: the map. -/
def tF (n m : Int) : Int → Int := fI (fI (fI (fI (fI (fI (fI (fI (fun _ => 0) 3 255) 4 7) 5 15) 6 7) 7 n) 8 255) 9 (m - 1)) 10 10000
def tG : Int → Bool := fI (fI (fI (fI (fI (fI (fI (fI (fun _ => false) 3 true) 4 true) 5 true) 6 true) 7 true) 8 true) 9 true) 10 true
theorem tG_no {k : Int} (h : k < 3 ∨ 10 < k) : tG k = false := by
  have h3 : k ≠ 3 := by omega
  have h4 : k ≠ 4 := by omega
  have h5 : k ≠ 5 := by omega
  have h6 : k ≠ 6 := by omega
  have h7 : k ≠ 7 := by omega
  have h8 : k ≠ 8 := by omega
  have h9 : k ≠ 9 := by omega
  have h10 : k ≠ 10 := by omega
  simp [tG, fI, h3, h4, h5, h6, h7, h8, h9, h10]
theorem tG_yes {k : Int} (h0 : 3 ≤ k) (h1 : k ≤ 10) : tG k = true := by
  obtain rfl | rfl | rfl | rfl | rfl | rfl | rfl | rfl : k = 3 ∨ k = 4 ∨ k = 5 ∨ k = 6 ∨ k = 7 ∨ k = 8 ∨ k = 9 ∨ k = 10 := by omega
  all_goals rfl
theorem tF_yes {k : Int} (n m : Nat) (h0 : 3 ≤ k) (h1 : k ≤ 10) : tF n m k = topA n m k := by
  obtain rfl | rfl | rfl | rfl | rfl | rfl | rfl | rfl : k = 3 ∨ k = 4 ∨ k = 5 ∨ k = 6 ∨ k = 7 ∨ k = 8 ∨ k = 9 ∨ k = 10 := by omega
  all_goals rfl
section
variable {S : BKind} {E : TypeId} {w wr w1 w2 : World} {pp n j : Nat} {lv bv v' : Value} {F : Nat → Nat → Int} {Bk : Nat → Bkt} {bp : Nat → Nat}
theorem NMid.first {a : Option Addr} {l c : Nat} {T : TypeId} (g : Gr w wr) (hr : Recs 3 wr (.slice a l c) n F) (hlo : ∀ g, (Value.slice a l c).ownBlock = some g → g < wr.heap.size) :
    NMid S E w (wr.alloc (.cells #[.slice a l c, .slice none 0 0, .int .i64 0, .int .i64 0, .int .i64 0, .int .i64 0, .int .i64 0, .int .i64 0, .int .i64 0, .int .i64 0] T)) wr.heap.size (.slice a l c) (.slice none 0 0) n 0 F Bk bp := by
  refine ⟨⟨by simp, by simp, fun i hi => ?_, fun i hi => by simp, hr.gr ((Gr.refl _).alloc _), Row.nil _ _ _ _, fun i hi => absurd hi (by omega), fun i j hi => absurd hi (by omega), fun i hi => absurd hi (by omega), fun k hk e => ?_, fun k hk => by simp [Value.ownBlock] at hk⟩, by simp, g.alloc _, g.size, fun i hi => absurd hi (by omega), fun k hk => by simp [Value.ownBlock] at hk, fun k hk => ⟨by have := hlo k hk; simp; omega, by simp [Value.ownBlock]⟩⟩
  · match i, hi with
    | 0, _ => simp
    | 1, _ => simp
    | 2, _ => simp
    | 3, _ => simp
    | 4, _ => simp
    | 5, _ => simp
    | 6, _ => simp
    | 7, _ => simp
  · rcases e with e | ⟨i, hi, _⟩
    · have := hlo k hk; omega
    · omega
theorem NMid.spot (h : NMid S E w w1 pp lv bv n j F Bk bp) (hg : w1.grownBy w2 bv.ownBlock) : w2.cell? ⟨pp, 1, none⟩ = some bv ∧ w2.frozen? ⟨pp, 1, none⟩ = false := by
  have s2 : Sav (fun g => bv.ownBlock = some g) w1 w2 := .of_grown hg fun _ e => e
  have hpb : ¬ bv.ownBlock = some pp := fun e => h.prog.nb pp e (.inl rfl)
  exact ⟨s2.cell h.prog.c1 hpb, s2.frozen (p := ⟨pp, 1, none⟩) h.prog.lt h.f1 hpb⟩
end
theorem info_actE : (Tryd.prog.info? 28).map (fun i => (i.zero, i.size, i.bytes)) = some (some (.agg #[.int .i64 0, .int .i64 0, .int .i64 0]), 3, 24) := by kernel_rfl
theorem info_stE : (Tryd.prog.info? 70).map (fun i => (i.zero, i.size, i.bytes)) = some (some (.pointer none), 1, 8) := by kernel_rfl
/-- What New tells. -/
def NewPost (F : Nat → Nat → Int) (n m : Nat) (G : Nat → Nat → Int) (w : World) (e : Ending) (w' : World) : Prop :=
  (newC F n m G ≠ 0 ∧ ∃ v, e = .returned (.tuple #[.pointer none, v]) ∧ ErrIs w' v (newC F n m G) (newP F n m G) ∧ Gr w w') ∨
  (newC F n m G = 0 ∧ ActsOk F n m ∧ (∀ i, i < m → bkC G i = 0) ∧ ∃ pp lv bv bp, e = .returned (.tuple #[.pointer (some ⟨pp, 0, none⟩), .nilIface]) ∧ NMid stP 70 w w' pp lv bv n m F (bkO G) bp ∧ ∃ a c, lv = .slice a n c)
theorem NewPost.bad {F : Nat → Nat → Int} {n m : Nat} {G : Nat → Nat → Int} {w w' : World} {v : Value} {c p : Int} (h : newC F n m G = c ∧ newP F n m G = p) (h0 : c ≠ 0) (hv : ErrIs w' v c p) (g : Gr w w') : NewPost F n m G w (.returned (.tuple #[.pointer none, v])) w' :=
  .inl ⟨by rw [h.1]; exact h0, v, rfl, by rw [h.1, h.2]; exact hv, g⟩
set_option maxRecDepth 100000 in
set_option maxHeartbeats 40000000 in
theorem new_any (la ba : Option Addr) (lc bc n m : Nat) (F G : Nat → Nat → Int) (w : World) (hx : Recs 3 w (.slice la n lc) n F) (hy : Recs 3 w (.slice ba m bc) m G) (hbd : ∀ i, i < m → ∀ j, j < 3 → Bd (G i j)) (hbf : ∀ i, i < n → Bd (F i 0)) :
    Calls Tryd.prog 6 #[.slice la n lc, .slice ba m bc] w (NewPost F n m G w) := by
  by_cases hnm : 50 < n ∨ 8 < m
  · have HNM := Lib.hid (new_many (F := F) (G := G) hnm)
    by_cases hn : 50 < n
    · have h1 : (50 : Int) < (n : Int) := by omega
      clear hx hy hbd hbf hnm
      go_enter Tryd.func6, Tryd.ntmps6
      go_wp2
      go_ret2
      exact NewPost.bad HNM.out (by decide) (.no _ _) (Gr.refl _)
    · have h1 : ¬ (50 : Int) < (n : Int) := by omega
      have h2 : (8 : Int) < (m : Int) := by omega
      clear hx hy hbd hbf hnm
      go_enter Tryd.func6, Tryd.ntmps6
      go_wp2
      go_ret2
      exact NewPost.bad HNM.out (by decide) (.no _ _) (Gr.refl _)
  · have HNM := Lib.hid hnm
    have h1 : ¬ (50 : Int) < (n : Int) := by omega
    have h2 : ¬ (8 : Int) < (m : Int) := by omega
    have HX := Lib.hid hx
    have HY := Lib.hid hy
    have HBD := Lib.hid hbd
    have HBF := Lib.hid hbf
    have HW1 := Lib.hid (show wrap64 ((m : Int) - 1) = (m : Int) - 1 from by unfold wrap64; omega)
    clear hx hy hbd hbf hnm
    obtain ⟨i0, hi0, hz0, hz1, hz2⟩ := info_parts info_actE
    obtain ⟨s0, hs0, hy0, hy1, hy2⟩ := info_parts info_stE
    have hmm := @run_makeMap Tryd.prog
    go_enter Tryd.func6, Tryd.ntmps6
    go_upto_region 4 with (at_builtin; refine wpList_append_recs rfl _ _ _ (by rfl) i0 (.agg #[.int .i64 0, .int .i64 0, .int .i64 0]) Tryd.underlying22 hi0 hz0 hz1 hz2 rfl ?c1 w.heap.size (by rfl) (Row.empty 28 3 isInt w) la lc (by rfl) (HX.out.gr ((Gr.refl w).alloc _)) (by have := HNM.out; omega) ?_; (case c1 => (intro u hu; simp [Value.cells] at hu; subst hu; exact ⟨_, rfl⟩)); intro v2 w2 hrow hgr hown; obtain ⟨a2, c2, rfl⟩ := Row.shape hrow; have HROW := Lib.hid hrow; have HG2 := Lib.hid (gr_grown hgr ((Gr.refl w).alloc _) (fun g hg => by simp at hg; omega)); clear hrow hgr hown)
    have HN0 := Lib.hid (NMid.first (S := stP) (E := 70) (T := 69) (Bk := bkO G) (bp := fun _ => 0) HG2.out (Recs.of_row HROW.out) (fun g hg => Row.lt HROW.out hg))
    obtain ⟨w3, hw3⟩ : ∃ u, u = w2.alloc (.cells #[.slice a2 n c2, .slice none 0 0, .int .i64 0, .int .i64 0, .int .i64 0, .int .i64 0, .int .i64 0, .int .i64 0, .int .i64 0, .int .i64 0] 69) := ⟨_, rfl⟩
    obtain ⟨pp, hpp⟩ : ∃ u, u = w2.heap.size := ⟨_, rfl⟩
    rw [← hw3, ← hpp] at HN0
    rw [← hw3, ← hpp]
    clear hw3 hpp HROW
    go_wp2
    go_loopw [33] (fun s wr => ∃ (j : Nat) (bv : Value) (bp : Nat → Nat), j ≤ m ∧ s = .int .i64 (j : Int) ∧ Hid (NMid stP 70 w wr pp (.slice a2 n c2) bv n j F (bkO G) bp) ∧ Hid (∀ i, i < j → bkC G i = 0)) (fun s _ => m - (intOf s).toNat)
    case atStart => exact ⟨0, _, _, by omega, rfl, HN0, Lib.hid (fun i hi => absurd hi (by omega))⟩
    case round =>
      obtain ⟨j, bv, bp, hj, rfl, HN, HB⟩ := hrel
      clear HN0
      by_cases hlt : j < m
      · have HJ := Lib.hid hlt
        have j0 : (0 : Int) ≤ (j : Int) := by omega
        have j1 : (j : Int) < (m : Int) := by omega
        have HWJ := Lib.hid (show wrap64 ((j : Int) + 1) = (j : Int) + 1 from by have := HNM.out; unfold wrap64; omega)
        obtain ⟨lb, lo, rfl, r0, r1, r2⟩ := (HY.out.gr HN.out.gr).read hlt
        by_cases hb : BIn (G j 0) (G j 1) (G j 2)
        · obtain ⟨e0, e1, e2⟩ := bkO_eq hb
          rw [e0] at r0
          rw [e1] at r1
          rw [e2] at r2
          have HB1 := Lib.hid (okTo_succ HB.out (show bkC G j = 0 from ckB_ok hb))
          clear e0 e1 e2 hb
          obtain ⟨ba2, bc2, rfl⟩ := Row.shape HN.out.prog.row
          go_upto_region 10 with (go_at_call 17; refine (bnew_ok (bkO G j) _).mono ?_; rintro e w4 ⟨p, rfl, hp, hs, hg⟩; have HP := Lib.hid hp; have HS := Lib.hid hs; have HG4 := Lib.hid (((Gr.refl wr).alloc _).trans hg); clear hp hs hg)
          clear r0 r1 r2
          have HN4 := Lib.hid ((HN.out.to HG4.out).to ((Gr.refl w4).alloc (.cells #[.pointer (some ⟨p, 0, none⟩)] 70)))
          have q1 := (HN.out.to HG4.out).prog.c1
          go_upto_region 11 with (at_builtin; refine wpList_append_row rfl _ _ _ (by rfl) s0 (.pointer none) 8 Tryd.underlying67 hs0 hy0 hy1 hy2 rfl ?c1 (by rfl) HN4.out.prog.row ⟨w4.heap.size, 0, none⟩ 1 (by rfl) [.pointer (some ⟨p, 0, none⟩)] rfl ?c2 ?c3 ?c4 (by have := HNM.out; omega) (by decide) ?_; (case c1 => (intro u hu; simp [Value.cells] at hu; subst hu; exact ⟨_, rfl⟩)); (case c2 => (intro i u hu; match i, hu with | 0, hu => simp at hu; subst hu; simp [Addr.add] | i + 1, hu => simp at hu)); (case c3 => (intro u hu; simp at hu; subst hu; rfl)); (case c4 => (intro u hu; simp at hu; subst hu; exact ⟨_, rfl⟩)); intro v5 w5 hrow hgr hown; obtain ⟨a5, c5, rfl⟩ := Row.shape hrow; obtain ⟨q2, q3⟩ := HN4.out.spot hgr; have HN9 := Lib.hid (HN4.out.to (Gr.refl _) |> fun h4 => NMid.more (w1 := w4.alloc (.cells #[.pointer (some ⟨p, 0, none⟩)] 70)) HN.out (by have h1 := HP.out; simp at h1; omega) (HG4.out.alloc _) (stP.keep HS.out (((Gr.refl w4).alloc _).block (stP.mine HS.out).lt) (.of_gr ((Gr.refl w4).alloc _))) hrow hgr hown); clear hrow hgr hown)
          clear q1 q2 q3
          go_wp2
          go_roundw
          case measure => simp [intOf]; omega
          case rel => exact ⟨j + 1, _, _, by omega, by go_num, HN9, HB1⟩
        · have HBN := Lib.hid (new_bucket (F := F) (n := n) HNM.out HB.out HJ.out hb)
          have HBC := Lib.hid (fun u => bnew_no (G j 0) (G j 1) (G j 2) u (HBD.out j HJ.out 0 (by omega)) (HBD.out j HJ.out 1 (by omega)) (HBD.out j HJ.out 2 (by omega)) hb)
          clear hb
          go_wp2_with (go_at_call 17; refine (HBC.out _).mono ?_; rintro e w4 ⟨rfl, hg⟩; have HG4 := Lib.hid (HN.out.gr.trans (((Gr.refl wr).alloc _).trans hg)); clear hg)
          go_ret2
          exact NewPost.bad HBN.out (by decide) (.no _ _) HG4.out
      · obtain rfl : j = m := by omega
        have j1 : ¬ (j : Int) < (j : Int) := by omega
        go_wp2
        go_loopw [58] (fun s wr => ∃ (i : Nat), i ≤ n ∧ s = .int .i64 (i : Int) ∧ Hid (NMid stP 70 w wr pp (.slice a2 n c2) bv n j F (bkO G) bp) ∧ Hid (∀ k, k < i → actC F n j k = 0)) (fun s _ => n - (intOf s).toNat)
        case atStart => exact ⟨0, by omega, rfl, HN, Lib.hid (fun i hi => absurd hi (by omega))⟩
        case round =>
          clear HN
          obtain ⟨i, hi, rfl, HN, HA⟩ := hrel
          by_cases hlt : i < n
          · have HI := Lib.hid hlt
            have k0 : (0 : Int) ≤ (i : Int) := by omega
            have k1 : (i : Int) < (n : Int) := by omega
            have HWI := Lib.hid (show wrap64 ((i : Int) + 1) = (i : Int) + 1 from by have := HNM.out; unfold wrap64; omega)
            obtain ⟨lb, lo, rfl, r0, r1, r2⟩ := (HX.out.gr HN.out.gr).read hlt
            have HBK := Lib.hid (HBF.out i hlt)
            obtain ⟨kd, hkd⟩ : ∃ kd, kd = F i 0 := ⟨_, rfl⟩
            obtain ⟨A, hAA⟩ : ∃ A, A = F i 1 := ⟨_, rfl⟩
            obtain ⟨B, hBB⟩ : ∃ B, B = F i 2 := ⟨_, rfl⟩
            rw [← hkd] at r0 HBK
            rw [← hAA] at r1
            rw [← hBB] at r2
            obtain ⟨tp, htp⟩ : ∃ tp, tp = topA n j kd := ⟨_, rfl⟩
            have HTP := Lib.hid htp
            have HAC := Lib.hid (show actC F n j i = if kd < 1 ∨ 10 < kd ∨ (kd ≤ 2 ∧ A ≠ 0) ∨ (kd ≤ 7 ∧ B ≠ 0) then 1 else if (2 < kd ∧ (A < 0 ∨ tp < A)) ∨ (7 < kd ∧ (B < 0 ∨ (n : Int) < B)) then 2 else 0 from by unfold actC; rw [htp, hkd, hAA, hBB])
            clear hkd hAA hBB htp
            have HBA := Lib.hid (fun (c : Int) => new_act (G := G) (c := c) HNM.out HB.out HA.out HI.out)
            have HOKT := Lib.hid (fun h => okTo_succ HA.out (show actC F n j i = 0 from h))
            go_upto_region 15 with fail
            clear r0 r1 r2
            obtain ⟨wa, hwa⟩ : ∃ u, u = wr.alloc (.cells #[.int .i64 kd, .int .i64 A, .int .i64 B] 28) := ⟨_, rfl⟩
            obtain ⟨ab, hab⟩ : ∃ u, u = wr.heap.size := ⟨_, rfl⟩
            have D0 : Hid (wa.cell? ⟨ab, 0, none⟩ = some (.int .i64 kd)) := Lib.hid (by rw [hwa, hab]; simp)
            have D1 : Hid (wa.cell? ⟨ab, 1, none⟩ = some (.int .i64 A)) := Lib.hid (by rw [hwa, hab]; simp)
            have D2 : Hid (wa.cell? ⟨ab, 2, none⟩ = some (.int .i64 B)) := Lib.hid (by rw [hwa, hab]; simp)
            have HNA := Lib.hid (HN.out.to (show Gr wr wa from by rw [hwa]; exact (Gr.refl _).alloc _))
            rw [← hwa, ← hab]
            clear hwa hab HN
            have HM0 := Lib.hid (MapI.made wa)
            have HMG := Lib.hid ((Gr.refl wa).alloc (.map #[] 0))
            obtain ⟨mb, hmb⟩ : ∃ u, u = wa.heap.size := ⟨_, rfl⟩
            rw [← hmb] at HM0
            have HMB : Hid (wa.heap.size ≤ mb) := Lib.hid (by omega)
            go_upto_region 16 with ((try rw [← hmb]); refine wpList_ins_mapI (by rfl) _ _ _ (by rfl) mb _ _ _ (by rfl) HM0.out (by decide) _ _ (by rfl) (by rfl) ?c1 ?c2 ?_; (case c1 => (unfold Bd; omega)); (case c2 => (have h9 := HNM.out; unfold Bd; first | omega | (rw [HW1.out]; omega))); intro w6 hmp hsv; have HM0 := Lib.hid hmp; have HMG := Lib.hid (Sav.gr HMG.out hsv (fun q e => by rw [e]; exact HMB.out)); clear hmp hsv)
            have HMF := Lib.hid (HM0.out.congr (f' := tF n j) (g' := tG) (by unfold tF; first | rfl | rw [HW1.out]) rfl)
            have d0 := HMG.out.cell D0.out
            have d1 := HMG.out.cell D1.out
            have d2 := HMG.out.cell D2.out
            go_upto_region 17 with ((try rw [← hmb]); refine wpList_look2_mapI (by rfl) _ _ (by rfl) mb _ (tF n j) tG (by rfl) HMF.out kd (by rfl) HBK.out ?_)
            by_cases ha : kd < 1
            · rw [show tG kd = false from tG_no (by omega)]
              have HC := Lib.hid (HBA.out 1 (HAC.out.trans (by rw [if_pos (by omega)])) (by decide))
              go_wp2
              go_ret2
              exact NewPost.bad HC.out (by decide) (.inr (.inr ⟨_, 0, rfl, by simp, by simp⟩)) ((HNA.out.gr.trans HMG.out).alloc _)
            · by_cases hb : 10 < kd
              · rw [show tG kd = false from tG_no (by omega)]
                have HC := Lib.hid (HBA.out 1 (HAC.out.trans (by rw [if_pos (by omega)])) (by decide))
                go_wp2
                go_ret2
                exact NewPost.bad HC.out (by decide) (.inr (.inr ⟨_, 0, rfl, by simp, by simp⟩)) ((HNA.out.gr.trans HMG.out).alloc _)
              · by_cases h3 : kd < 3
                · rw [show tG kd = false from tG_no (by omega)]
                  have h8 : ¬ 8 ≤ kd := by omega
                  by_cases hA : A = 0
                  · by_cases hB : B = 0
                    · have HA9 := Lib.hid (HOKT.out (HAC.out.trans (by rw [if_neg (by omega), if_neg (by omega)])))
                      go_wp2
                      go_roundw
                      case measure => simp [intOf]; omega
                      case rel => exact ⟨i + 1, by omega, by go_num, HNA.out.to HMG.out |> Lib.hid, HA9⟩
                    · have HC := Lib.hid (HBA.out 1 (HAC.out.trans (by rw [if_pos (by omega)])) (by decide))
                      go_wp2
                      go_ret2
                      exact NewPost.bad HC.out (by decide) (.inr (.inr ⟨_, 0, rfl, by simp, by simp⟩)) ((HNA.out.gr.trans HMG.out).alloc _)
                  · have HC := Lib.hid (HBA.out 1 (HAC.out.trans (by rw [if_pos (by omega)])) (by decide))
                    go_wp2
                    go_ret2
                    exact NewPost.bad HC.out (by decide) (.inr (.inr ⟨_, 0, rfl, by simp, by simp⟩)) ((HNA.out.gr.trans HMG.out).alloc _)
                · rw [show tG kd = true from tG_yes (by omega) (by omega), show tF n j kd = tp from (tF_yes n j (by omega) (by omega)).trans HTP.out.symm]
                  by_cases h8 : 8 ≤ kd
                  · by_cases hA0 : A < 0
                    · have HC := Lib.hid (HBA.out 2 (HAC.out.trans (by rw [if_neg (by omega), if_pos (by omega)])) (by decide))
                      go_wp2
                      go_ret2
                      exact NewPost.bad HC.out (by decide) (.inr (.inr ⟨_, 0, rfl, by simp, by simp⟩)) ((HNA.out.gr.trans HMG.out).alloc _)
                    · by_cases hA1 : tp < A
                      · have HC := Lib.hid (HBA.out 2 (HAC.out.trans (by rw [if_neg (by omega), if_pos (by omega)])) (by decide))
                        go_wp2
                        go_ret2
                        exact NewPost.bad HC.out (by decide) (.inr (.inr ⟨_, 0, rfl, by simp, by simp⟩)) ((HNA.out.gr.trans HMG.out).alloc _)
                      · by_cases hB0 : B < 0
                        · have HC := Lib.hid (HBA.out 2 (HAC.out.trans (by rw [if_neg (by omega), if_pos (by omega)])) (by decide))
                          go_wp2
                          go_ret2
                          exact NewPost.bad HC.out (by decide) (.inr (.inr ⟨_, 0, rfl, by simp, by simp⟩)) ((HNA.out.gr.trans HMG.out).alloc _)
                        · by_cases hB1 : (n : Int) < B
                          · have HC := Lib.hid (HBA.out 2 (HAC.out.trans (by rw [if_neg (by omega), if_pos (by omega)])) (by decide))
                            go_wp2
                            go_ret2
                            exact NewPost.bad HC.out (by decide) (.inr (.inr ⟨_, 0, rfl, by simp, by simp⟩)) ((HNA.out.gr.trans HMG.out).alloc _)
                          · have HA9 := Lib.hid (HOKT.out (HAC.out.trans (by rw [if_neg (by omega), if_neg (by omega)])))
                            go_wp2
                            go_roundw
                            case measure => simp [intOf]; omega
                            case rel => exact ⟨i + 1, by omega, by go_num, HNA.out.to HMG.out |> Lib.hid, HA9⟩
                  · by_cases hB : B = 0
                    · by_cases hA0 : A < 0
                      · have HC := Lib.hid (HBA.out 2 (HAC.out.trans (by rw [if_neg (by omega), if_pos (by omega)])) (by decide))
                        go_wp2
                        go_ret2
                        exact NewPost.bad HC.out (by decide) (.inr (.inr ⟨_, 0, rfl, by simp, by simp⟩)) ((HNA.out.gr.trans HMG.out).alloc _)
                      · by_cases hA1 : tp < A
                        · have HC := Lib.hid (HBA.out 2 (HAC.out.trans (by rw [if_neg (by omega), if_pos (by omega)])) (by decide))
                          go_wp2
                          go_ret2
                          exact NewPost.bad HC.out (by decide) (.inr (.inr ⟨_, 0, rfl, by simp, by simp⟩)) ((HNA.out.gr.trans HMG.out).alloc _)
                        · have HA9 := Lib.hid (HOKT.out (HAC.out.trans (by rw [if_neg (by omega), if_neg (by omega)])))
                          go_wp2
                          go_roundw
                          case measure => simp [intOf]; omega
                          case rel => exact ⟨i + 1, by omega, by go_num, HNA.out.to HMG.out |> Lib.hid, HA9⟩
                    · have HC := Lib.hid (HBA.out 1 (HAC.out.trans (by rw [if_pos (by omega)])) (by decide))
                      go_wp2
                      go_ret2
                      exact NewPost.bad HC.out (by decide) (.inr (.inr ⟨_, 0, rfl, by simp, by simp⟩)) ((HNA.out.gr.trans HMG.out).alloc _)
          · obtain rfl : i = n := by omega
            have k1 : ¬ (i : Int) < (i : Int) := by omega
            go_wp2
            go_ret2
            exact .inr ⟨(new_fine HNM.out HB.out HA.out).1, HA.out, HB.out, pp, _, bv, bp, rfl, HN.out, _, _, rfl⟩
end Go.Proofs.YtjghgafeoimgiaaDoor

/-
  The reference's Rounds: Put. (Printed by genrnd.py.)
-/
import Derived.Test.YtbpofdfehcbppaaDoorRndF
namespace Go.Proofs.YtbpofdfehcbppaaDoor
open Go.RowKit Go.Extern.Stop Go.Stop Go.Extern

section
variable {ev : Operand → Value} {o : Oper} {w : World} {x y z : Operand} {u : Value}
theorem rrp_fa_millraceref_Rounds_5 {p o' : Nat} (ho : o.op = .fieldAddr 84 x 5) (h : ev x = .pointer (some ⟨p, o', none⟩)) : (execOp ev o).run Tryd.prog w = .ok (.value (.pointer (some ⟨p, o' + 5, none⟩))) w := by
  simp [execOp, ho, h, go_sem]
theorem rrp_fa_millraceref_Pack_0 {p o' : Nat} (ho : o.op = .fieldAddr 108 x 0) (h : ev x = .pointer (some ⟨p, o', none⟩)) : (execOp ev o).run Tryd.prog w = .ok (.value (.pointer (some ⟨p, o', none⟩))) w := by
  simp [execOp, ho, h, go_sem]
theorem rrp_fa_api_Item_2 {p o' : Nat} (ho : o.op = .fieldAddr 103 x 2) (h : ev x = .pointer (some ⟨p, o', none⟩)) : (execOp ev o).run Tryd.prog w = .ok (.value (.pointer (some ⟨p, o' + 2, none⟩))) w := by
  simp [execOp, ho, h, go_sem]
end

section
variable {ev : Operand → Value} {o : Oper} {w : World} {x : Operand}
theorem q_loadM {ad : Addr} {m : Option Nat} (ho : o.op = .load 82 x) (h : ev x = .pointer (some ad)) (hc : w.cell? ad = some (.map m)) : (execOp ev o).run Tryd.prog w = .ok (.value (.map m)) w := by
  simp [execOp, ho, h, hc, go_sem]
theorem r_fa_millraceref_Pack_0 {p o' : Nat} (ho : o.op = .fieldAddr 108 x 0) (h : ev x = .pointer (some ⟨p, o', none⟩)) : (execOp ev o).run Tryd.prog w = .ok (.value (.pointer (some ⟨p, o', none⟩))) w := by
  simp [execOp, ho, h, go_sem]
theorem r_fa_millraceref_Rounds_2 {p o' : Nat} (ho : o.op = .fieldAddr 84 x 2) (h : ev x = .pointer (some ⟨p, o', none⟩)) : (execOp ev o).run Tryd.prog w = .ok (.value (.pointer (some ⟨p, o' + 2, none⟩))) w := by
  simp [execOp, ho, h, go_sem]
theorem r_fa_millraceref_Rounds_3 {p o' : Nat} (ho : o.op = .fieldAddr 84 x 3) (h : ev x = .pointer (some ⟨p, o', none⟩)) : (execOp ev o).run Tryd.prog w = .ok (.value (.pointer (some ⟨p, o' + 3, none⟩))) w := by
  simp [execOp, ho, h, go_sem]
end
structure RRPut (s : RRV) (x : Hel) (k : Nat) : Prop where
  flow : x.flow = (k : Int)
  lt : k < 16
  few : s.l.length ≤ 200
  turn : s.turn.length ≤ 300
  mn : s.mn ≤ 1000
def RRPutV (s s' : RRV) (x : Hel) (k : Nat) : Prop := s'.l = s.l ++ [x] ∧ s'.turn = (if ofF s.l k = [] then s.turn ++ [(k : Int)] else s.turn) ∧ s'.begun = s.begun ∧ s'.f = (if ofF s.l k = [] then fI s.f (k : Int) 0 else s.f) ∧ s'.g = (if ofF s.l k = [] then fI s.g (k : Int) true else s.g) ∧ s'.mn ≤ s.mn + 1
/-- Ahead of the row's append. -/
def RRPreV (s s' : RRV) (k : Nat) : Prop := s'.l = s.l ∧ s'.turn = (if ofF s.l k = [] then s.turn ++ [(k : Int)] else s.turn) ∧ s'.begun = s.begun ∧ s'.f = (if ofF s.l k = [] then fI s.f (k : Int) 0 else s.f) ∧ s'.g = (if ofF s.l k = [] then fI s.g (k : Int) true else s.g) ∧ s'.mn ≤ s.mn + 1
set_option maxRecDepth 100000 in
set_option maxHeartbeats 40000000 in
theorem rrput_full (N0 p mb : Nat) (room : Int) (zv : Value) (zs : List Int) (s : RRV) (x : Hel) (k : Nat) (ok : RRPut s x k) (hroom : room ≤ ((ofF s.l k).length : Int)) (now : Int) (w : World) (h : RRC w N0 p mb room zv zs s) :
    Calls Tryd.prog 112 #[.pointer (some ⟨p, 0, none⟩), .int .i64 now, x.val] w fun e w' => ∃ r, e = .returned r ∧ RowH 108 w' r [x] ∧ Gr w w' := by
  have HA := Lib.hid h
  have HFL := Lib.hid ok.flow
  have HOF := Lib.hid (fun u (hu : RRC u N0 p mb room zv zs s) => hu.of_any (by have := ok.few; omega) k)
  clear h ok
  unfold Hel.val
  go_enter Tryd.func112, Tryd.ntmps112
  go_upto_region 1 with fail
  obtain ⟨w0, hw0⟩ : ∃ u, u = w.alloc (.cells #[.int .i64 x.t, .int .i64 x.len, .int .i64 x.flow, .int .i64 x.band, .int .i64 x.mark, .int .i64 x.n] 108) := ⟨_, rfl⟩
  obtain ⟨bx, hbx⟩ : ∃ u, u = w.heap.size := ⟨_, rfl⟩
  have HX0 : Hid (HelAt w0 bx 0 x) := Lib.hid (by rw [hw0]; exact held_new w x hbx)
  have HG0 : Hid (Gr w w0) := Lib.hid (by rw [hw0]; exact (Gr.refl _).alloc _)
  rw [← hw0, ← hbx]
  clear hw0 hbx
  have HA0 := Lib.hid (HA.out.gr HG0.out)
  have xf := (show w0.cell? ⟨bx, 2, none⟩ = some (.int .i64 (k : Int)) from by have := HX0.out.c2; rw [Nat.zero_add, HFL.out] at this; exact this)
  go_upto_region 2 with (go_at_call 115; refine (HOF.out _ HA0.out).mono ?_; rintro e w1 ⟨rr, rfl, hrow, hg1, _⟩; obtain ⟨ra, rc, rfl⟩ := hrow.shape; have HA1 := Lib.hid (HA0.out.gr hg1); have HX1 := Lib.hid (HX0.out.gr hg1); have HG1 := Lib.hid (HG0.out.trans hg1); clear hrow hg1)
  clear xf
  have c0 := HA1.out.c0
  obtain ⟨x0, x1, x2, x3, x4, x5⟩ := HX1.out
  simp only [Nat.zero_add] at x1 x2 x3 x4 x5
  obtain ⟨w9, hw9⟩ : ∃ u, u = w1.alloc (.cells #[.int .i64 x.t, .int .i64 x.len, .int .i64 x.flow, .int .i64 x.band, .int .i64 x.mark, .int .i64 x.n] 108) := ⟨_, rfl⟩
  have HR9 := Lib.hid (show RowH 108 w9 (.slice (some ⟨w1.heap.size, 0, none⟩) 1 1) [x] from by rw [hw9]; exact RowH.one _ w1 x rfl)
  have HG9 := Lib.hid (HG1.out.trans (show Gr w1 w9 from by rw [hw9]; exact (Gr.refl _).alloc _))
  go_wp2
  rw [← hw9]
  refine bodyPost_ret (v := .slice (some ⟨w1.heap.size, 0, none⟩) 1 1) (by simp [results, Tryd.results112, go_sem]) rfl ?_
  exact ⟨_, rfl, HR9.out, HG9.out⟩
set_option maxRecDepth 100000 in
set_option maxHeartbeats 40000000 in
theorem rrput_fits (N0 p mb : Nat) (room : Int) (zv : Value) (zs : List Int) (s : RRV) (x : Hel) (k : Nat) (ok : RRPut s x k) (hroom : ¬ room ≤ ((ofF s.l k).length : Int)) (now : Int) (w : World) (h : RRC w N0 p mb room zv zs s) :
    Calls Tryd.prog 112 #[.pointer (some ⟨p, 0, none⟩), .int .i64 now, x.val] w fun e w' => e = .returned (.slice none 0 0) ∧ ∃ s', RRM w w' N0 p mb room zv zs s [] s' ∧ RRPutV s s' x k := by
  have HA := Lib.hid h
  have HOK := Lib.hid ok
  have HFL := Lib.hid ok.flow
  have HTL := Lib.hid ok.turn
  have HOF := Lib.hid (fun u (hu : RRC u N0 p mb room zv zs s) => hu.of_any (by have := ok.few; omega) k)
  have HRO := Lib.hid hroom
  clear h ok hroom
  unfold Hel.val
  go_enter Tryd.func112, Tryd.ntmps112
  go_upto_region 1 with fail
  obtain ⟨w0, hw0⟩ : ∃ u, u = w.alloc (.cells #[.int .i64 x.t, .int .i64 x.len, .int .i64 x.flow, .int .i64 x.band, .int .i64 x.mark, .int .i64 x.n] 108) := ⟨_, rfl⟩
  obtain ⟨bx, hbx⟩ : ∃ u, u = w.heap.size := ⟨_, rfl⟩
  have HX0 : Hid (HelAt w0 bx 0 x) := Lib.hid (by rw [hw0]; exact held_new w x hbx)
  have HG0 : Hid (Gr w w0) := Lib.hid (by rw [hw0]; exact (Gr.refl _).alloc _)
  have HM0 := Lib.hid ((RRM.first HA.out).res_add HG0.out (show w.heap.size ≤ bx by omega) (cell_lt HX0.out.c0))
  rw [← hw0, ← hbx]
  clear hw0 hbx
  have xf := (show w0.cell? ⟨bx, 2, none⟩ = some (.int .i64 (k : Int)) from by have := HX0.out.c2; rw [Nat.zero_add, HFL.out] at this; exact this)
  go_upto_region 2 with (go_at_call 115; refine (HOF.out _ HM0.out.at_).mono ?_; rintro e w2 ⟨rr, rfl, hrow, hg1, _⟩; obtain ⟨ra, rc, rfl⟩ := hrow.shape; have HM2 := Lib.hid (HM0.out.gr hg1); have HX2 := Lib.hid (HX0.out.gr hg1); clear hrow hg1)
  clear xf
  have c0 := HM2.out.at_.c0
  have hroom := HRO.out
  by_cases hz : ofF s.l k = []
  · have HZ := Lib.hid hz
    rw [hz] at hroom ⊢
    clear hz
    go_upto_region 5 with fail
    clear hroom c0 HX0 HM0 HG0
    obtain ⟨ta, tc, htv⟩ := HM2.out.at_.turn.shape
    have HTV := Lib.hid htv
    have HCT := Lib.hid (show w2.cell? ⟨p, 3, none⟩ = some (.slice ta s.turn.length tc) from by rw [← htv]; exact HM2.out.at_.c3)
    have HFT := Lib.hid (HM2.out.at_.free 3)
    have HROW0 := Lib.hid (show IntRow w2 (.slice ta s.turn.length tc) s.turn from by rw [← htv]; exact HM2.out.at_.turn)
    have HNE : Hid (¬ (Value.slice ta s.turn.length tc).ownBlock = some p ∧ ¬ (Value.slice ta s.turn.length tc).ownBlock = some bx) := Lib.hid (by rw [← htv]; exact ⟨fun e => (HM2.out.at_.tp p e).1 rfl, fun e => HM2.out.nin (r := bx) (by simp) (.inr (.inr (.inr e)))⟩)
    have HLT := Lib.hid (fun g (hg : (Value.slice ta s.turn.length tc).ownBlock = some g) => (show g < w2.heap.size from Row.lt HROW0.out hg))
    have HXF := Lib.hid (show w2.cell? ⟨bx, 2, none⟩ = some (.int .i64 (k : Int)) from by have := HX2.out.c2; rw [Nat.zero_add, HFL.out] at this; exact this)
    clear htv
    refine wp_region_k (n := 12) (fun u => Sav (fun q => (Value.slice ta s.turn.length tc).ownBlock = some q) w2 u ∧ IntRow u (Value.slice ta s.turn.length tc) s.turn) [Fg.eq (.pointer (some ⟨p, 0, none⟩)), Fg.eq (.pointer (some ⟨p, 0, none⟩)), Fg.eq (.pointer (some ⟨p, 0, none⟩)), Fg.eq (.pointer (some ⟨p, 3, none⟩)), Fg.eq (Value.slice ta s.turn.length tc), Fg.eq (.pointer (some ⟨bx, 0, none⟩)), Fg.eq (.pointer (some ⟨bx, 2, none⟩)), Fg.eq (.int .i64 (k : Int)), Fg.newI w2.heap.size (k : Int), Fg.rowI w2 (Value.slice ta s.turn.length tc) (s.turn ++ [(k : Int)]), Fg.eq (.pointer (some ⟨p, 0, none⟩)), Fg.eq (.pointer (some ⟨p, 3, none⟩))] [24, 25, 26, 27, 28, 29, 30, 31, 32, 33, 34, 35] (⟨.of_gr (Gr.refl w2).drew, HROW0.out.gr (Gr.refl w2).drew⟩) (by kernel_rfl) (by kernel_rfl) (by kernel_rfl) ?_ ?_
    · intro L i o a w1 hi ho hA
      have hI := hA.gr
      match i, hi with
      | 0, _ =>
        obtain rfl := Option.some.inj ho
        exact kstep_val hA (q_move rfl (show a.eval (.tmp 0) = .pointer (some ⟨p, 0, none⟩) from hA.other 0 (by decide))) rfl
      | 1, _ =>
        obtain rfl := Option.some.inj ho
        exact kstep_val hA (q_move rfl (show a.eval (.tmp 0) = .pointer (some ⟨p, 0, none⟩) from hA.other 0 (by decide))) rfl
      | 2, _ =>
        obtain rfl := Option.some.inj ho
        exact kstep_val hA (q_nil rfl (hA.fact 1 (hA.dep 1 (by kernel_rfl) (by decide)))) rfl
      | 3, _ =>
        obtain rfl := Option.some.inj ho
        exact kstep_val hA (r_fa_millraceref_Rounds_3 rfl (hA.fact 2 (hA.dep 2 (by kernel_rfl) (by decide)))) rfl
      | 4, _ =>
        obtain rfl := Option.some.inj ho
        exact kstep_val hA (q_loadSI rfl (hA.fact 3 (hA.dep 3 (by kernel_rfl) (by decide))) (hI.1.cell HCT.out HNE.out.1)) rfl
      | 5, _ =>
        obtain rfl := Option.some.inj ho
        exact kstep_val hA (r_fa_millraceref_Pack_0 rfl (show a.eval (.tmp 5) = .pointer (some ⟨bx, 0, none⟩) from hA.other 5 (by decide))) rfl
      | 6, _ =>
        obtain rfl := Option.some.inj ho
        exact kstep_val hA (r_fa_api_Item_2 rfl (hA.fact 5 (hA.dep 5 (by kernel_rfl) (by decide)))) rfl
      | 7, _ =>
        obtain rfl := Option.some.inj ho
        exact kstep_val hA (q_loadI rfl (hA.fact 6 (hA.dep 6 (by kernel_rfl) (by decide))) (hI.1.cell HXF.out HNE.out.2)) rfl
      | 8, _ =>
        obtain rfl := Option.some.inj ho
        exact kstep_gr hA (q_buildI rfl (hA.fact 7 (hA.dep 7 (by kernel_rfl) (by decide)))) ((Gr.refl _).alloc _) ⟨hI.1.then (.of_gr ((Gr.refl _).alloc _)), hI.2.gr ((Gr.refl _).alloc _)⟩ ⟨_, rfl, hI.1.size, by simp⟩
      | 9, _ =>
        obtain rfl := Option.some.inj ho
        obtain ⟨g, hv, hg, hh⟩ := (hA.fact 8 (hA.dep 8 (by kernel_rfl) (by decide)))
        obtain ⟨i0, hi0, hz0, hz1, hz2⟩ := info_parts info_intE
        obtain ⟨v', w', hr, hrow, hgrow, hown, hold⟩ := IntRow.app1 (P := Tryd.prog) 42 42 i0 Tryd.underlying42 hi0 hz0 hz1 hz2 hI.2 ⟨g, 0, none⟩ 1 hh (by have := HTL.out; omega)
        refine kstep_keep hA (q_append rfl (hA.fact 4 (hA.dep 4 (by kernel_rfl) (by decide))) hv hr) ⟨hI.1.then (.of_grown hgrow fun _ h => h), hold⟩ ⟨hrow, fun g hg => (hown g hg).imp id (Nat.le_trans hI.1.size)⟩ ?_
        intro j hj u hu
        match j, hj, hu with
        | 0, _, hu => exact hu
        | 1, _, hu => exact hu
        | 2, _, hu => exact hu
        | 3, _, hu => exact hu
        | 4, _, hu => exact hu
        | 5, _, hu => exact hu
        | 6, _, hu => exact hu
        | 7, _, hu => exact hu
        | 10, _, hu => exact hu
        | 11, _, hu => exact hu
        | 8, _, hu => obtain ⟨g', h1, h2, h3⟩ := hu; exact ⟨g', h1, h2, (Sav.of_grown (B := fun q => (Value.slice ta s.turn.length tc).ownBlock = some q) hgrow fun _ h => h).cell h3 (fun e => by have := HLT.out g' e; omega)⟩
        | 9, hj, _ => exact absurd rfl hj
        | j + 12, _, _ => trivial
      | 10, _ =>
        obtain rfl := Option.some.inj ho
        exact kstep_val hA (q_nil rfl (hA.fact 0 (hA.dep 0 (by kernel_rfl) (by decide)))) rfl
      | 11, _ =>
        obtain rfl := Option.some.inj ho
        exact kstep_val hA (r_fa_millraceref_Rounds_3 rfl (hA.fact 10 (hA.dep 10 (by kernel_rfl) (by decide)))) rfl
    · intro vz wt hI hv
      obtain ⟨hrow, hown⟩ := hv 9 (by omega)
      have v11 : vz 11 = .pointer (some ⟨p, 3, none⟩) := hv 11 (by omega)
      have hrow' : IntRow wt (vz 9) (s.turn ++ [(k : Int)]) := hrow
      have hown' : ∀ g, (vz 9).ownBlock = some g → s.tv.ownBlock = some g ∨ w2.heap.size ≤ g := by rw [HTV.out]; exact hown
      have hs : Sav (fun g => s.tv.ownBlock = some g) w2 wt := by rw [HTV.out]; exact hI.1
      have d0 := hI.1.cell HCT.out HNE.out.1
      have d1 := hI.1.frozen (p := ⟨p, 3, none⟩) (cell_lt HCT.out) HFT.out HNE.out.1
      have HM3 := Lib.hid (HM2.out.setT hs hrow' hown')
      have HX3 := Lib.hid ((HX2.out.sav hI.1 HNE.out.2).sav (.set p 3 (vz 9)) (fun e => HM2.out.nin (r := bx) (by simp) (.inl e)))
      clear hv hrow hown hI hown' hs
      simp only [putN, List.drop_succ_cons, List.drop_zero, List.getElem?_cons_succ, List.getElem?_cons_zero]
      generalize vz 9 = u9 at *
      generalize vz 11 = u11 at *
      subst v11
      obtain ⟨a', cap', rfl⟩ := hrow'.shape
      clear hrow'
      rw [List.length_append, show [(k : Int)].length = 1 from rfl] at *
      go_upto_region 6 with fail
      generalize wt.setCell ⟨p, 3, none⟩ (.slice a' (s.turn.length + 1) cap') = w3 at *
      clear d0 d1 HCT HFT HROW0 HNE HLT HXF HM2 HX2
      have HXF := Lib.hid (show w3.cell? ⟨bx, 2, none⟩ = some (.int .i64 (k : Int)) from by have := HX3.out.c2; rw [Nat.zero_add, HFL.out] at this; exact this)
      have HC5 := Lib.hid HM3.out.at_.c5
      refine wp_region_gg (n := 7) [Fg.eq (.pointer (some ⟨p, 0, none⟩)), Fg.eq (.pointer (some ⟨p, 0, none⟩)), Fg.eq (.pointer (some ⟨p, 5, none⟩)), Fg.eq (.map (some mb)), Fg.eq (.pointer (some ⟨bx, 0, none⟩)), Fg.eq (.pointer (some ⟨bx, 2, none⟩)), Fg.eq (.int .i64 (k : Int))] [36, 37, 38, 39, 40, 41, 42] (by kernel_rfl) (by kernel_rfl) (by kernel_rfl) ?_ ?_
      · intro L i o' ac w1 hi ho hA
        have hgr : Gr w3 w1 := (Gr.refl w3).drew.trans hA.gr
        match i, hi with
        | 0, _ =>
          obtain rfl := Option.some.inj ho
          exact gg_plain rfl (gstep_val (q_move rfl (show ac.eval (.tmp 0) = .pointer (some ⟨p, 0, none⟩) from hA.other 0 (by decide))) rfl)
        | 1, _ =>
          obtain rfl := Option.some.inj ho
          exact gg_plain rfl (gstep_val (q_nil rfl (hA.fact 0 (hA.dep 0 (by kernel_rfl) (by decide)))) rfl)
        | 2, _ =>
          obtain rfl := Option.some.inj ho
          exact gg_plain rfl (gstep_val (rrp_fa_millraceref_Rounds_5 rfl (hA.fact 1 (hA.dep 1 (by kernel_rfl) (by decide)))) rfl)
        | 3, _ =>
          obtain rfl := Option.some.inj ho
          exact gg_plain rfl (gstep_val (q_loadM rfl (hA.fact 2 (hA.dep 2 (by kernel_rfl) (by decide))) (hgr.cell HC5.out)) rfl)
        | 4, _ =>
          obtain rfl := Option.some.inj ho
          exact gg_plain rfl (gstep_val (rrp_fa_millraceref_Pack_0 rfl (show ac.eval (.tmp 5) = .pointer (some ⟨bx, 0, none⟩) from hA.other 5 (by decide))) rfl)
        | 5, _ =>
          obtain rfl := Option.some.inj ho
          exact gg_plain rfl (gstep_val (rrp_fa_api_Item_2 rfl (hA.fact 4 (hA.dep 4 (by kernel_rfl) (by decide)))) rfl)
        | 6, _ =>
          obtain rfl := Option.some.inj ho
          exact gg_plain rfl (gstep_val (q_loadI rfl (hA.fact 5 (hA.dep 5 (by kernel_rfl) (by decide))) (hgr.cell HXF.out)) rfl)
        | k + 7, hk => exact absurd (show k + 7 < 7 from hk) (by omega)
      · intro vz wd hg5 hv
        have HGZ := Lib.hid ((Gr.refl w3).drew.trans hg5)
        have v39 : vz 3 = .map (some mb) := hv 3 (by omega)
        have v42 : vz 6 = .int .i64 (k : Int) := hv 6 (by omega)
        clear hv hg5
        simp only [putN, List.drop_succ_cons, List.drop_zero, List.getElem?_cons_succ, List.getElem?_cons_zero]
        generalize vz 3 = z39 at *
        subst v39
        generalize vz 6 = z42 at *
        subst v42
        generalize vz 0 = z36 at *
        generalize vz 1 = z37 at *
        generalize vz 2 = z38 at *
        generalize vz 4 = z40 at *
        generalize vz 5 = z41 at *
        have HM4 := Lib.hid (HM3.out.gr HGZ.out)
        have HX4 := Lib.hid (HX3.out.gr HGZ.out)
        have HMP := Lib.hid (show MapI wd mb s.mn s.f s.g from HM4.out.at_.map)
        go_upto_region 7 with (at_mapUpdate; go_loud (simp only [Act.put, List.setIfInBounds_toArray, List.set_cons_succ, List.set_cons_zero]); refine wpList_set_mapI (by rfl) _ _ _ (by rfl) mb s.mn s.f s.g (by rfl) HMP.out (by have := HOK.out.mn; omega) (k : Int) 0 (by rfl) (by rfl) (by have := HOK.out.lt; unfold Bd; omega) (by unfold Bd; omega) ?_; intro w6 hmp _ hsv; have HM5 := Lib.hid (HM4.out.setM hsv (k : Int) 0 (s.mn + 1) hmp); have HX5 := Lib.hid (HX4.out.sav hsv (fun e => HM4.out.nin (r := bx) (by simp) (.inr (.inl e)))); clear hmp hsv)
        have HP6 := Lib.hid (show RRPreV s ((s.setT (.slice a' (s.turn.length + 1) cap') (s.turn ++ [(k : Int)])).setM (k : Int) 0 (s.mn + 1)) k from ⟨rfl, by rw [if_pos HZ.out]; rfl, rfl, by rw [if_pos HZ.out]; rfl, by rw [if_pos HZ.out]; rfl, Nat.le_refl _⟩)
        replace HM5 : Hid (RRM w w6 N0 p mb room zv zs s [bx] ((s.setT (.slice a' (s.turn.length + 1) cap') (s.turn ++ [(k : Int)])).setM (k : Int) 0 (s.mn + 1))) := HM5
        generalize (s.setT (.slice a' (s.turn.length + 1) cap') (s.turn ++ [(k : Int)])).setM (k : Int) 0 (s.mn + 1) = s6 at *
        clear HM3 HX3 HM4 HX4 HGZ HXF HC5 HMP
        obtain ⟨la, lc, hlv⟩ := HM5.out.at_.row.shape
        have HLV := Lib.hid hlv
        have HC2 := Lib.hid (show w6.cell? ⟨p, 2, none⟩ = some (.slice la s6.l.length lc) from by rw [← hlv]; exact HM5.out.at_.c2)
        have HF2 := Lib.hid (HM5.out.at_.free 2)
        have HROW0 := Lib.hid (show RowH 108 w6 (.slice la s6.l.length lc) s6.l from by rw [← hlv]; exact HM5.out.at_.row)
        have HNL := Lib.hid (show s6.l.length ≤ 200 from by rw [HP6.out.1]; exact HOK.out.few)
        have HNE : Hid (¬ (Value.slice la s6.l.length lc).ownBlock = some p ∧ ¬ (Value.slice la s6.l.length lc).ownBlock = some bx) := Lib.hid (by rw [← hlv]; exact ⟨fun e => (HM5.out.at_.ap p e).1 rfl, fun e => HM5.out.nin (r := bx) (by simp) (.inr (.inr (.inl e)))⟩)
        have HLT := Lib.hid (fun g (hg : (Value.slice la s6.l.length lc).ownBlock = some g) => (show g < w6.heap.size from HROW0.out.lt hg))
        clear hlv
        refine wp_region_k (n := 10) (fun u => Sav (fun q => (Value.slice la s6.l.length lc).ownBlock = some q) w6 u ∧ RowH 108 u (Value.slice la s6.l.length lc) s6.l) [Fg.eq (.pointer (some ⟨p, 0, none⟩)), Fg.eq (.pointer (some ⟨p, 0, none⟩)), Fg.eq (.pointer (some ⟨p, 0, none⟩)), Fg.eq (.pointer (some ⟨p, 2, none⟩)), Fg.eq (Value.slice la s6.l.length lc), Fg.eq (x.val), Fg.hel w6.heap.size x, Fg.rowp w6 (Value.slice la s6.l.length lc) (s6.l ++ [x]), Fg.eq (.pointer (some ⟨p, 0, none⟩)), Fg.eq (.pointer (some ⟨p, 2, none⟩))] [43, 44, 45, 46, 47, 48, 49, 50, 51, 52] (⟨.of_gr (Gr.refl w6).drew, HROW0.out.gr (Gr.refl w6).drew⟩) (by kernel_rfl) (by kernel_rfl) (by kernel_rfl) ?_ ?_
        · intro L i o a w1 hi ho hA
          have hI := hA.gr
          match i, hi with
          | 0, _ =>
            obtain rfl := Option.some.inj ho
            exact kstep_val hA (q_move rfl (show a.eval (.tmp 0) = .pointer (some ⟨p, 0, none⟩) from hA.other 0 (by decide))) rfl
          | 1, _ =>
            obtain rfl := Option.some.inj ho
            exact kstep_val hA (q_move rfl (show a.eval (.tmp 0) = .pointer (some ⟨p, 0, none⟩) from hA.other 0 (by decide))) rfl
          | 2, _ =>
            obtain rfl := Option.some.inj ho
            exact kstep_val hA (q_nil rfl (hA.fact 1 (hA.dep 1 (by kernel_rfl) (by decide)))) rfl
          | 3, _ =>
            obtain rfl := Option.some.inj ho
            exact kstep_val hA (r_fa_millraceref_Rounds_2 rfl (hA.fact 2 (hA.dep 2 (by kernel_rfl) (by decide)))) rfl
          | 4, _ =>
            obtain rfl := Option.some.inj ho
            exact kstep_val hA (q_loadSP rfl (hA.fact 3 (hA.dep 3 (by kernel_rfl) (by decide))) (hI.1.cell HC2.out HNE.out.1)) rfl
          | 5, _ =>
            obtain rfl := Option.some.inj ho
            exact kstep_val hA (q_loadP rfl (show a.eval (.tmp 5) = .pointer (some ⟨bx, 0, none⟩) from hA.other 5 (by decide)) (HX5.out.sav hI.1 HNE.out.2)) rfl
          | 6, _ =>
            obtain rfl := Option.some.inj ho
            exact kstep_gr hA (q_buildP rfl (hA.fact 5 (hA.dep 5 (by kernel_rfl) (by decide)))) ((Gr.refl _).alloc _) ⟨hI.1.then (.of_gr ((Gr.refl _).alloc _)), hI.2.gr ((Gr.refl _).alloc _)⟩ ⟨_, rfl, hI.1.size, held_new _ _ rfl⟩
          | 7, _ =>
            obtain rfl := Option.some.inj ho
            obtain ⟨g, hv, hg, hh⟩ := (hA.fact 6 (hA.dep 6 (by kernel_rfl) (by decide)))
            obtain ⟨i0, hi0, hz0, hz1, hz2⟩ := info_parts packInfo
            obtain ⟨v', w', hr, hrow, hgrow, hown, hold⟩ := RowH.app (P := Tryd.prog) (ys := [x]) 38 38 i0 Hel.zero.val Tryd.underlying38 hi0 hz0 hz1 hz2 rfl (by intro u hu; exact (cells_int Hel.zero u (by simpa [Hel.val, Value.cells, Hel.cells] using hu)).2) hI.2 ⟨g, 0, none⟩ 1 (by simp) (by rw [flat_one]; exact hh.news) (by have := HNL.out; simp; omega)
            refine kstep_keep hA (q_append rfl (hA.fact 4 (hA.dep 4 (by kernel_rfl) (by decide))) hv hr) ⟨hI.1.then (.of_grown hgrow fun _ h => h), hold⟩ ⟨hrow, fun g hg => (hown g hg).imp id (Nat.le_trans hI.1.size)⟩ ?_
            intro j hj u hu
            match j, hj, hu with
            | 0, _, hu => exact hu
            | 1, _, hu => exact hu
            | 2, _, hu => exact hu
            | 3, _, hu => exact hu
            | 4, _, hu => exact hu
            | 5, _, hu => exact hu
            | 8, _, hu => exact hu
            | 9, _, hu => exact hu
            | 6, _, hu => obtain ⟨g', h1, h2, h3⟩ := hu; exact ⟨g', h1, h2, h3.sav (B := fun q => (Value.slice la s6.l.length lc).ownBlock = some q) (.of_grown hgrow fun _ h => h) (fun e => by have := HLT.out g' e; omega)⟩
            | 7, hj, _ => exact absurd rfl hj
            | j + 10, _, _ => trivial
          | 8, _ =>
            obtain rfl := Option.some.inj ho
            exact kstep_val hA (q_nil rfl (hA.fact 0 (hA.dep 0 (by kernel_rfl) (by decide)))) rfl
          | 9, _ =>
            obtain rfl := Option.some.inj ho
            exact kstep_val hA (r_fa_millraceref_Rounds_2 rfl (hA.fact 8 (hA.dep 8 (by kernel_rfl) (by decide)))) rfl
        · intro vz wt hI hv
          obtain ⟨hrow, hown⟩ := hv 7 (by omega)
          have v9 : vz 9 = .pointer (some ⟨p, 2, none⟩) := hv 9 (by omega)
          have hrow' : RowH 108 wt (vz 7) (s6.l ++ [x]) := hrow
          have hown' : ∀ g, (vz 7).ownBlock = some g → s6.lv.ownBlock = some g ∨ w6.heap.size ≤ g := by rw [HLV.out]; exact hown
          have hs : Sav (fun g => s6.lv.ownBlock = some g) w6 wt := by rw [HLV.out]; exact hI.1
          have d0 := hI.1.cell HC2.out HNE.out.1
          have d1 := hI.1.frozen (p := ⟨p, 2, none⟩) (cell_lt HC2.out) HF2.out HNE.out.1
          have HM7 := Lib.hid (HM5.out.setL hs hrow' hown')
          clear hv hrow hown hI hown' hs
          simp only [putN, List.drop_succ_cons, List.drop_zero, List.getElem?_cons_succ, List.getElem?_cons_zero]
          generalize vz 7 = u7 at *
          generalize vz 9 = u9 at *
          subst v9
          obtain ⟨a9, cap9, rfl⟩ := hrow'.shape
          clear hrow'
          rw [List.length_append, show [x].length = 1 from rfl] at HM7 ⊢
          go_wp2
          go_ret
          exact ⟨rfl, _, HM7.out.did, by rw [← HP6.out.1]; rfl, HP6.out.2.1, HP6.out.2.2.1, HP6.out.2.2.2.1, HP6.out.2.2.2.2.1, HP6.out.2.2.2.2.2⟩
  · have i2 : ¬ ((ofF s.l k).length : Int) = 0 := by have := List.length_pos_iff.2 hz; omega
    have HP5 := Lib.hid (show RRPreV s s k from ⟨rfl, by rw [if_neg hz], rfl, by rw [if_neg hz], by rw [if_neg hz], Nat.le_succ _⟩)
    clear hz
    go_upto_region 7 with fail
    clear hroom i2 c0 HX0 HM0 HG0
    obtain ⟨s6, hs6⟩ : ∃ u, u = s := ⟨_, rfl⟩
    obtain ⟨w6, hw6⟩ : ∃ u, u = w2 := ⟨_, rfl⟩
    have HM5 : Hid (RRM w w6 N0 p mb room zv zs s [bx] s6) := by rw [hs6, hw6]; exact HM2
    have HX5 : Hid (HelAt w6 bx 0 x) := by rw [hw6]; exact HX2
    have HP6 : Hid (RRPreV s s6 k) := by rw [hs6]; exact HP5
    rw [← hw6]
    clear hs6 hw6 HM2 HX2 HP5
    obtain ⟨la, lc, hlv⟩ := HM5.out.at_.row.shape
    have HLV := Lib.hid hlv
    have HC2 := Lib.hid (show w6.cell? ⟨p, 2, none⟩ = some (.slice la s6.l.length lc) from by rw [← hlv]; exact HM5.out.at_.c2)
    have HF2 := Lib.hid (HM5.out.at_.free 2)
    have HROW0 := Lib.hid (show RowH 108 w6 (.slice la s6.l.length lc) s6.l from by rw [← hlv]; exact HM5.out.at_.row)
    have HNL := Lib.hid (show s6.l.length ≤ 200 from by rw [HP6.out.1]; exact HOK.out.few)
    have HNE : Hid (¬ (Value.slice la s6.l.length lc).ownBlock = some p ∧ ¬ (Value.slice la s6.l.length lc).ownBlock = some bx) := Lib.hid (by rw [← hlv]; exact ⟨fun e => (HM5.out.at_.ap p e).1 rfl, fun e => HM5.out.nin (r := bx) (by simp) (.inr (.inr (.inl e)))⟩)
    have HLT := Lib.hid (fun g (hg : (Value.slice la s6.l.length lc).ownBlock = some g) => (show g < w6.heap.size from HROW0.out.lt hg))
    clear hlv
    refine wp_region_k (n := 10) (fun u => Sav (fun q => (Value.slice la s6.l.length lc).ownBlock = some q) w6 u ∧ RowH 108 u (Value.slice la s6.l.length lc) s6.l) [Fg.eq (.pointer (some ⟨p, 0, none⟩)), Fg.eq (.pointer (some ⟨p, 0, none⟩)), Fg.eq (.pointer (some ⟨p, 0, none⟩)), Fg.eq (.pointer (some ⟨p, 2, none⟩)), Fg.eq (Value.slice la s6.l.length lc), Fg.eq (x.val), Fg.hel w6.heap.size x, Fg.rowp w6 (Value.slice la s6.l.length lc) (s6.l ++ [x]), Fg.eq (.pointer (some ⟨p, 0, none⟩)), Fg.eq (.pointer (some ⟨p, 2, none⟩))] [43, 44, 45, 46, 47, 48, 49, 50, 51, 52] (⟨.of_gr (Gr.refl w6).drew, HROW0.out.gr (Gr.refl w6).drew⟩) (by kernel_rfl) (by kernel_rfl) (by kernel_rfl) ?_ ?_
    · intro L i o a w1 hi ho hA
      have hI := hA.gr
      match i, hi with
      | 0, _ =>
        obtain rfl := Option.some.inj ho
        exact kstep_val hA (q_move rfl (show a.eval (.tmp 0) = .pointer (some ⟨p, 0, none⟩) from hA.other 0 (by decide))) rfl
      | 1, _ =>
        obtain rfl := Option.some.inj ho
        exact kstep_val hA (q_move rfl (show a.eval (.tmp 0) = .pointer (some ⟨p, 0, none⟩) from hA.other 0 (by decide))) rfl
      | 2, _ =>
        obtain rfl := Option.some.inj ho
        exact kstep_val hA (q_nil rfl (hA.fact 1 (hA.dep 1 (by kernel_rfl) (by decide)))) rfl
      | 3, _ =>
        obtain rfl := Option.some.inj ho
        exact kstep_val hA (r_fa_millraceref_Rounds_2 rfl (hA.fact 2 (hA.dep 2 (by kernel_rfl) (by decide)))) rfl
      | 4, _ =>
        obtain rfl := Option.some.inj ho
        exact kstep_val hA (q_loadSP rfl (hA.fact 3 (hA.dep 3 (by kernel_rfl) (by decide))) (hI.1.cell HC2.out HNE.out.1)) rfl
      | 5, _ =>
        obtain rfl := Option.some.inj ho
        exact kstep_val hA (q_loadP rfl (show a.eval (.tmp 5) = .pointer (some ⟨bx, 0, none⟩) from hA.other 5 (by decide)) (HX5.out.sav hI.1 HNE.out.2)) rfl
      | 6, _ =>
        obtain rfl := Option.some.inj ho
        exact kstep_gr hA (q_buildP rfl (hA.fact 5 (hA.dep 5 (by kernel_rfl) (by decide)))) ((Gr.refl _).alloc _) ⟨hI.1.then (.of_gr ((Gr.refl _).alloc _)), hI.2.gr ((Gr.refl _).alloc _)⟩ ⟨_, rfl, hI.1.size, held_new _ _ rfl⟩
      | 7, _ =>
        obtain rfl := Option.some.inj ho
        obtain ⟨g, hv, hg, hh⟩ := (hA.fact 6 (hA.dep 6 (by kernel_rfl) (by decide)))
        obtain ⟨i0, hi0, hz0, hz1, hz2⟩ := info_parts packInfo
        obtain ⟨v', w', hr, hrow, hgrow, hown, hold⟩ := RowH.app (P := Tryd.prog) (ys := [x]) 38 38 i0 Hel.zero.val Tryd.underlying38 hi0 hz0 hz1 hz2 rfl (by intro u hu; exact (cells_int Hel.zero u (by simpa [Hel.val, Value.cells, Hel.cells] using hu)).2) hI.2 ⟨g, 0, none⟩ 1 (by simp) (by rw [flat_one]; exact hh.news) (by have := HNL.out; simp; omega)
        refine kstep_keep hA (q_append rfl (hA.fact 4 (hA.dep 4 (by kernel_rfl) (by decide))) hv hr) ⟨hI.1.then (.of_grown hgrow fun _ h => h), hold⟩ ⟨hrow, fun g hg => (hown g hg).imp id (Nat.le_trans hI.1.size)⟩ ?_
        intro j hj u hu
        match j, hj, hu with
        | 0, _, hu => exact hu
        | 1, _, hu => exact hu
        | 2, _, hu => exact hu
        | 3, _, hu => exact hu
        | 4, _, hu => exact hu
        | 5, _, hu => exact hu
        | 8, _, hu => exact hu
        | 9, _, hu => exact hu
        | 6, _, hu => obtain ⟨g', h1, h2, h3⟩ := hu; exact ⟨g', h1, h2, h3.sav (B := fun q => (Value.slice la s6.l.length lc).ownBlock = some q) (.of_grown hgrow fun _ h => h) (fun e => by have := HLT.out g' e; omega)⟩
        | 7, hj, _ => exact absurd rfl hj
        | j + 10, _, _ => trivial
      | 8, _ =>
        obtain rfl := Option.some.inj ho
        exact kstep_val hA (q_nil rfl (hA.fact 0 (hA.dep 0 (by kernel_rfl) (by decide)))) rfl
      | 9, _ =>
        obtain rfl := Option.some.inj ho
        exact kstep_val hA (r_fa_millraceref_Rounds_2 rfl (hA.fact 8 (hA.dep 8 (by kernel_rfl) (by decide)))) rfl
    · intro vz wt hI hv
      obtain ⟨hrow, hown⟩ := hv 7 (by omega)
      have v9 : vz 9 = .pointer (some ⟨p, 2, none⟩) := hv 9 (by omega)
      have hrow' : RowH 108 wt (vz 7) (s6.l ++ [x]) := hrow
      have hown' : ∀ g, (vz 7).ownBlock = some g → s6.lv.ownBlock = some g ∨ w6.heap.size ≤ g := by rw [HLV.out]; exact hown
      have hs : Sav (fun g => s6.lv.ownBlock = some g) w6 wt := by rw [HLV.out]; exact hI.1
      have d0 := hI.1.cell HC2.out HNE.out.1
      have d1 := hI.1.frozen (p := ⟨p, 2, none⟩) (cell_lt HC2.out) HF2.out HNE.out.1
      have HM7 := Lib.hid (HM5.out.setL hs hrow' hown')
      clear hv hrow hown hI hown' hs
      simp only [putN, List.drop_succ_cons, List.drop_zero, List.getElem?_cons_succ, List.getElem?_cons_zero]
      generalize vz 7 = u7 at *
      generalize vz 9 = u9 at *
      subst v9
      obtain ⟨a9, cap9, rfl⟩ := hrow'.shape
      clear hrow'
      rw [List.length_append, show [x].length = 1 from rfl] at HM7 ⊢
      go_wp2
      go_ret
      exact ⟨rfl, _, HM7.out.did, by rw [← HP6.out.1]; rfl, HP6.out.2.1, HP6.out.2.2.1, HP6.out.2.2.2.1, HP6.out.2.2.2.2.1, HP6.out.2.2.2.2.2⟩
end Go.Proofs.YtbpofdfehcbppaaDoor

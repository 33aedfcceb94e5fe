/-
  The reference's Hashed: Put. (Printed by genhas.py.)
-/
import Derived.Test.YtbpofdfehcbppaaDoorHasJ
import Derived.Test.YtbpofdfehcbppaaDoorHasE
namespace Go.Proofs.YtbpofdfehcbppaaDoor
open Go.RowKit Go.Extern.Stop Go.Stop Go.Extern

section
variable {ev : Operand → Value} {o : Oper} {w : World} {x y z : Operand} {u : Value}
theorem rhp_fa_millraceref_Hashed_3 {p o' : Nat} (ho : o.op = .fieldAddr 91 x 3) (h : ev x = .pointer (some ⟨p, o', none⟩)) : (execOp ev o).run Tryd.prog w = .ok (.value (.pointer (some ⟨p, o' + 3, none⟩))) w := by
  simp [execOp, ho, h, go_sem]
theorem rhp_loadS___millraceref_Pack {ad : Addr} {a : Option Addr} {n c : Nat} (ho : o.op = .load 38 x) (h : ev x = .pointer (some ad)) (hc : w.cell? ad = some (.slice a n c)) : (execOp ev o).run Tryd.prog w = .ok (.value (.slice a n c)) w := by
  simp [execOp, ho, h, hc, go_sem]
theorem rhp_len___millraceref_Pack {a : Option Addr} {n c : Nat} (ho : o.op = .call { callee := .builtin .len, args := #[x], argTypes := #[38] }) (h : ev x = .slice a n c) : (execOp ev o).run Tryd.prog w = .ok (.value (.int .i64 (n : Int))) w := by
  simp [execOp, ho, h, resolve, invoke, builtin, Builtin.len_, go_sem]
theorem rhp_fa_millraceref_Hashed_2 {p o' : Nat} (ho : o.op = .fieldAddr 91 x 2) (h : ev x = .pointer (some ⟨p, o', none⟩)) : (execOp ev o).run Tryd.prog w = .ok (.value (.pointer (some ⟨p, o' + 2, none⟩))) w := by
  simp [execOp, ho, h, go_sem]
end

theorem r_fa_millraceref_Hashed_3 {ev : Operand → Value} {o : Oper} {w : World} {x : Operand} {p o' : Nat} (ho : o.op = .fieldAddr 91 x 3) (h : ev x = .pointer (some ⟨p, o', none⟩)) : (execOp ev o).run Tryd.prog w = .ok (.value (.pointer (some ⟨p, o' + 3, none⟩))) w := by
  simp [execOp, ho, h, go_sem]
/-- What the reference's Put asks of the state. -/
structure RPutOk (q : HasP) (l : List Hel) (turn : List Int) (x : Hel) : Prop where
  ok : q.Ok
  few : l.length ≤ 200
  flows : ∀ y ∈ l, 0 ≤ y.flow ∧ y.flow ≤ 15
  turn : turn.length ≤ 300
  flow : 0 ≤ x.flow ∧ x.flow ≤ 15
set_option maxRecDepth 100000 in
set_option maxHeartbeats 40000000 in
theorem rhput_fits (p : Nat) (q : HasP) (lv tv : Value) (l : List Hel) (turn : List Int) (x : Hel) (ok : RPutOk q l turn x) (hroom : ((l.length : Nat) : Int) + 1 ≤ q.room) (now : Int) (w : World) (h : RHasC w p q lv tv l turn) :
    Calls Tryd.prog 125 #[.pointer (some ⟨p, 0, none⟩), .int .i64 now, x.val] w fun e w' => e = .returned (.slice none 0 0) ∧ RHDid w w' p q lv tv (l ++ [x]) (putT (fun k => ofK q l k) turn (hashOf q x.flow)) := by
  have CB := Lib.hid (decide_eq_true hroom)
  obtain ⟨ta, tc, rfl⟩ := h.turn.shape
  have HA := Lib.hid h
  have HOK := Lib.hid ok
  have HPL := Lib.hid h.lt
  have HRL := Lib.hid ok.turn
  generalize hk0 : hashOf q x.flow = k at *
  have HK := Lib.hid hk0
  have HOF := Lib.hid (fun lv tv t u h => rof_any p q ok.ok lv tv l t (by have := ok.few; omega) ok.flows k u h)
  clear h ok hroom hk0
  unfold Hel.val at *
  go_enter Tryd.func125, Tryd.ntmps125
  go_upto_region 1 with fail
  obtain ⟨w0, hw0⟩ : ∃ u, u = w.alloc (.cells #[.int .i64 x.t, .int .i64 x.len, .int .i64 x.flow, .int .i64 x.band, .int .i64 x.mark, .int .i64 x.n] 108) := ⟨_, rfl⟩
  obtain ⟨bx, hbx⟩ : ∃ u, u = w.heap.size := ⟨_, rfl⟩
  have HX0 : Hid (HelAt w0 bx 0 x ∧ bx = w.heap.size) := Lib.hid (by rw [hw0]; exact ⟨held_new w x hbx, hbx⟩)
  have HG0 : Hid (Gr w w0) := Lib.hid (by rw [hw0]; exact (Gr.refl _).alloc _)
  rw [← hw0, ← hbx]
  clear hw0 hbx
  have HM0 := Lib.hid ((RHM.first HA.out).res_add HG0.out (show w.heap.size ≤ bx by have := HX0.out.2; omega) (cell_lt HX0.out.1.c0))
  have xf := HX0.out.1.c2
  rw [Nat.zero_add] at xf
  go_upto_region 2 with (go_at_call 28; refine (rwhere_any p q HOK.out.ok x.flow HOK.out.flow _ HM0.out.at_.c0 HM0.out.at_.c1).mono ?_; rw [HK.out]; rintro e w1 ⟨rfl, hg1⟩; have HM1 := Lib.hid (HM0.out.gr hg1); have HX1 := Lib.hid (HX0.out.1.gr hg1); clear hg1)
  clear xf
  by_cases hk0 : ofK q l k = []
  · have HT1 : Hid (putT (fun k => ofK q l k) turn k = turn ++ [(k : Int)]) := Lib.hid (by unfold putT; rw [if_pos hk0])
    have HK0 := Lib.hid hk0
    clear hk0
    go_upto_region 3 with (go_at_call 128; refine (HOF.out _ _ _ _ HM1.out.at_).mono ?_; rintro e w2 ⟨rr, rfl, hrow, hg2, _⟩; rw [HK0.out] at hrow; obtain ⟨ra, rc, rfl⟩ := hrow.shape; have HM2 := Lib.hid (HM1.out.gr hg2); have HX2 := Lib.hid (HX1.out.gr hg2); clear hrow hg2)
    have c4 := HM2.out.at_.c4
    have f4 := HM2.out.at_.f4
    have hp0 : p < w2.heap.size := HM2.out.at_.lt
    have HS2 := Lib.hid (show (∀ u, Sav (fun g => (Value.slice ta turn.length tc).ownBlock = some g) w2 u → u.cell? ⟨p, 4, none⟩ = some (.slice ta turn.length tc) ∧ u.frozen? ⟨p, 4, none⟩ = false) from fun u hs => ⟨hs.cell HM2.out.at_.c4 HM2.out.at_.tp, hs.frozen (p := ⟨p, 4, none⟩) HM2.out.at_.lt HM2.out.at_.f4 HM2.out.at_.tp⟩)
    go_upto_region 4 with (at_builtin; refine wpList_append_intR rfl _ _ _ (by rfl) (by kernel_rfl) _ turn (k : Int) (by rfl) (HM2.out.at_.turn.gr ((Gr.refl w2).alloc (.cells #[.int .i64 (k : Int)] 3))) ⟨w2.heap.size, 0, none⟩ 1 (by rfl) (by simp) (by have := HRL.out; omega) ?_; intro v6 w6 hrow hgr hown; have hsv : Sav (fun g => (Value.slice ta turn.length tc).ownBlock = some g) w2 w6 := (Sav.of_gr ((Gr.refl w2).alloc (.cells #[.int .i64 (k : Int)] 3))).then (.of_grown hgr fun g e => e); have ho6 : ∀ g, v6.ownBlock = some g → (Value.slice ta turn.length tc).ownBlock = some g ∨ w2.heap.size ≤ g := (fun g e => (hown g e).imp id (fun e => by simp at e; omega)); have HM4 := Lib.hid (show RHM w _ p q lv _ [bx] lv v6 l (putT (fun k => ofK q l k) turn k) from by rw [HT1.out]; exact HM2.out.set_t hsv hrow ho6); have HX4 := Lib.hid ((HX2.out.sav hsv (fun e => HM2.out.nin (r := bx) (by simp) (.inr (.inr e)))).sav (.set p 4 v6) (fun e => HM2.out.nin (r := bx) (by simp) (.inl e))); obtain ⟨d3, g3⟩ := HS2.out _ hsv; clear hgr hown ho6 hsv c4 f4; obtain ⟨a6, c6, rfl⟩ := hrow.shape; clear hrow; rw [show (turn ++ [(k : Int)]).length = turn.length + 1 from by simp] at HM4 HX4)
    generalize w6.setCell ⟨p, 4, none⟩ (.slice a6 (turn.length + 1) c6) = w4 at *
    generalize Value.slice a6 (turn.length + 1) c6 = tv4 at *
    clear d3 g3 hp0 HS2 HM2 HX2 HM1 HX1
    obtain ⟨ba, cap, hlv⟩ := HM4.out.at_.row.shape
    subst hlv
    have HC3 := Lib.hid HM4.out.at_.c3
    have HF3 := Lib.hid HM4.out.at_.f3
    have HROW0 := Lib.hid HM4.out.at_.row
    have HNL := Lib.hid HOK.out.few
    have HNE : Hid (¬ (Value.slice ba l.length cap).ownBlock = some p ∧ ¬ (Value.slice ba l.length cap).ownBlock = some bx) := Lib.hid ⟨fun e => (HM4.out.at_.ap p e).1 rfl, fun e => HM4.out.nin (r := bx) (by simp) (.inr (.inl e))⟩
    have HLT := Lib.hid (fun g (hg : (Value.slice ba l.length cap).ownBlock = some g) => (show g < w4.heap.size from HROW0.out.lt hg))
    refine wp_region_k (n := 10) (fun u => Sav (fun q => (Value.slice ba l.length cap).ownBlock = some q) w4 u ∧ RowH 108 u (.slice ba l.length cap) l) [Fg.eq (.pointer (some ⟨p, 0, none⟩)), Fg.eq (.pointer (some ⟨p, 0, none⟩)), Fg.eq (.pointer (some ⟨p, 0, none⟩)), Fg.eq (.pointer (some ⟨p, 3, none⟩)), Fg.eq (.slice ba l.length cap), Fg.eq (x.val), Fg.hel w4.heap.size x, Fg.rowp w4 (.slice ba l.length cap) (l ++ [x]), Fg.eq (.pointer (some ⟨p, 0, none⟩)), Fg.eq (.pointer (some ⟨p, 3, none⟩))] [35, 36, 37, 38, 39, 40, 41, 42, 43, 44] (⟨.of_gr (Gr.refl w4).drew, HROW0.out.gr (Gr.refl w4).drew⟩) (by kernel_rfl) (by kernel_rfl) (by kernel_rfl) ?_ ?_
    · intro L i o a w1 hi ho hA
      have hI := hA.gr
      match i, hi with
      | 0, _ =>
        obtain rfl := Option.some.inj ho
        exact kstep_val hA (q_move rfl (show a.eval (.tmp 0) = .pointer (some ⟨p, 0, none⟩) from hA.other 0 (by decide))) rfl
      | 1, _ =>
        obtain rfl := Option.some.inj ho
        exact kstep_val hA (q_move rfl (show a.eval (.tmp 0) = .pointer (some ⟨p, 0, none⟩) from hA.other 0 (by decide))) rfl
      | 2, _ =>
        obtain rfl := Option.some.inj ho
        exact kstep_val hA (q_nil rfl (hA.fact 1 (hA.dep 1 (by kernel_rfl) (by decide)))) rfl
      | 3, _ =>
        obtain rfl := Option.some.inj ho
        exact kstep_val hA (r_fa_millraceref_Hashed_3 rfl (hA.fact 2 (hA.dep 2 (by kernel_rfl) (by decide)))) rfl
      | 4, _ =>
        obtain rfl := Option.some.inj ho
        exact kstep_val hA (q_loadSP rfl (hA.fact 3 (hA.dep 3 (by kernel_rfl) (by decide))) (hI.1.cell HC3.out HNE.out.1)) rfl
      | 5, _ =>
        obtain rfl := Option.some.inj ho
        exact kstep_val hA (q_loadP rfl (show a.eval (.tmp 5) = .pointer (some ⟨bx, 0, none⟩) from hA.other 5 (by decide)) (HX4.out.sav hI.1 HNE.out.2)) rfl
      | 6, _ =>
        obtain rfl := Option.some.inj ho
        exact kstep_gr hA (q_buildP rfl (hA.fact 5 (hA.dep 5 (by kernel_rfl) (by decide)))) ((Gr.refl _).alloc _) ⟨hI.1.then (.of_gr ((Gr.refl _).alloc _)), hI.2.gr ((Gr.refl _).alloc _)⟩ ⟨_, rfl, hI.1.size, held_new _ _ rfl⟩
      | 7, _ =>
        obtain rfl := Option.some.inj ho
        obtain ⟨g, hv, hg, hh⟩ := (hA.fact 6 (hA.dep 6 (by kernel_rfl) (by decide)))
        obtain ⟨i0, hi0, hz0, hz1, hz2⟩ := info_parts packInfo
        obtain ⟨v', w', hr, hrow, hgrow, hown, hold⟩ := RowH.app (P := Tryd.prog) (ys := [x]) 38 38 i0 Hel.zero.val Tryd.underlying38 hi0 hz0 hz1 hz2 rfl (by intro u hu; exact (cells_int Hel.zero u (by simpa [Hel.val, Value.cells, Hel.cells] using hu)).2) hI.2 ⟨g, 0, none⟩ 1 (by simp) (by rw [flat_one]; exact hh.news) (by have := HNL.out; simp; omega)
        refine kstep_keep hA (q_append rfl (hA.fact 4 (hA.dep 4 (by kernel_rfl) (by decide))) hv hr) ⟨hI.1.then (.of_grown hgrow fun _ h => h), hold⟩ ⟨hrow, fun g hg => (hown g hg).imp id (Nat.le_trans hI.1.size)⟩ ?_
        intro j hj u hu
        match j, hj, hu with
        | 0, _, hu => exact hu
        | 1, _, hu => exact hu
        | 2, _, hu => exact hu
        | 3, _, hu => exact hu
        | 4, _, hu => exact hu
        | 5, _, hu => exact hu
        | 8, _, hu => exact hu
        | 9, _, hu => exact hu
        | 6, _, hu => obtain ⟨g', h1, h2, h3⟩ := hu; exact ⟨g', h1, h2, h3.sav (B := fun q => (Value.slice ba l.length cap).ownBlock = some q) (.of_grown hgrow fun _ h => h) (fun e => by have := HLT.out g' e; omega)⟩
        | 7, hj, _ => exact absurd rfl hj
        | j + 10, _, _ => trivial
      | 8, _ =>
        obtain rfl := Option.some.inj ho
        exact kstep_val hA (q_nil rfl (hA.fact 0 (hA.dep 0 (by kernel_rfl) (by decide)))) rfl
      | 9, _ =>
        obtain rfl := Option.some.inj ho
        exact kstep_val hA (r_fa_millraceref_Hashed_3 rfl (hA.fact 8 (hA.dep 8 (by kernel_rfl) (by decide)))) rfl
    · intro vz w2 hI hv
      obtain ⟨hrow, hown⟩ := hv 7 (by omega)
      have v9 : vz 9 = .pointer (some ⟨p, 3, none⟩) := hv 9 (by omega)
      have hrow' : RowH 108 w2 (vz 7) (l ++ [x]) := hrow
      have hown' : ∀ g, (vz 7).ownBlock = some g → (Value.slice ba l.length cap).ownBlock = some g ∨ w4.heap.size ≤ g := hown
      have d0 := hI.1.cell HC3.out HNE.out.1
      have d1 := hI.1.frozen (p := ⟨p, 3, none⟩) (cell_lt HC3.out) HF3.out HNE.out.1
      have HM5 := Lib.hid (HM4.out.set_l hI.1 hrow' hown')
      have HX5 := Lib.hid ((HX4.out.sav hI.1 HNE.out.2).sav (.set p 3 (vz 7)) (fun e => HM4.out.nin (r := bx) (by simp) (.inl e)))
      clear hv hrow hown hI hown'
      simp only [putN, List.drop_succ_cons, List.drop_zero, List.getElem?_cons_succ, List.getElem?_cons_zero]
      generalize vz 7 = u7 at *
      generalize vz 9 = u9 at *
      subst v9
      obtain ⟨a', cap', rfl⟩ := hrow'.shape
      clear hrow'
      rw [List.length_append, show [x].length = 1 from rfl] at *
      go_upto_region 5 with fail
      generalize w2.setCell ⟨p, 3, none⟩ (.slice a' (l.length + 1) cap') = wz at *
      clear d0 d1 HC3 HF3 HROW0 HNE HLT HM4 HX4
      have C5 := Lib.hid (And.intro HM5.out.at_.c3 HM5.out.at_.c2)
      refine wp_region_gg (n := 9) [Fg.eq (.pointer (some ⟨p, 0, none⟩)), Fg.eq (.pointer (some ⟨p, 0, none⟩)), Fg.eq (.pointer (some ⟨p, 3, none⟩)), Fg.eq (.slice (a') (l.length + 1) cap'), Fg.eq (.int .i64 (((l.length + 1 : Nat) : Int) : Int)), Fg.eq (.pointer (some ⟨p, 0, none⟩)), Fg.eq (.pointer (some ⟨p, 0, none⟩)), Fg.eq (.pointer (some ⟨p, 2, none⟩)), Fg.eq (.int .i64 q.room)] [45, 46, 47, 48, 49, 50, 51, 52, 53] (by kernel_rfl) (by kernel_rfl) (by kernel_rfl) ?_ ?_
      · intro L i o' ac w1 hi ho hA
        have hgr : Gr wz w1 := (Gr.refl wz).drew.trans hA.gr
        match i, hi with
        | 0, _ =>
          obtain rfl := Option.some.inj ho
          exact gg_plain rfl (gstep_val (q_move rfl (show ac.eval (.tmp 0) = .pointer (some ⟨p, 0, none⟩) from hA.other 0 (by decide))) rfl)
        | 1, _ =>
          obtain rfl := Option.some.inj ho
          exact gg_plain rfl (gstep_val (q_nil rfl (hA.fact 0 (hA.dep 0 (by kernel_rfl) (by decide)))) rfl)
        | 2, _ =>
          obtain rfl := Option.some.inj ho
          exact gg_plain rfl (gstep_val (rhp_fa_millraceref_Hashed_3 rfl (hA.fact 1 (hA.dep 1 (by kernel_rfl) (by decide)))) rfl)
        | 3, _ =>
          obtain rfl := Option.some.inj ho
          exact gg_plain rfl (gstep_val (rhp_loadS___millraceref_Pack rfl (hA.fact 2 (hA.dep 2 (by kernel_rfl) (by decide))) (hgr.cell C5.out.1)) rfl)
        | 4, _ =>
          obtain rfl := Option.some.inj ho
          exact gg_plain rfl (gstep_val (rhp_len___millraceref_Pack rfl (hA.fact 3 (hA.dep 3 (by kernel_rfl) (by decide)))) rfl)
        | 5, _ =>
          obtain rfl := Option.some.inj ho
          exact gg_plain rfl (gstep_val (q_move rfl (show ac.eval (.tmp 0) = .pointer (some ⟨p, 0, none⟩) from hA.other 0 (by decide))) rfl)
        | 6, _ =>
          obtain rfl := Option.some.inj ho
          exact gg_plain rfl (gstep_val (q_nil rfl (hA.fact 5 (hA.dep 5 (by kernel_rfl) (by decide)))) rfl)
        | 7, _ =>
          obtain rfl := Option.some.inj ho
          exact gg_plain rfl (gstep_val (rhp_fa_millraceref_Hashed_2 rfl (hA.fact 6 (hA.dep 6 (by kernel_rfl) (by decide)))) rfl)
        | 8, _ =>
          obtain rfl := Option.some.inj ho
          exact gg_plain rfl (gstep_val (q_loadI rfl (hA.fact 7 (hA.dep 7 (by kernel_rfl) (by decide))) (hgr.cell C5.out.2)) rfl)
        | k + 9, hk => exact absurd (show k + 9 < 9 from hk) (by omega)
      · intro vz w5 hg5 hv
        have HGY := Lib.hid ((Gr.refl wz).drew.trans hg5)
        have v49 : vz 4 = .int .i64 (((l.length + 1 : Nat) : Int) : Int) := hv 4 (by omega)
        have v53 : vz 8 = .int .i64 q.room := hv 8 (by omega)
        clear hv hg5
        simp only [putN, List.drop_succ_cons, List.drop_zero, List.getElem?_cons_succ, List.getElem?_cons_zero]
        generalize vz 4 = z49 at *
        subst v49
        generalize vz 8 = z53 at *
        subst v53
        generalize vz 0 = z45 at *
        generalize vz 1 = z46 at *
        generalize vz 2 = z47 at *
        generalize vz 3 = z48 at *
        generalize vz 5 = z50 at *
        generalize vz 6 = z51 at *
        generalize vz 7 = z52 at *
        have hroom := of_decide_eq_true CB.out
        go_wp2
        go_ret
        exact ⟨rfl, _, _, (HM5.out.gr HGY.out).did⟩
  · have HT1 : Hid (putT (fun k => ofK q l k) turn k = turn) := Lib.hid (by unfold putT; rw [if_neg hk0])
    have i2 : ¬ ((ofK q l k).length : Int) = 0 := by have := List.length_pos_iff.2 hk0; omega
    clear hk0
    go_upto_region 4 with (go_at_call 128; refine (HOF.out _ _ _ _ HM1.out.at_).mono ?_; rintro e w2 ⟨rr, rfl, hrow, hg2, _⟩; obtain ⟨ra, rc, rfl⟩ := hrow.shape; have HM2 := Lib.hid (HM1.out.gr hg2); have HX2 := Lib.hid (HX1.out.gr hg2); clear hrow hg2)
    obtain ⟨tv4, HM4⟩ : ∃ tv4, Hid (RHM w w2 p q lv (.slice ta turn.length tc) [bx] lv tv4 l (putT (fun k => ofK q l k) turn k)) := ⟨_, Lib.hid (by rw [HT1.out]; exact HM2.out)⟩
    have HX4 := HX2
    obtain ⟨w4, hw4⟩ : ∃ u, u = w2 := ⟨_, rfl⟩
    rw [← hw4] at HM4 HX4 ⊢
    clear hw4 i2 HM2 HX2 HM1 HX1
    obtain ⟨ba, cap, hlv⟩ := HM4.out.at_.row.shape
    subst hlv
    have HC3 := Lib.hid HM4.out.at_.c3
    have HF3 := Lib.hid HM4.out.at_.f3
    have HROW0 := Lib.hid HM4.out.at_.row
    have HNL := Lib.hid HOK.out.few
    have HNE : Hid (¬ (Value.slice ba l.length cap).ownBlock = some p ∧ ¬ (Value.slice ba l.length cap).ownBlock = some bx) := Lib.hid ⟨fun e => (HM4.out.at_.ap p e).1 rfl, fun e => HM4.out.nin (r := bx) (by simp) (.inr (.inl e))⟩
    have HLT := Lib.hid (fun g (hg : (Value.slice ba l.length cap).ownBlock = some g) => (show g < w4.heap.size from HROW0.out.lt hg))
    refine wp_region_k (n := 10) (fun u => Sav (fun q => (Value.slice ba l.length cap).ownBlock = some q) w4 u ∧ RowH 108 u (.slice ba l.length cap) l) [Fg.eq (.pointer (some ⟨p, 0, none⟩)), Fg.eq (.pointer (some ⟨p, 0, none⟩)), Fg.eq (.pointer (some ⟨p, 0, none⟩)), Fg.eq (.pointer (some ⟨p, 3, none⟩)), Fg.eq (.slice ba l.length cap), Fg.eq (x.val), Fg.hel w4.heap.size x, Fg.rowp w4 (.slice ba l.length cap) (l ++ [x]), Fg.eq (.pointer (some ⟨p, 0, none⟩)), Fg.eq (.pointer (some ⟨p, 3, none⟩))] [35, 36, 37, 38, 39, 40, 41, 42, 43, 44] (⟨.of_gr (Gr.refl w4).drew, HROW0.out.gr (Gr.refl w4).drew⟩) (by kernel_rfl) (by kernel_rfl) (by kernel_rfl) ?_ ?_
    · intro L i o a w1 hi ho hA
      have hI := hA.gr
      match i, hi with
      | 0, _ =>
        obtain rfl := Option.some.inj ho
        exact kstep_val hA (q_move rfl (show a.eval (.tmp 0) = .pointer (some ⟨p, 0, none⟩) from hA.other 0 (by decide))) rfl
      | 1, _ =>
        obtain rfl := Option.some.inj ho
        exact kstep_val hA (q_move rfl (show a.eval (.tmp 0) = .pointer (some ⟨p, 0, none⟩) from hA.other 0 (by decide))) rfl
      | 2, _ =>
        obtain rfl := Option.some.inj ho
        exact kstep_val hA (q_nil rfl (hA.fact 1 (hA.dep 1 (by kernel_rfl) (by decide)))) rfl
      | 3, _ =>
        obtain rfl := Option.some.inj ho
        exact kstep_val hA (r_fa_millraceref_Hashed_3 rfl (hA.fact 2 (hA.dep 2 (by kernel_rfl) (by decide)))) rfl
      | 4, _ =>
        obtain rfl := Option.some.inj ho
        exact kstep_val hA (q_loadSP rfl (hA.fact 3 (hA.dep 3 (by kernel_rfl) (by decide))) (hI.1.cell HC3.out HNE.out.1)) rfl
      | 5, _ =>
        obtain rfl := Option.some.inj ho
        exact kstep_val hA (q_loadP rfl (show a.eval (.tmp 5) = .pointer (some ⟨bx, 0, none⟩) from hA.other 5 (by decide)) (HX4.out.sav hI.1 HNE.out.2)) rfl
      | 6, _ =>
        obtain rfl := Option.some.inj ho
        exact kstep_gr hA (q_buildP rfl (hA.fact 5 (hA.dep 5 (by kernel_rfl) (by decide)))) ((Gr.refl _).alloc _) ⟨hI.1.then (.of_gr ((Gr.refl _).alloc _)), hI.2.gr ((Gr.refl _).alloc _)⟩ ⟨_, rfl, hI.1.size, held_new _ _ rfl⟩
      | 7, _ =>
        obtain rfl := Option.some.inj ho
        obtain ⟨g, hv, hg, hh⟩ := (hA.fact 6 (hA.dep 6 (by kernel_rfl) (by decide)))
        obtain ⟨i0, hi0, hz0, hz1, hz2⟩ := info_parts packInfo
        obtain ⟨v', w', hr, hrow, hgrow, hown, hold⟩ := RowH.app (P := Tryd.prog) (ys := [x]) 38 38 i0 Hel.zero.val Tryd.underlying38 hi0 hz0 hz1 hz2 rfl (by intro u hu; exact (cells_int Hel.zero u (by simpa [Hel.val, Value.cells, Hel.cells] using hu)).2) hI.2 ⟨g, 0, none⟩ 1 (by simp) (by rw [flat_one]; exact hh.news) (by have := HNL.out; simp; omega)
        refine kstep_keep hA (q_append rfl (hA.fact 4 (hA.dep 4 (by kernel_rfl) (by decide))) hv hr) ⟨hI.1.then (.of_grown hgrow fun _ h => h), hold⟩ ⟨hrow, fun g hg => (hown g hg).imp id (Nat.le_trans hI.1.size)⟩ ?_
        intro j hj u hu
        match j, hj, hu with
        | 0, _, hu => exact hu
        | 1, _, hu => exact hu
        | 2, _, hu => exact hu
        | 3, _, hu => exact hu
        | 4, _, hu => exact hu
        | 5, _, hu => exact hu
        | 8, _, hu => exact hu
        | 9, _, hu => exact hu
        | 6, _, hu => obtain ⟨g', h1, h2, h3⟩ := hu; exact ⟨g', h1, h2, h3.sav (B := fun q => (Value.slice ba l.length cap).ownBlock = some q) (.of_grown hgrow fun _ h => h) (fun e => by have := HLT.out g' e; omega)⟩
        | 7, hj, _ => exact absurd rfl hj
        | j + 10, _, _ => trivial
      | 8, _ =>
        obtain rfl := Option.some.inj ho
        exact kstep_val hA (q_nil rfl (hA.fact 0 (hA.dep 0 (by kernel_rfl) (by decide)))) rfl
      | 9, _ =>
        obtain rfl := Option.some.inj ho
        exact kstep_val hA (r_fa_millraceref_Hashed_3 rfl (hA.fact 8 (hA.dep 8 (by kernel_rfl) (by decide)))) rfl
    · intro vz w2 hI hv
      obtain ⟨hrow, hown⟩ := hv 7 (by omega)
      have v9 : vz 9 = .pointer (some ⟨p, 3, none⟩) := hv 9 (by omega)
      have hrow' : RowH 108 w2 (vz 7) (l ++ [x]) := hrow
      have hown' : ∀ g, (vz 7).ownBlock = some g → (Value.slice ba l.length cap).ownBlock = some g ∨ w4.heap.size ≤ g := hown
      have d0 := hI.1.cell HC3.out HNE.out.1
      have d1 := hI.1.frozen (p := ⟨p, 3, none⟩) (cell_lt HC3.out) HF3.out HNE.out.1
      have HM5 := Lib.hid (HM4.out.set_l hI.1 hrow' hown')
      have HX5 := Lib.hid ((HX4.out.sav hI.1 HNE.out.2).sav (.set p 3 (vz 7)) (fun e => HM4.out.nin (r := bx) (by simp) (.inl e)))
      clear hv hrow hown hI hown'
      simp only [putN, List.drop_succ_cons, List.drop_zero, List.getElem?_cons_succ, List.getElem?_cons_zero]
      generalize vz 7 = u7 at *
      generalize vz 9 = u9 at *
      subst v9
      obtain ⟨a', cap', rfl⟩ := hrow'.shape
      clear hrow'
      rw [List.length_append, show [x].length = 1 from rfl] at *
      go_upto_region 5 with fail
      generalize w2.setCell ⟨p, 3, none⟩ (.slice a' (l.length + 1) cap') = wz at *
      clear d0 d1 HC3 HF3 HROW0 HNE HLT HM4 HX4
      have C5 := Lib.hid (And.intro HM5.out.at_.c3 HM5.out.at_.c2)
      refine wp_region_gg (n := 9) [Fg.eq (.pointer (some ⟨p, 0, none⟩)), Fg.eq (.pointer (some ⟨p, 0, none⟩)), Fg.eq (.pointer (some ⟨p, 3, none⟩)), Fg.eq (.slice (a') (l.length + 1) cap'), Fg.eq (.int .i64 (((l.length + 1 : Nat) : Int) : Int)), Fg.eq (.pointer (some ⟨p, 0, none⟩)), Fg.eq (.pointer (some ⟨p, 0, none⟩)), Fg.eq (.pointer (some ⟨p, 2, none⟩)), Fg.eq (.int .i64 q.room)] [45, 46, 47, 48, 49, 50, 51, 52, 53] (by kernel_rfl) (by kernel_rfl) (by kernel_rfl) ?_ ?_
      · intro L i o' ac w1 hi ho hA
        have hgr : Gr wz w1 := (Gr.refl wz).drew.trans hA.gr
        match i, hi with
        | 0, _ =>
          obtain rfl := Option.some.inj ho
          exact gg_plain rfl (gstep_val (q_move rfl (show ac.eval (.tmp 0) = .pointer (some ⟨p, 0, none⟩) from hA.other 0 (by decide))) rfl)
        | 1, _ =>
          obtain rfl := Option.some.inj ho
          exact gg_plain rfl (gstep_val (q_nil rfl (hA.fact 0 (hA.dep 0 (by kernel_rfl) (by decide)))) rfl)
        | 2, _ =>
          obtain rfl := Option.some.inj ho
          exact gg_plain rfl (gstep_val (rhp_fa_millraceref_Hashed_3 rfl (hA.fact 1 (hA.dep 1 (by kernel_rfl) (by decide)))) rfl)
        | 3, _ =>
          obtain rfl := Option.some.inj ho
          exact gg_plain rfl (gstep_val (rhp_loadS___millraceref_Pack rfl (hA.fact 2 (hA.dep 2 (by kernel_rfl) (by decide))) (hgr.cell C5.out.1)) rfl)
        | 4, _ =>
          obtain rfl := Option.some.inj ho
          exact gg_plain rfl (gstep_val (rhp_len___millraceref_Pack rfl (hA.fact 3 (hA.dep 3 (by kernel_rfl) (by decide)))) rfl)
        | 5, _ =>
          obtain rfl := Option.some.inj ho
          exact gg_plain rfl (gstep_val (q_move rfl (show ac.eval (.tmp 0) = .pointer (some ⟨p, 0, none⟩) from hA.other 0 (by decide))) rfl)
        | 6, _ =>
          obtain rfl := Option.some.inj ho
          exact gg_plain rfl (gstep_val (q_nil rfl (hA.fact 5 (hA.dep 5 (by kernel_rfl) (by decide)))) rfl)
        | 7, _ =>
          obtain rfl := Option.some.inj ho
          exact gg_plain rfl (gstep_val (rhp_fa_millraceref_Hashed_2 rfl (hA.fact 6 (hA.dep 6 (by kernel_rfl) (by decide)))) rfl)
        | 8, _ =>
          obtain rfl := Option.some.inj ho
          exact gg_plain rfl (gstep_val (q_loadI rfl (hA.fact 7 (hA.dep 7 (by kernel_rfl) (by decide))) (hgr.cell C5.out.2)) rfl)
        | k + 9, hk => exact absurd (show k + 9 < 9 from hk) (by omega)
      · intro vz w5 hg5 hv
        have HGY := Lib.hid ((Gr.refl wz).drew.trans hg5)
        have v49 : vz 4 = .int .i64 (((l.length + 1 : Nat) : Int) : Int) := hv 4 (by omega)
        have v53 : vz 8 = .int .i64 q.room := hv 8 (by omega)
        clear hv hg5
        simp only [putN, List.drop_succ_cons, List.drop_zero, List.getElem?_cons_succ, List.getElem?_cons_zero]
        generalize vz 4 = z49 at *
        subst v49
        generalize vz 8 = z53 at *
        subst v53
        generalize vz 0 = z45 at *
        generalize vz 1 = z46 at *
        generalize vz 2 = z47 at *
        generalize vz 3 = z48 at *
        generalize vz 5 = z50 at *
        generalize vz 6 = z51 at *
        generalize vz 7 = z52 at *
        have hroom := of_decide_eq_true CB.out
        go_wp2
        go_ret
        exact ⟨rfl, _, _, (HM5.out.gr HGY.out).did⟩
end Go.Proofs.YtbpofdfehcbppaaDoor

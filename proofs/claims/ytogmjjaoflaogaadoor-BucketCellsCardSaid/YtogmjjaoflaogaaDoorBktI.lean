/-
  Which packets conform by when they should come: millraceref.Cells. (Printed by gencells.py.)
-/
import Derived.Test.YtogmjjaoflaogaaDoorBktG
namespace Go.Proofs.YtogmjjaoflaogaaDoor
open Go.RowKit Go.Extern.Stop Go.Stop Go.Extern

section
variable {ev : Operand → Value} {o : Oper} {w : World} {x : Operand}
theorem r_fa_api_Item_0 {p o' : Nat} (ho : o.op = .fieldAddr 73 x 0) (h : ev x = .pointer (some ⟨p, o', none⟩)) : (execOp ev o).run Tryd.prog w = .ok (.value (.pointer (some ⟨p, o', none⟩))) w := by
  simp [execOp, ho, h, go_sem]
theorem r_fa_api_Item_1 {p o' : Nat} (ho : o.op = .fieldAddr 73 x 1) (h : ev x = .pointer (some ⟨p, o', none⟩)) : (execOp ev o).run Tryd.prog w = .ok (.value (.pointer (some ⟨p, o' + 1, none⟩))) w := by
  simp [execOp, ho, h, go_sem]
end
theorem cfr_div (args : Array Value) (w : World) : (callFunc 33 args).run Tryd.prog w = .ok (.enter 33 args) w := by kernel_rfl
theorem cfr_greater (args : Array Value) (w : World) : (callFunc 36 args).run Tryd.prog w = .ok (.enter 36 args) w := by kernel_rfl
theorem sm_of (x : Int) (h : -9000000000000000000 ≤ x ∧ x ≤ 9000000000000000000) : Sm x := h
theorem B_denb (B : Bkt) : Den B.b := ⟨B.hb.1, B.hb.2⟩
theorem sg_nonpos {a b : Int} : sg a b ≤ 0 ↔ a ≤ b := by unfold sg; split; omega; split <;> omega
structure CellR (w wr : World) (g gk : Nat) (B : Bkt) (out : Value) (xs : List Bool) (sh : Int) : Prop where
  at_ : BRowAt w wr out xs
  t : RatV wr g sh B.b
  k : RatV wr gk (B.t : Int) B.b
section
variable {w wr u : World} {g gk g' : Nat} {B : Bkt} {out out' : Value} {xs ys : List Bool} {sh x : Int}
theorem CellR.gr (h : CellR w wr g gk B out xs sh) (k : Gr wr u) : CellR w u g gk B out xs sh := ⟨h.at_.gr k, h.t.gr k, h.k.gr k⟩
theorem CellR.to (h : CellR w wr g gk B out xs sh) (hr : RatV wr g' x B.b) : CellR w wr g' gk B out xs x := ⟨h.at_, hr, h.k⟩
theorem CellR.append (h : CellR w wr g gk B out xs sh) (hr : BoolRow u out' ys) (hg : wr.grownBy u out.ownBlock) (hb : ∀ g, out'.ownBlock = some g → out.ownBlock = some g ∨ wr.heap.size ≤ g) : CellR w u g gk B out' ys sh :=
  ⟨h.at_.append hr hg hb, h.t.row h.at_.row noRatBool hg, h.k.row h.at_.row noRatBool hg⟩
end
set_option maxRecDepth 100000 in
set_option maxHeartbeats 16000000 in
theorem rcells_ok (B : Bkt) {v : Value} {l : List Itm} (w : World) (hx : Items w v l) (hl : listCode l = 0) (hn : l.length ≤ 100) :
    Calls Tryd.prog 10 #[bktV (B.b : Int) (B.t : Int) (B.r : Int), v] w fun e w' => ∃ r, e = .returned r ∧ BoolRow w' r (upToB (cellOk B l) l.length) ∧ Gr w w' := by
  have hb := B.hb
  have ht := B.ht
  have hr := B.hr
  obtain ⟨a, cap, rfl⟩ := items_shape hx
  have HX : Hid (0 < l.length → ∃ b off, a = some ⟨b, off, none⟩ ∧ ∀ i, i < l.length → ItemAt w b (off + i * 5) (l.getD i .zero)) := Lib.hid (fun h0 => by
    obtain ⟨b, off, cap', h1, _, _, h2⟩ := items_cells hx h0
    simp at h1
    exact ⟨b, off, h1.1, h2.out⟩)
  have HIT := Lib.hid (fun k (hk : k < l.length) => itIn (list_zero hl hn) hk)
  have HOI := Lib.hid (fun k (hk : k ≤ l.length) => cellSt_in B (list_zero hl hn) k hk)
  have HQ := Lib.hid (fun k (hk : k < l.length) => cell_x B (itIn (list_zero hl hn) hk))
  have HM := Lib.hid (fun k (hk : k < l.length) => one_m B (itIn (list_zero hl hn) hk))
  obtain ⟨w0, hw0⟩ : ∃ w0, w0 = w.alloc (.cells #[.int .i64 (B.b : Int), .int .i64 (B.t : Int), .int .i64 (B.r : Int)] 34) := ⟨_, rfl⟩
  have HG0 : Hid (Gr w w0) := Lib.hid (by rw [hw0]; exact (Gr.refl w).alloc _)
  have HCC : Hid (w0.cell? ⟨w.heap.size, 0, none⟩ = some (.int .i64 (B.b : Int)) ∧ w0.cell? ⟨w.heap.size, 1, none⟩ = some (.int .i64 (B.t : Int)) ∧ w0.cell? ⟨w.heap.size, 2, none⟩ = some (.int .i64 (B.r : Int))) := Lib.hid (by rw [hw0]; exact ⟨by simp, by simp, by simp⟩)
  have b1 : (l.length : Int) ≤ 100 := by omega
  have hrt := B.room
  have HIY := Lib.hid (fun k => @cell_yes B l k)
  have HIN := Lib.hid (fun k => @cell_no B l k)
  obtain ⟨rt, hrt'⟩ : ∃ rt, rt = (B.r : Int) * (B.t : Int) := ⟨_, rfl⟩
  rw [← hrt'] at hrt HIY HIN
  have HRT := Lib.hid hrt'.symm
  have HI0 : Hid (∀ u, Calls Tryd.prog 32 #[.int .i64 0] u (NewR 0 B.b u)) := Lib.hid (fun u => by have := int_dT 0 (B_denb B) u (by omega); rwa [Int.zero_mul] at this)
  have HI1 := Lib.hid (fun u => refInt_any 1 u (by omega))
  have HIRM := Lib.hid (fun u => refInt_any (B.r : Int) u (by omega))
  have HDV : Hid (∀ g1 g2 u, RatV u g1 1 1 → RatV u g2 (B.b : Int) B.t → Calls Tryd.prog 33 #[.pointer (some ⟨g1, 0, none⟩), .pointer (some ⟨g2, 0, none⟩)] u (NewR (B.t : Int) B.b u)) := Lib.hid (fun g1 g2 u h1 h2 => by
    refine (refdiv_any g1 g2 1 B.b 1 B.t u h1 h2 (by omega) ⟨by omega, by omega, by omega, by omega, by rw [← Int.natAbs_mul]; omega, by omega⟩).mono fun e w' h => h.congr (by omega) (by rw [Int.one_mul, Nat.one_mul]))
  have HMR : Hid (∀ g1 g2 u, RatV u g1 (B.r : Int) 1 → RatV u g2 (B.t : Int) B.b → Calls Tryd.prog 37 #[.pointer (some ⟨g1, 0, none⟩), .pointer (some ⟨g2, 0, none⟩)] u (NewR rt B.b u)) := Lib.hid (fun g1 g2 u h1 h2 => by
    have := mul_dT (B_denb B) (by omega) (sm_of _ (by omega)) (sm_of _ (by rw [HRT.out]; omega)) h1 h2
    rwa [HRT.out] at this)
  have HML0 : Hid (∀ (n m : Int), 1 ≤ n ∧ n ≤ 10000 → n * (B.t : Int) = m → 0 ≤ m ∧ m ≤ 1000000000000 → ∀ g1 g2 u, RatV u g1 n 1 → RatV u g2 (B.t : Int) B.b → Calls Tryd.prog 37 #[.pointer (some ⟨g1, 0, none⟩), .pointer (some ⟨g2, 0, none⟩)] u (NewR m B.b u)) := Lib.hid (fun n m hn he hm g1 g2 u h1 h2 => by
    have := mul_dT (B_denb B) (by omega) (sm_of _ (by omega)) (sm_of _ (by rw [he]; omega)) h1 h2
    rwa [he] at this)
  unfold bktV at *
  clear hx hl hb ht hr hrt'
  generalize hnn : l.length = n at *
  have HN := Lib.hid hnn
  clear hnn
  go_enter Tryd.func10, Tryd.ntmps10
  go_wp2_with fail
  rw [← hw0]
  clear hw0
  go_wp2_with (go_at_call 32; (with_reducible refine (HI0.out _).mono ?_); rintro e w1' ⟨ga, rfl, _, hr1, hg1⟩; have HA1 := Lib.hid hr1; have HG1 := Lib.hid hg1; clear hr1 hg1)
  have HB : Hid (w1'.cell? ⟨w.heap.size, 0, none⟩ = some (.int .i64 (B.b : Int)) ∧ w1'.cell? ⟨w.heap.size, 1, none⟩ = some (.int .i64 (B.t : Int)) ∧ w1'.cell? ⟨w.heap.size, 2, none⟩ = some (.int .i64 (B.r : Int))) := Lib.hid ⟨HG1.out.cell HCC.out.1, HG1.out.cell HCC.out.2.1, HG1.out.cell HCC.out.2.2⟩
  refine wp_region_gr (n := 5) [Fg.rat 1 1, Fg.eq (.pointer (some ⟨w.heap.size, 0, none⟩)), Fg.eq (.agg #[.int .i64 (B.b : Int), .int .i64 (B.t : Int)]), Fg.rat (B.b : Int) B.t, Fg.rat (B.t : Int) B.b] [13, 14, 15, 16, 17] (by kernel_rfl) (by kernel_rfl) (by kernel_rfl) ?_ ?_
  · intro L i o a w1 hi ho hA
    have hgr : Gr w1' w1 := (Gr.refl w1').drew.trans hA.gr
    match i, hi with
    | 0, _ =>
      obtain rfl := Option.some.inj ho
      refine gstep_call (r_call1 rfl rfl cfr_Int rfl) ?_
      refine (HI1.out w1).mono ?_
      rintro e w2 ⟨g', rfl, _, hr, hg⟩
      exact ⟨_, rfl, hg, g', rfl, hr⟩
    | 1, _ =>
      obtain rfl := Option.some.inj ho
      exact gstep_val (r_fa_millraceref_Bucket_0 rfl (hA.other 2 (by decide))) rfl
    | 2, _ =>
      obtain rfl := Option.some.inj ho
      exact gstep_val (r_loadRate rfl (hA.fact 1 (hA.dep 1 (by kernel_rfl) (by decide))) (hgr.cell HB.out.1) (hgr.cell HB.out.2.1)) rfl
    | 3, _ =>
      obtain rfl := Option.some.inj ho
      refine gstep_call (r_call1 rfl rfl cfr_Speed (hA.fact 2 (hA.dep 2 (by kernel_rfl) (by decide)))) ?_
      refine (speed_any B.b B.t w1 B.hb.2 ⟨B.ht.1, B.ht.2⟩).mono ?_
      rintro e w2 ⟨g', rfl, _, hr, hg⟩
      exact ⟨_, rfl, hg, g', rfl, hr⟩
    | 4, _ =>
      obtain rfl := Option.some.inj ho
      obtain ⟨k0, hv0, hr0⟩ := (hA.fact 0 (hA.dep 0 (by kernel_rfl) (by decide)))
      obtain ⟨k1, hv1, hr1⟩ := (hA.fact 3 (hA.dep 3 (by kernel_rfl) (by decide)))
      refine gstep_call (r_call2 rfl rfl cfr_div hv0 hv1) ?_
      refine (HDV.out _ _ w1 hr0 hr1).mono ?_
      rintro e w2 ⟨g', rfl, _, hr, hg⟩
      exact ⟨_, rfl, hg, g', rfl, hr⟩
  · intro vs w2 hg hv
    have HG2 := Lib.hid ((Gr.refl w1').drew.trans hg)
    obtain ⟨gk, v4, hr⟩ := hv 4 (by omega)
    have v4' : vs 4 = .pointer (some ⟨gk, 0, none⟩) := v4
    have HC0 : Hid (CellR w0 w2 ga gk B (.slice none 0 0) (upToB (cellOk B l) 0) (cellSt B l 0)) := Lib.hid ⟨⟨BoolRow.nil _, ⟨(fun g hg => by cases hg), HG1.out.trans HG2.out⟩⟩, HA1.out.gr HG2.out, hr⟩
    clear hv hg hr v4 HB HA1 HG1 HG2
    simp only [putN, List.drop_succ_cons, List.drop_zero, List.getElem?_cons_succ, List.getElem?_cons_zero]
    generalize vs 4 = u17 at *
    subst v4'
    go_wp2
    go_loopw [5, 7, 20] (fun f out i wr => ∃ (k g1 : Nat), k ≤ n ∧ i = .int .i64 k ∧ f = .pointer (some ⟨g1, 0, none⟩) ∧ Hid (CellR w0 wr g1 gk B out (upToB (cellOk B l) k) (cellSt B l k))) (fun _ _ i _ => n - (intOf i).toNat)
    case atStart => exact ⟨0, ga, Nat.zero_le _, rfl, rfl, HC0⟩
    case round =>
      obtain ⟨k, g1, hk, rfl, rfl, HC⟩ := hrel
      by_cases hlt : k < n
      · obtain ⟨b, off, rfl, hA2⟩ := HX.out (by omega)
        have hit := hA2 k hlt
        have c0 := HC.out.at_.own.gr.cell (HG0.out.cell hit.c0)
        have c1 := HC.out.at_.own.gr.cell (HG0.out.cell hit.c1)
        have c2 := HC.out.at_.own.gr.cell (HG0.out.cell hit.c2)
        have c3 := HC.out.at_.own.gr.cell (HG0.out.cell hit.c3)
        have c4 := HC.out.at_.own.gr.cell (HG0.out.cell hit.c4)
        have i0 : (0 : Int) ≤ (k : Int) := by omega
        have i1 : (k : Int) < (n : Int) := by omega
        have HY := Lib.hid (HIY.out k)
        have HNO := Lib.hid (HIN.out k)
        have hq := HQ.out k hlt
        have hm := HM.out k hlt
        have ⟨t0, t1, n0, n1, _, _⟩ := HIT.out k hlt
        have hs := HOI.out k hk
        have HU := Lib.hid (upToB_succ (cellOk B l) k)
        have HK : Hid ((upToB (cellOk B l) k).length ≤ 1000000) := Lib.hid (by have := upToB_len (cellOk B l) k; omega)
        clear hA2 hit
        generalize l.getD k .zero = x at *
        obtain ⟨t, len, flow, band, mark⟩ := x
        simp only at *
        obtain ⟨w3, hw3⟩ : ∃ w3, w3 = wr.alloc (.cells #[.int .i64 t, .int .i64 len, .int .i64 flow, .int .i64 band, .int .i64 mark] 73) := ⟨_, rfl⟩
        have HR3 : Hid (CellR w0 w3 g1 gk B u7 (upToB (cellOk B l) k) (cellSt B l k)) := Lib.hid (by rw [hw3]; exact HC.out.gr ((Gr.refl wr).alloc _))
        have HT : Hid (w3.cell? ⟨wr.heap.size, 0, none⟩ = some (.int .i64 t) ∧ w3.cell? ⟨wr.heap.size, 1, none⟩ = some (.int .i64 len)) := Lib.hid (by rw [hw3]; exact ⟨by simp, by simp⟩)
        have HB : Hid (w3.cell? ⟨w.heap.size, 0, none⟩ = some (.int .i64 (B.b : Int)) ∧ w3.cell? ⟨w.heap.size, 1, none⟩ = some (.int .i64 (B.t : Int)) ∧ w3.cell? ⟨w.heap.size, 2, none⟩ = some (.int .i64 (B.r : Int))) := Lib.hid (by have h := HR3.out.at_.own.gr; exact ⟨h.cell HCC.out.1, h.cell HCC.out.2.1, h.cell HCC.out.2.2⟩)
        clear HC
        obtain ⟨q, hq'⟩ : ∃ q, q = t * (B.b : Int) := ⟨_, rfl⟩
        obtain ⟨m, hm'⟩ : ∃ m, m = len * (B.t : Int) := ⟨_, rfl⟩
        rw [← hq'] at hq HY HNO
        rw [← hm'] at hm HY HNO
        have HIT1 : Hid (∀ u, Calls Tryd.prog 32 #[.int .i64 t] u (NewR q B.b u)) := Lib.hid (fun u => by have := int_dT t (B_denb B) u (by omega); rwa [← hq'] at this)
        have HIL := Lib.hid (fun u => refInt_any len u (by omega))
        have HML := Lib.hid (HML0.out len m ⟨n0, n1⟩ hm'.symm hm)
        clear hq' hm'
        generalize cellSt B l k = sh at *
        generalize cellOk B l k = ok at *
        have HGT : Hid (∀ g1 g2 u, RatV u g1 sh B.b → RatV u g2 q B.b → Calls Tryd.prog 36 #[.pointer (some ⟨g1, 0, none⟩), .pointer (some ⟨g2, 0, none⟩)] u (OldR (max sh q) B.b u)) := Lib.hid (fun g1 g2 u h1 h2 => greater_dT (B_denb B) (sm_of _ (by omega)) (sm_of _ (by omega)) h1 h2)
        have HAD : Hid (∀ g1 g2 u, RatV u g1 (max sh q) B.b → RatV u g2 m B.b → Calls Tryd.prog 35 #[.pointer (some ⟨g1, 0, none⟩), .pointer (some ⟨g2, 0, none⟩)] u (NewR (max sh q + m) B.b u)) := Lib.hid (fun g1 g2 u h1 h2 => add_dT (B_denb B) (sm_of _ (by omega)) (sm_of _ (by omega)) h1 h2)
        have HAR : Hid (∀ g1 g2 u, RatV u g1 q B.b → RatV u g2 rt B.b → Calls Tryd.prog 35 #[.pointer (some ⟨g1, 0, none⟩), .pointer (some ⟨g2, 0, none⟩)] u (NewR (q + rt) B.b u)) := Lib.hid (fun g1 g2 u h1 h2 => add_dT (B_denb B) (sm_of _ (by omega)) (sm_of _ (by omega)) h1 h2)
        have HCM : Hid (∀ g1 g2 u, RatV u g1 (max sh q + m) B.b → RatV u g2 (q + rt) B.b → Calls Tryd.prog 38 #[.pointer (some ⟨g1, 0, none⟩), .pointer (some ⟨g2, 0, none⟩)] u fun e w' => e = .returned (.int .i64 (sg (max sh q + m) (q + rt))) ∧ Gr u w') := Lib.hid (fun g1 g2 u h1 h2 => cmp_dT (B_denb B) (sm_of _ (by omega)) (sm_of _ (by omega)) h1 h2)
        have HP : Hid (sg (max sh q + m) (q + rt) ≤ 0 ↔ max sh q + m ≤ q + rt) := Lib.hid sg_nonpos
        have sr := sg_in (max sh q + m) (q + rt)
        generalize sg (max sh q + m) (q + rt) = sd at *
        have sr' : -1 ≤ sd ∧ sd ≤ 1 := by omega
        clear sr
        go_wp2_with fail
        rw [← hw3]
        clear hw3
        refine wp_region_gr (n := 11) [Fg.eq (.pointer (some ⟨g1, 0, none⟩)), Fg.eq (.pointer (some ⟨wr.heap.size, 0, none⟩)), Fg.eq (.int .i64 t), Fg.rat q B.b, Fg.rat (max sh q) B.b, Fg.eq (.pointer (some ⟨wr.heap.size, 1, none⟩)), Fg.eq (.int .i64 len), Fg.rat len 1, Fg.eq (.pointer (some ⟨gk, 0, none⟩)), Fg.rat m B.b, Fg.rat (max sh q + m) B.b] [24, 25, 26, 27, 28, 29, 30, 31, 32, 33, 34] (by kernel_rfl) (by kernel_rfl) (by kernel_rfl) ?_ ?_
        · intro L i o a w1 hi ho hA
          have hgr : Gr w3 w1 := (Gr.refl w3).drew.trans hA.gr
          match i, hi with
          | 0, _ =>
            obtain rfl := Option.some.inj ho
            exact gstep_val (r_move rfl (hA.other 5 (by decide))) rfl
          | 1, _ =>
            obtain rfl := Option.some.inj ho
            exact gstep_val (r_fa_api_Item_0 rfl (hA.other 9 (by decide))) rfl
          | 2, _ =>
            obtain rfl := Option.some.inj ho
            exact gstep_val (r_loadI rfl (hA.fact 1 (hA.dep 1 (by kernel_rfl) (by decide))) (hgr.cell HT.out.1)) rfl
          | 3, _ =>
            obtain rfl := Option.some.inj ho
            refine gstep_call (r_call1 rfl rfl cfr_Int (hA.fact 2 (hA.dep 2 (by kernel_rfl) (by decide)))) ?_
            refine (HIT1.out w1).mono ?_
            rintro e w2 ⟨g', rfl, _, hr, hg⟩
            exact ⟨_, rfl, hg, g', rfl, hr⟩
          | 4, _ =>
            obtain rfl := Option.some.inj ho
            obtain ⟨k1, hv1, hr1⟩ := (hA.fact 3 (hA.dep 3 (by kernel_rfl) (by decide)))
            refine gstep_call (r_call2 rfl rfl cfr_greater (hA.fact 0 (hA.dep 0 (by kernel_rfl) (by decide))) hv1) ?_
            refine (HGT.out _ _ w1 (HR3.out.t.gr hgr) hr1).mono ?_
            rintro e w2 ⟨g', rfl, hr, hg⟩
            exact ⟨_, rfl, hg, g', rfl, hr⟩
          | 5, _ =>
            obtain rfl := Option.some.inj ho
            exact gstep_val (r_fa_api_Item_1 rfl (hA.other 9 (by decide))) rfl
          | 6, _ =>
            obtain rfl := Option.some.inj ho
            exact gstep_val (r_loadI rfl (hA.fact 5 (hA.dep 5 (by kernel_rfl) (by decide))) (hgr.cell HT.out.2)) rfl
          | 7, _ =>
            obtain rfl := Option.some.inj ho
            refine gstep_call (r_call1 rfl rfl cfr_Int (hA.fact 6 (hA.dep 6 (by kernel_rfl) (by decide)))) ?_
            refine (HIL.out w1).mono ?_
            rintro e w2 ⟨g', rfl, _, hr, hg⟩
            exact ⟨_, rfl, hg, g', rfl, hr⟩
          | 8, _ =>
            obtain rfl := Option.some.inj ho
            exact gstep_val (r_move rfl (hA.other 6 (by decide))) rfl
          | 9, _ =>
            obtain rfl := Option.some.inj ho
            obtain ⟨k0, hv0, hr0⟩ := (hA.fact 7 (hA.dep 7 (by kernel_rfl) (by decide)))
            refine gstep_call (r_call2 rfl rfl cfr_mul hv0 (hA.fact 8 (hA.dep 8 (by kernel_rfl) (by decide)))) ?_
            refine (HML.out _ _ w1 hr0 (HR3.out.k.gr hgr)).mono ?_
            rintro e w2 ⟨g', rfl, _, hr, hg⟩
            exact ⟨_, rfl, hg, g', rfl, hr⟩
          | 10, _ =>
            obtain rfl := Option.some.inj ho
            obtain ⟨k0, hv0, hr0⟩ := (hA.fact 4 (hA.dep 4 (by kernel_rfl) (by decide)))
            obtain ⟨k1, hv1, hr1⟩ := (hA.fact 9 (hA.dep 9 (by kernel_rfl) (by decide)))
            refine gstep_call (r_call2 rfl rfl cfr_add hv0 hv1) ?_
            refine (HAD.out _ _ w1 hr0 hr1).mono ?_
            rintro e w2 ⟨g', rfl, _, hr, hg⟩
            exact ⟨_, rfl, hg, g', rfl, hr⟩
        · intro vs w4 hg hv
          have HG4 := Lib.hid ((Gr.refl w3).drew.trans hg)
          obtain ⟨gn, v10, hr⟩ := hv 10 (by omega)
          have v10' : vs 10 = .pointer (some ⟨gn, 0, none⟩) := v10
          have HRN := Lib.hid hr
          have HR4 := Lib.hid (HR3.out.gr HG4.out)
          have HB4 : Hid (w4.cell? ⟨w.heap.size, 0, none⟩ = some (.int .i64 (B.b : Int)) ∧ w4.cell? ⟨w.heap.size, 1, none⟩ = some (.int .i64 (B.t : Int)) ∧ w4.cell? ⟨w.heap.size, 2, none⟩ = some (.int .i64 (B.r : Int))) := Lib.hid ⟨HG4.out.cell HB.out.1, HG4.out.cell HB.out.2.1, HG4.out.cell HB.out.2.2⟩
          have HT4 : Hid (w4.cell? ⟨wr.heap.size, 0, none⟩ = some (.int .i64 t) ∧ w4.cell? ⟨wr.heap.size, 1, none⟩ = some (.int .i64 len)) := Lib.hid ⟨HG4.out.cell HT.out.1, HG4.out.cell HT.out.2⟩
          clear hv hg hr v10 HB HT HR3 HG4
          have HB := HB4
          have HT := HT4
          clear HB4 HT4
          simp only [putN, List.drop_succ_cons, List.drop_zero, List.getElem?_cons_succ, List.getElem?_cons_zero]
          generalize vs 10 = u34 at *
          subst v10'
          go_wp2
          refine wp_region_gr (n := 11) [Fg.eq (.pointer (some ⟨gn, 0, none⟩)), Fg.eq (.pointer (some ⟨wr.heap.size, 0, none⟩)), Fg.eq (.int .i64 t), Fg.rat q B.b, Fg.eq (.pointer (some ⟨w.heap.size, 2, none⟩)), Fg.eq (.int .i64 (B.r : Int)), Fg.rat (B.r : Int) 1, Fg.eq (.pointer (some ⟨gk, 0, none⟩)), Fg.rat rt B.b, Fg.rat (q + rt) B.b, Fg.eq (.int .i64 sd)] [35, 36, 37, 38, 39, 40, 41, 42, 43, 44, 45] (by kernel_rfl) (by kernel_rfl) (by kernel_rfl) ?_ ?_
          · intro L i o a w1 hi ho hA
            have hgr : Gr w4 w1 := (Gr.refl w4).drew.trans hA.gr
            match i, hi with
            | 0, _ =>
              obtain rfl := Option.some.inj ho
              exact gstep_val (r_move rfl (hA.other 10 (by decide))) rfl
            | 1, _ =>
              obtain rfl := Option.some.inj ho
              exact gstep_val (r_fa_api_Item_0 rfl (hA.other 9 (by decide))) rfl
            | 2, _ =>
              obtain rfl := Option.some.inj ho
              exact gstep_val (r_loadI rfl (hA.fact 1 (hA.dep 1 (by kernel_rfl) (by decide))) (hgr.cell HT.out.1)) rfl
            | 3, _ =>
              obtain rfl := Option.some.inj ho
              refine gstep_call (r_call1 rfl rfl cfr_Int (hA.fact 2 (hA.dep 2 (by kernel_rfl) (by decide)))) ?_
              refine (HIT1.out w1).mono ?_
              rintro e w2 ⟨g', rfl, _, hr, hg⟩
              exact ⟨_, rfl, hg, g', rfl, hr⟩
            | 4, _ =>
              obtain rfl := Option.some.inj ho
              exact gstep_val (r_fa_millraceref_Bucket_1 rfl (hA.other 2 (by decide))) rfl
            | 5, _ =>
              obtain rfl := Option.some.inj ho
              exact gstep_val (r_loadI rfl (hA.fact 4 (hA.dep 4 (by kernel_rfl) (by decide))) (hgr.cell HB.out.2.2)) rfl
            | 6, _ =>
              obtain rfl := Option.some.inj ho
              refine gstep_call (r_call1 rfl rfl cfr_Int (hA.fact 5 (hA.dep 5 (by kernel_rfl) (by decide)))) ?_
              refine (HIRM.out w1).mono ?_
              rintro e w2 ⟨g', rfl, _, hr, hg⟩
              exact ⟨_, rfl, hg, g', rfl, hr⟩
            | 7, _ =>
              obtain rfl := Option.some.inj ho
              exact gstep_val (r_move rfl (hA.other 6 (by decide))) rfl
            | 8, _ =>
              obtain rfl := Option.some.inj ho
              obtain ⟨k0, hv0, hr0⟩ := (hA.fact 6 (hA.dep 6 (by kernel_rfl) (by decide)))
              refine gstep_call (r_call2 rfl rfl cfr_mul hv0 (hA.fact 7 (hA.dep 7 (by kernel_rfl) (by decide)))) ?_
              refine (HMR.out _ _ w1 hr0 (HR4.out.k.gr hgr)).mono ?_
              rintro e w2 ⟨g', rfl, _, hr, hg⟩
              exact ⟨_, rfl, hg, g', rfl, hr⟩
            | 9, _ =>
              obtain rfl := Option.some.inj ho
              obtain ⟨k0, hv0, hr0⟩ := (hA.fact 3 (hA.dep 3 (by kernel_rfl) (by decide)))
              obtain ⟨k1, hv1, hr1⟩ := (hA.fact 8 (hA.dep 8 (by kernel_rfl) (by decide)))
              refine gstep_call (r_call2 rfl rfl cfr_add hv0 hv1) ?_
              refine (HAR.out _ _ w1 hr0 hr1).mono ?_
              rintro e w2 ⟨g', rfl, _, hr, hg⟩
              exact ⟨_, rfl, hg, g', rfl, hr⟩
            | 10, _ =>
              obtain rfl := Option.some.inj ho
              obtain ⟨k1, hv1, hr1⟩ := (hA.fact 9 (hA.dep 9 (by kernel_rfl) (by decide)))
              refine gstep_call (r_call2 rfl rfl cfr_rcmp (hA.fact 0 (hA.dep 0 (by kernel_rfl) (by decide))) hv1) ?_
              refine (HCM.out _ _ w1 (HRN.out.gr hgr) hr1).mono ?_
              rintro e w2 ⟨rfl, hg⟩
              exact ⟨_, rfl, hg, rfl⟩
          · intro vs w5 hg hv
            have HG5 := Lib.hid ((Gr.refl w4).drew.trans hg)
            have v10 : vs 10 = .int .i64 sd := hv 10 (by omega)
            have HR5a := Lib.hid (HR4.out.gr HG5.out)
            have HRN5 := Lib.hid (HRN.out.gr HG5.out)
            clear hv hg HB HT HR4 HG5 HRN
            simp only [putN, List.drop_succ_cons, List.drop_zero, List.getElem?_cons_succ, List.getElem?_cons_zero]
            generalize vs 10 = u45 at *
            subst v10
            by_cases hsd : sd ≤ 0
            · have HR5 := Lib.hid (HR5a.out.to HRN5.out)
              clear HR5a HRN5
              have HW := Lib.hid (HY.out (by have := HP.out; omega))
              clear HY HNO HP
              go_wp2_with (at_builtin; refine wpList_append_boolR rfl _ _ _ (by rfl) (by rfl) u7 _ true (by rfl) (HR5.out.at_.gr ((Gr.refl _).alloc (.cells #[.bool true] 4))).row ⟨w5.heap.size, 0, none⟩ 1 (by rfl) (by simp) HK.out ?_; intro v' w6 hrow hgr hblk; have HC5 := Lib.hid ((HR5.out.gr ((Gr.refl w5).alloc (.cells #[.bool true] 4))).append (show BoolRow w6 v' (upToB (cellOk B l) (k + 1)) from by rw [← HU.out, HW.out.1]; exact hrow) hgr hblk); clear hrow hgr hblk)
              go_roundw
              case rel => exact ⟨k + 1, gn, by omega, by go_num, rfl, by rw [HW.out.2]; exact HC5⟩
              case measure => simp [intOf]; omega
            · have HR5 := HR5a
              clear HR5a HRN5
              have HW := Lib.hid (HNO.out (by have := HP.out; omega))
              clear HY HNO HP
              go_wp2_with (at_builtin; refine wpList_append_boolR rfl _ _ _ (by rfl) (by rfl) u7 _ false (by rfl) (HR5.out.at_.gr ((Gr.refl _).alloc (.cells #[.bool false] 4))).row ⟨w5.heap.size, 0, none⟩ 1 (by rfl) (by simp) HK.out ?_; intro v' w6 hrow hgr hblk; have HC5 := Lib.hid ((HR5.out.gr ((Gr.refl w5).alloc (.cells #[.bool false] 4))).append (show BoolRow w6 v' (upToB (cellOk B l) (k + 1)) from by rw [← HU.out, HW.out.1]; exact hrow) hgr hblk); clear hrow hgr hblk)
              go_roundw
              case rel => exact ⟨k + 1, g1, by omega, by go_num, rfl, by rw [HW.out.2]; exact HC5⟩
              case measure => simp [intOf]; omega
      · obtain rfl : k = n := by omega
        go_wp2
        go_ret
        exact ⟨_, rfl, HC.out.at_.row, HG0.out.trans HC.out.at_.own.gr⟩
end Go.Proofs.YtogmjjaoflaogaaDoor

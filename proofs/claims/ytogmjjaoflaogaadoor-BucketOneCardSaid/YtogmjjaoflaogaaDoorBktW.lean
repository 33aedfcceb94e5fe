/-
  Colors by one rate and two rooms: millraceref.One. (Printed by genone.py.)
-/
import Derived.Test.YtogmjjaoflaogaaDoorBktV
namespace Go.Proofs.YtogmjjaoflaogaaDoor
open Go.RowKit Go.Extern.Stop Go.Stop Go.Extern

section
variable {ev : Operand → Value} {o : Oper} {w : World} {x : Operand}
theorem r_fa_api_Item_0 {p o' : Nat} (ho : o.op = .fieldAddr 73 x 0) (h : ev x = .pointer (some ⟨p, o', none⟩)) : (execOp ev o).run Tryd.prog w = .ok (.value (.pointer (some ⟨p, o', none⟩))) w := by
  simp [execOp, ho, h, go_sem]
theorem r_fa_api_Item_1 {p o' : Nat} (ho : o.op = .fieldAddr 73 x 1) (h : ev x = .pointer (some ⟨p, o', none⟩)) : (execOp ev o).run Tryd.prog w = .ok (.value (.pointer (some ⟨p, o' + 1, none⟩))) w := by
  simp [execOp, ho, h, go_sem]
end
/-- One's round, the reference's. -/
structure OneR (w wr : World) (ga gc : Nat) (T : Nat) (out : Value) (xs : List Int) (s1 s2 : Int) : Prop where
  at_ : RowAt w wr out xs
  a : RatV wr ga s1 T
  c : RatV wr gc s2 T
section
variable {w wr u : World} {ga gc g : Nat} {T : Nat} {out out' : Value} {xs ys : List Int} {s1 s2 x : Int}
theorem OneR.gr (h : OneR w wr ga gc T out xs s1 s2) (k : Gr wr u) : OneR w u ga gc T out xs s1 s2 := ⟨h.at_.gr k, h.a.gr k, h.c.gr k⟩
theorem OneR.toA (h : OneR w wr ga gc T out xs s1 s2) (k : Gr wr u) (hr : RatV u g x T) : OneR w u g gc T out xs x s2 := ⟨h.at_.gr k, hr, h.c.gr k⟩
theorem OneR.toC (h : OneR w wr ga gc T out xs s1 s2) (k : Gr wr u) (hr : RatV u g x T) : OneR w u ga g T out xs s1 x := ⟨h.at_.gr k, h.a.gr k, hr⟩
theorem OneR.append (h : OneR w wr ga gc T out xs s1 s2) (hr : IntRow u out' ys) (hg : wr.grownBy u out.ownBlock) (hb : ∀ g, out'.ownBlock = some g → out.ownBlock = some g ∨ wr.heap.size ≤ g) : OneR w u ga gc T out' ys s1 s2 :=
  ⟨h.at_.append hr hg hb, h.a.row h.at_.row noRatI hg, h.c.row h.at_.row noRatI hg⟩
end
theorem sg_pos {a b : Int} : 0 < sg a b ↔ b < a := by unfold sg; split; omega; split <;> omega
theorem sg_nonneg {a b : Int} : 0 ≤ sg a b ↔ b ≤ a := by unfold sg; split; omega; split <;> omega
theorem sm_of {x : Int} (h : -9000000000000000000 ≤ x ∧ x ≤ 9000000000000000000) : Sm x := h
theorem B_den (B : Bkt) : Den B.t := ⟨B.ht.1, B.ht.2⟩

set_option maxRecDepth 100000 in
set_option maxHeartbeats 16000000 in
theorem rone_ok (B : Bkt) (E : Int) (hE : 0 ≤ E ∧ E ≤ 1000000) {v : Value} {l : List Itm} (w : World) (hx : Items w v l) (hl : listCode l = 0) (hn : l.length ≤ 100) :
    Calls Tryd.prog 17 #[bktV (B.b : Int) (B.t : Int) (B.r : Int), .int .i64 E, v] w fun e w' => ∃ r, e = .returned r ∧ IntRow w' r (upTo (oneCol B E l) l.length) ∧ Gr w w' := by
  have hb := B.hb
  have ht := B.ht
  have hr := B.hr
  obtain ⟨a, cap, rfl⟩ := items_shape hx
  have HX : Hid (0 < l.length → ∃ b off, a = some ⟨b, off, none⟩ ∧ ∀ i, i < l.length → ItemAt w b (off + i * 5) (l.getD i .zero)) := Lib.hid (fun h0 => by
    obtain ⟨b, off, cap', h1, _, _, h2⟩ := items_cells hx h0
    simp at h1
    exact ⟨b, off, h1.1, h2.out⟩)
  have HIT := Lib.hid (fun k (hk : k < l.length) => itIn (list_zero hl hn) hk)
  have HOI := Lib.hid (fun k (hk : k ≤ l.length) => oneSt_in B hE (list_zero hl hn) k hk)
  have HQ := Lib.hid (fun k (hk : k < l.length) => one_q B (itIn (list_zero hl hn) hk))
  have HM := Lib.hid (fun k (hk : k < l.length) => one_m B (itIn (list_zero hl hn) hk))
  obtain ⟨w0, hw0⟩ : ∃ w0, w0 = w.alloc (.cells #[.int .i64 (B.b : Int), .int .i64 (B.t : Int), .int .i64 (B.r : Int)] 34) := ⟨_, rfl⟩
  have HG0 : Hid (Gr w w0) := Lib.hid (by rw [hw0]; exact (Gr.refl w).alloc _)
  have HCC : Hid (w0.cell? ⟨w.heap.size, 0, none⟩ = some (.int .i64 (B.b : Int)) ∧ w0.cell? ⟨w.heap.size, 1, none⟩ = some (.int .i64 (B.t : Int)) ∧ w0.cell? ⟨w.heap.size, 2, none⟩ = some (.int .i64 (B.r : Int))) := Lib.hid (by rw [hw0]; exact ⟨by simp, by simp, by simp⟩)
  have b1 : (l.length : Int) ≤ 100 := by omega
  have hrt := B.room
  have het := B.need (n := E) hE
  obtain ⟨e0, e1⟩ := hE
  have HS0 : Hid ((oneSt B E l 0).1 = (B.r : Int) * (B.t : Int) ∧ (oneSt B E l 0).2 = E * (B.t : Int)) := Lib.hid ⟨rfl, rfl⟩
  have HIS := Lib.hid (fun k => one_is B E l k)
  obtain ⟨rt, hrt'⟩ : ∃ rt, rt = (B.r : Int) * (B.t : Int) := ⟨_, rfl⟩
  obtain ⟨et, het'⟩ : ∃ et, et = E * (B.t : Int) := ⟨_, rfl⟩
  rw [← hrt'] at hrt HS0
  rw [← het'] at het HS0
  have HIR : Hid (∀ u, Calls Tryd.prog 32 #[.int .i64 (B.r : Int)] u (NewR rt B.t u)) := Lib.hid (fun u => by have := int_dT (B.r : Int) (B_den B) u (by omega); rwa [← hrt'] at this)
  have HIE : Hid (∀ u, Calls Tryd.prog 32 #[.int .i64 E] u (NewR et B.t u)) := Lib.hid (fun u => by have := int_dT E (B_den B) u (by omega); rwa [← het'] at this)
  have HRT := Lib.hid (And.intro hrt' het')
  rw [show (B.r : Int) * (B.t : Int) = rt from hrt'.symm, show E * (B.t : Int) = et from het'.symm] at HIS
  unfold bktV at *
  clear hx hl hb ht hr hrt' het'
  generalize hnn : l.length = n at *
  have HN := Lib.hid hnn
  clear hnn
  have tok1 := trivial
  go_enter Tryd.func17, Tryd.ntmps17
  go_wp2_with fail
  rw [← hw0]
  clear hw0
  obtain ⟨x0, x1, x2⟩ := HCC.out
  go_wp2_with (first
    | (go_at_call 32; have _ := tok1; (with_reducible refine (HIR.out _).mono ?_); rintro e w1 ⟨ga0, rfl, _, hr1, hg1⟩; have HA1 := Lib.hid hr1; have HG1 := Lib.hid hg1; clear hr1 hg1 tok1; have tok2 := trivial)
    | (go_at_call 32; have _ := tok2; (with_reducible refine (HIE.out _).mono ?_); rintro e w2 ⟨gc0, rfl, _, hr2, hg2⟩; have HC0 : Hid (OneR w0 w2 ga0 gc0 B.t (.slice none 0 0) (upTo (oneCol B E l) 0) (oneSt B E l 0).1 (oneSt B E l 0).2) := Lib.hid (by rw [HS0.out.1, HS0.out.2]; exact ⟨⟨IntRow.nil _, ⟨(fun g hg => by cases hg), HG1.out.trans hg2⟩⟩, HA1.out.gr hg2, hr2⟩); clear hr2 hg2 tok2))
  clear HA1 HG1 x0 x1 x2
  go_loopw [7, 8, 9, 10, 21] (fun f s t out i wr => ∃ (k ga gc : Nat), k ≤ n ∧ i = .int .i64 k ∧ f = .pointer (some ⟨ga, 0, none⟩) ∧ s = .pointer (some ⟨gc, 0, none⟩) ∧ t = .int .i64 (lastT l k) ∧ Hid (OneR w0 wr ga gc B.t out (upTo (oneCol B E l) k) (oneSt B E l k).1 (oneSt B E l k).2)) (fun _ _ _ _ i _ => n - (intOf i).toNat)
  case atStart => exact ⟨0, ga0, gc0, Nat.zero_le _, rfl, rfl, rfl, rfl, HC0⟩
  case round =>
    obtain ⟨k, ga, gC, hk, rfl, rfl, rfl, rfl, HC⟩ := hrel
    by_cases hlt : k < n
    · obtain ⟨b, off, rfl, hA2⟩ := HX.out (by omega)
      have hit := hA2 k hlt
      have c0 := HC.out.at_.own.gr.cell (HG0.out.cell hit.c0)
      have c1 := HC.out.at_.own.gr.cell (HG0.out.cell hit.c1)
      have c2 := HC.out.at_.own.gr.cell (HG0.out.cell hit.c2)
      have c3 := HC.out.at_.own.gr.cell (HG0.out.cell hit.c3)
      have c4 := HC.out.at_.own.gr.cell (HG0.out.cell hit.c4)
      have i0 : (0 : Int) ≤ (k : Int) := by omega
      have i1 : (k : Int) < (n : Int) := by omega
      have HI := HIS.out k
      have hq := HQ.out k hlt
      have hm := HM.out k hlt
      have ⟨t0, t1, n0, n1, o0, o1⟩ := HIT.out k hlt
      have ⟨a0, a1, d0, d1⟩ := HOI.out k hk
      rw [← HRT.out.1] at a1
      rw [← HRT.out.2] at d1
      have HLT := Lib.hid (show lastT l (k + 1) = (l.getD k .zero).t from rfl)
      have HU := Lib.hid (upTo_succ (oneCol B E l) k)
      have HK : Hid ((upTo (oneCol B E l) k).length ≤ 1000000) := Lib.hid (by have := upTo_len (oneCol B E l) k; omega)
      clear hA2 hit
      generalize l.getD k .zero = x at *
      obtain ⟨t, len, flow, band, mark⟩ := x
      simp only at *
      obtain ⟨w3, hw3⟩ : ∃ w3, w3 = wr.alloc (.cells #[.int .i64 t, .int .i64 len, .int .i64 flow, .int .i64 band, .int .i64 mark] 73) := ⟨_, rfl⟩
      have HR3 : Hid (OneR w0 w3 ga gC B.t u10 (upTo (oneCol B E l) k) (oneSt B E l k).1 (oneSt B E l k).2) := Lib.hid (by rw [hw3]; exact HC.out.gr ((Gr.refl wr).alloc _))
      have HT : Hid (w3.cell? ⟨wr.heap.size, 0, none⟩ = some (.int .i64 t) ∧ w3.cell? ⟨wr.heap.size, 1, none⟩ = some (.int .i64 len)) := Lib.hid (by rw [hw3]; exact ⟨by simp, by simp⟩)
      have HB : Hid (w3.cell? ⟨w.heap.size, 0, none⟩ = some (.int .i64 (B.b : Int)) ∧ w3.cell? ⟨w.heap.size, 1, none⟩ = some (.int .i64 (B.t : Int)) ∧ w3.cell? ⟨w.heap.size, 2, none⟩ = some (.int .i64 (B.r : Int))) := Lib.hid (by have h := HR3.out.at_.own.gr; exact ⟨h.cell HCC.out.1, h.cell HCC.out.2.1, h.cell HCC.out.2.2⟩)
      clear HC
      generalize lastT l k = tl at *
      obtain ⟨q, hq'⟩ : ∃ q, q = (t - tl) * (B.b : Int) := ⟨_, rfl⟩
      obtain ⟨m, hm'⟩ : ∃ m, m = len * (B.t : Int) := ⟨_, rfl⟩
      rw [← hq'] at HI hq
      rw [← hm'] at HI hm
      have HQQ := Lib.hid hq'.symm
      have HMM := Lib.hid hm'.symm
      clear hq' hm'
      generalize (oneSt B E l k).1 = s1 at *
      generalize (oneSt B E l k).2 = s2 at *
      generalize oneCol B E l k = c at *
      obtain ⟨f1, hf1⟩ : ∃ y, y = (oneSt B E l (k + 1)).1 := ⟨_, rfl⟩
      obtain ⟨f2, hf2⟩ : ∃ y, y = (oneSt B E l (k + 1)).2 := ⟨_, rfl⟩
      rw [← hf1, ← hf2] at HI
      replace HI := Lib.hid HI
      have HF := Lib.hid (And.intro hf1.symm hf2.symm)
      clear hf1 hf2
      have HTT := Lib.hid (show 0 ≤ t - tl ∧ t - tl ≤ 1000000000 by omega)
      have HI1 := Lib.hid (fun u => refInt_any (t - tl) u (by omega))
      have HMU : Hid (∀ g1 g2 u, RatV u g1 (t - tl) 1 → RatV u g2 (B.b : Int) B.t → Calls Tryd.prog 37 #[.pointer (some ⟨g1, 0, none⟩), .pointer (some ⟨g2, 0, none⟩)] u (NewR q B.t u)) := Lib.hid (fun g1 g2 u h1 h2 => by
        have hb := B.hb
        have := mul_dT (B_den B) (by omega) (sm_of (by omega)) (sm_of (by rw [HQQ.out]; omega)) h1 h2
        rwa [HQQ.out] at this)
      have HAD : Hid (∀ g1 g2 u, RatV u g1 s1 B.t → RatV u g2 q B.t → Calls Tryd.prog 35 #[.pointer (some ⟨g1, 0, none⟩), .pointer (some ⟨g2, 0, none⟩)] u (NewR (s1 + q) B.t u)) := Lib.hid (fun g1 g2 u h1 h2 => add_dT (B_den B) (sm_of (by omega)) (sm_of (by omega)) h1 h2)
      have HSU : Hid (∀ g1 g2 u, RatV u g1 (s1 + q) B.t → RatV u g2 rt B.t → Calls Tryd.prog 45 #[.pointer (some ⟨g1, 0, none⟩), .pointer (some ⟨g2, 0, none⟩)] u (NewR (s1 + q - rt) B.t u)) := Lib.hid (fun g1 g2 u h1 h2 => sub_dT (B_den B) (sm_of (by omega)) (sm_of (by omega)) h1 h2)
      have HA2 : Hid (∀ g1 g2 u, RatV u g1 s2 B.t → RatV u g2 (s1 + q - rt) B.t → Calls Tryd.prog 35 #[.pointer (some ⟨g1, 0, none⟩), .pointer (some ⟨g2, 0, none⟩)] u (NewR (s2 + (s1 + q - rt)) B.t u)) := Lib.hid (fun g1 g2 u h1 h2 => add_dT (B_den B) (sm_of (by omega)) (sm_of (by omega)) h1 h2)
      have HLE : Hid (∀ g1 g2 u, RatV u g1 et B.t → RatV u g2 (s2 + (s1 + q - rt)) B.t → Calls Tryd.prog 44 #[.pointer (some ⟨g1, 0, none⟩), .pointer (some ⟨g2, 0, none⟩)] u (OldR (min et (s2 + (s1 + q - rt))) B.t u)) := Lib.hid (fun g1 g2 u h1 h2 => lesser_dT (B_den B) (sm_of (by omega)) (sm_of (by omega)) h1 h2)
      have HCM : Hid (∀ g1 g2 u, RatV u g1 (s1 + q) B.t → RatV u g2 rt B.t → Calls Tryd.prog 38 #[.pointer (some ⟨g1, 0, none⟩), .pointer (some ⟨g2, 0, none⟩)] u fun e w' => e = .returned (.int .i64 (sg (s1 + q) rt)) ∧ Gr u w') := Lib.hid (fun g1 g2 u h1 h2 => cmp_dT (B_den B) (sm_of (by omega)) (sm_of (by omega)) h1 h2)
      have HP : Hid (0 < sg (s1 + q) rt ↔ rt < s1 + q) := Lib.hid sg_pos
      have sr := sg_in (s1 + q) rt
      generalize sg (s1 + q) rt = dd at *
      have sr' : -1 ≤ dd ∧ dd ≤ 1 := by omega
      clear sr
      have HLN := Lib.hid (show 0 ≤ m from hm.1)
      have HRA := Lib.hid HR3.out.a
      go_wp2_with fail
      rw [← hw3]
      clear hw3
      refine wp_region_gr (n := 11) [Fg.eq (.pointer (some ⟨ga, 0, none⟩)), Fg.eq (.pointer (some ⟨wr.heap.size, 0, none⟩)), Fg.eq (.int .i64 t), Fg.eq (.int .i64 tl), Fg.eq (.int .i64 (t - tl)), Fg.rat (t - tl) 1, Fg.eq (.pointer (some ⟨w.heap.size, 0, none⟩)), Fg.eq (.agg #[.int .i64 (B.b : Int), .int .i64 (B.t : Int)]), Fg.rat (B.b : Int) B.t, Fg.rat q B.t, Fg.rat (s1 + q) B.t] [25, 26, 27, 28, 29, 30, 31, 32, 33, 34, 35] (by kernel_rfl) (by kernel_rfl) (by kernel_rfl) ?_ ?_
      · intro L i o a w1 hi ho hA
        have hgr : Gr w3 w1 := (Gr.refl w3).drew.trans hA.gr
        match i, hi with
        | 0, _ =>
          obtain rfl := Option.some.inj ho
          exact gstep_val (r_move rfl (hA.other 7 (by decide))) rfl
        | 1, _ =>
          obtain rfl := Option.some.inj ho
          exact gstep_val (r_fa_api_Item_0 rfl (hA.other 12 (by decide))) rfl
        | 2, _ =>
          obtain rfl := Option.some.inj ho
          exact gstep_val (r_loadI rfl (hA.fact 1 (hA.dep 1 (by kernel_rfl) (by decide))) (hgr.cell HT.out.1)) rfl
        | 3, _ =>
          obtain rfl := Option.some.inj ho
          exact gstep_val (r_move rfl (hA.other 9 (by decide))) rfl
        | 4, _ =>
          obtain rfl := Option.some.inj ho
          exact gstep_val (r_sub rfl (hA.fact 2 (hA.dep 2 (by kernel_rfl) (by decide))) (hA.fact 3 (hA.dep 3 (by kernel_rfl) (by decide))) (by have := HTT.out; omega)) rfl
        | 5, _ =>
          obtain rfl := Option.some.inj ho
          refine gstep_call (r_call1 rfl rfl cfr_Int (hA.fact 4 (hA.dep 4 (by kernel_rfl) (by decide)))) ?_
          refine (HI1.out w1).mono ?_
          rintro e w2 ⟨g', rfl, _, hr, hg⟩
          exact ⟨_, rfl, hg, g', rfl, hr⟩
        | 6, _ =>
          obtain rfl := Option.some.inj ho
          exact gstep_val (r_fa_millraceref_Bucket_0 rfl (hA.other 3 (by decide))) rfl
        | 7, _ =>
          obtain rfl := Option.some.inj ho
          exact gstep_val (r_loadRate rfl (hA.fact 6 (hA.dep 6 (by kernel_rfl) (by decide))) (hgr.cell HB.out.1) (hgr.cell HB.out.2.1)) rfl
        | 8, _ =>
          obtain rfl := Option.some.inj ho
          refine gstep_call (r_call1 rfl rfl cfr_Speed (hA.fact 7 (hA.dep 7 (by kernel_rfl) (by decide)))) ?_
          refine (speed_any B.b B.t w1 B.hb.2 ⟨B.ht.1, B.ht.2⟩).mono ?_
          rintro e w2 ⟨g', rfl, _, hr, hg⟩
          exact ⟨_, rfl, hg, g', rfl, hr⟩
        | 9, _ =>
          obtain rfl := Option.some.inj ho
          obtain ⟨k0, hv0, hr0⟩ := (hA.fact 5 (hA.dep 5 (by kernel_rfl) (by decide)))
          obtain ⟨k1, hv1, hr1⟩ := (hA.fact 8 (hA.dep 8 (by kernel_rfl) (by decide)))
          refine gstep_call (r_call2 rfl rfl cfr_mul hv0 hv1) ?_
          refine (HMU.out _ _ w1 hr0 hr1).mono ?_
          rintro e w2 ⟨g', rfl, _, hr, hg⟩
          exact ⟨_, rfl, hg, g', rfl, hr⟩
        | 10, _ =>
          obtain rfl := Option.some.inj ho
          obtain ⟨k1, hv1, hr1⟩ := (hA.fact 9 (hA.dep 9 (by kernel_rfl) (by decide)))
          refine gstep_call (r_call2 rfl rfl cfr_add (hA.fact 0 (hA.dep 0 (by kernel_rfl) (by decide))) hv1) ?_
          refine (HAD.out _ _ w1 (HRA.out.gr hgr) hr1).mono ?_
          rintro e w2 ⟨g', rfl, _, hr, hg⟩
          exact ⟨_, rfl, hg, g', rfl, hr⟩
      · intro vs w4 hg hv
        have HG4 := Lib.hid ((Gr.refl w3).drew.trans hg)
        obtain ⟨gb, v10, hr⟩ := hv 10 (by omega)
        have v10' : vs 10 = .pointer (some ⟨gb, 0, none⟩) := v10
        have HR4 := Lib.hid (HR3.out.toA HG4.out hr)
        have HRB := Lib.hid hr
        have y0 := HG4.out.cell HT.out.1
        have y1 := HG4.out.cell HT.out.2
        have p2 := HG4.out.cell HB.out.2.2
        have HB4 : Hid (w4.cell? ⟨w.heap.size, 0, none⟩ = some (.int .i64 (B.b : Int)) ∧ w4.cell? ⟨w.heap.size, 1, none⟩ = some (.int .i64 (B.t : Int)) ∧ w4.cell? ⟨w.heap.size, 2, none⟩ = some (.int .i64 (B.r : Int))) := Lib.hid ⟨HG4.out.cell HB.out.1, HG4.out.cell HB.out.2.1, HG4.out.cell HB.out.2.2⟩
        have HT4 : Hid (w4.cell? ⟨wr.heap.size, 0, none⟩ = some (.int .i64 t) ∧ w4.cell? ⟨wr.heap.size, 1, none⟩ = some (.int .i64 len)) := Lib.hid ⟨y0, y1⟩
        clear hv hg hr v10 HB HT HR3 HRA HG4
        simp only [putN, List.drop_succ_cons, List.drop_zero, List.getElem?_cons_succ, List.getElem?_cons_zero]
        generalize vs 10 = u35 at *
        subst v10'
        by_cases hov : rt < s1 + q
        · have hdd : 0 < dd := HP.out.2 hov
          go_wp2_with (first
            | (go_at_call 32; (with_reducible refine (HIR.out _).mono ?_); rintro e w5 ⟨gx, rfl, _, hr5, hg5⟩; have HX5 := Lib.hid hr5; have HG5 := Lib.hid hg5; clear hr5 hg5)
            | (go_at_call 38; (with_reducible refine (HCM.out _ _ _ (HRB.out.gr HG5.out) HX5.out).mono ?_); rintro e w6 ⟨rfl, hg6⟩; have HG6 := Lib.hid (HG5.out.trans hg6); clear hg6))
          have HR6 := Lib.hid (HR4.out.gr HG6.out)
          have HB : Hid (w6.cell? ⟨w.heap.size, 0, none⟩ = some (.int .i64 (B.b : Int)) ∧ w6.cell? ⟨w.heap.size, 1, none⟩ = some (.int .i64 (B.t : Int)) ∧ w6.cell? ⟨w.heap.size, 2, none⟩ = some (.int .i64 (B.r : Int))) := Lib.hid ⟨HG6.out.cell HB4.out.1, HG6.out.cell HB4.out.2.1, HG6.out.cell HB4.out.2.2⟩
          have HT : Hid (w6.cell? ⟨wr.heap.size, 0, none⟩ = some (.int .i64 t) ∧ w6.cell? ⟨wr.heap.size, 1, none⟩ = some (.int .i64 len)) := Lib.hid ⟨HG6.out.cell HT4.out.1, HG6.out.cell HT4.out.2⟩
          clear HG5 HX5 HG6 HR4 HRB y0 y1 p2 HB4 HT4
          have HRB := Lib.hid HR6.out.a
          have HRC := Lib.hid HR6.out.c
          refine wp_region_gr (n := 10) [Fg.eq (.int .i64 E), Fg.rat et B.t, Fg.eq (.pointer (some ⟨gC, 0, none⟩)), Fg.eq (.pointer (some ⟨gb, 0, none⟩)), Fg.eq (.pointer (some ⟨w.heap.size, 2, none⟩)), Fg.eq (.int .i64 (B.r : Int)), Fg.rat rt B.t, Fg.rat (s1 + q - rt) B.t, Fg.rat (s2 + (s1 + q - rt)) B.t, Fg.rat (min et (s2 + (s1 + q - rt))) B.t] [44, 45, 46, 47, 48, 49, 50, 51, 52, 53] (by kernel_rfl) (by kernel_rfl) (by kernel_rfl) ?_ ?_
          · intro L i o a w1 hi ho hA
            have hgr : Gr w6 w1 := (Gr.refl w6).drew.trans hA.gr
            match i, hi with
            | 0, _ =>
              obtain rfl := Option.some.inj ho
              exact gstep_val (r_move rfl (hA.other 1 (by decide))) rfl
            | 1, _ =>
              obtain rfl := Option.some.inj ho
              refine gstep_call (r_call1 rfl rfl cfr_Int (hA.fact 0 (hA.dep 0 (by kernel_rfl) (by decide)))) ?_
              refine (HIE.out w1).mono ?_
              rintro e w2 ⟨g', rfl, _, hr, hg⟩
              exact ⟨_, rfl, hg, g', rfl, hr⟩
            | 2, _ =>
              obtain rfl := Option.some.inj ho
              exact gstep_val (r_move rfl (hA.other 8 (by decide))) rfl
            | 3, _ =>
              obtain rfl := Option.some.inj ho
              exact gstep_val (r_move rfl (hA.other 7 (by decide))) rfl
            | 4, _ =>
              obtain rfl := Option.some.inj ho
              exact gstep_val (r_fa_millraceref_Bucket_1 rfl (hA.other 3 (by decide))) rfl
            | 5, _ =>
              obtain rfl := Option.some.inj ho
              exact gstep_val (r_loadI rfl (hA.fact 4 (hA.dep 4 (by kernel_rfl) (by decide))) (hgr.cell HB.out.2.2)) rfl
            | 6, _ =>
              obtain rfl := Option.some.inj ho
              refine gstep_call (r_call1 rfl rfl cfr_Int (hA.fact 5 (hA.dep 5 (by kernel_rfl) (by decide)))) ?_
              refine (HIR.out w1).mono ?_
              rintro e w2 ⟨g', rfl, _, hr, hg⟩
              exact ⟨_, rfl, hg, g', rfl, hr⟩
            | 7, _ =>
              obtain rfl := Option.some.inj ho
              obtain ⟨k1, hv1, hr1⟩ := (hA.fact 6 (hA.dep 6 (by kernel_rfl) (by decide)))
              refine gstep_call (r_call2 rfl rfl cfr_sub (hA.fact 3 (hA.dep 3 (by kernel_rfl) (by decide))) hv1) ?_
              refine (HSU.out _ _ w1 (HRB.out.gr hgr) hr1).mono ?_
              rintro e w2 ⟨g', rfl, _, hr, hg⟩
              exact ⟨_, rfl, hg, g', rfl, hr⟩
            | 8, _ =>
              obtain rfl := Option.some.inj ho
              obtain ⟨k1, hv1, hr1⟩ := (hA.fact 7 (hA.dep 7 (by kernel_rfl) (by decide)))
              refine gstep_call (r_call2 rfl rfl cfr_add (hA.fact 2 (hA.dep 2 (by kernel_rfl) (by decide))) hv1) ?_
              refine (HA2.out _ _ w1 (HRC.out.gr hgr) hr1).mono ?_
              rintro e w2 ⟨g', rfl, _, hr, hg⟩
              exact ⟨_, rfl, hg, g', rfl, hr⟩
            | 9, _ =>
              obtain rfl := Option.some.inj ho
              obtain ⟨k0, hv0, hr0⟩ := (hA.fact 1 (hA.dep 1 (by kernel_rfl) (by decide)))
              obtain ⟨k1, hv1, hr1⟩ := (hA.fact 8 (hA.dep 8 (by kernel_rfl) (by decide)))
              refine gstep_call (r_call2 rfl rfl cfr_lesser hv0 hv1) ?_
              refine (HLE.out _ _ w1 hr0 hr1).mono ?_
              rintro e w2 ⟨g', rfl, hr, hg⟩
              exact ⟨_, rfl, hg, g', rfl, hr⟩
          · intro vs w7 hg hv
            have HG7 := Lib.hid ((Gr.refl w6).drew.trans hg)
            obtain ⟨gD, v9, hr⟩ := hv 9 (by omega)
            have v9' : vs 9 = .pointer (some ⟨gD, 0, none⟩) := v9
            have HR7 := Lib.hid (HR6.out.toC HG7.out hr)
            have y1 := HG7.out.cell HT.out.2
            have p2 := HG7.out.cell HB.out.2.2
            have HT7 := Lib.hid (HG7.out.cell HT.out.2)
            clear hv hg hr v9 HB HT HR6 HRB HRC HG7
            simp only [putN, List.drop_succ_cons, List.drop_zero, List.getElem?_cons_succ, List.getElem?_cons_zero]
            generalize vs 9 = u53 at *
            subst v9'
            have tok5 := trivial
            go_wp2_with (go_at_call 32; have _ := tok5; (with_reducible refine (HIR.out _).mono ?_); rintro e w5 ⟨gA, rfl, _, hr5, hg5⟩; have HR5 := Lib.hid (HR7.out.toA hg5 hr5); have y2 := hg5.cell HT7.out; clear hr5 hg5 tok5)
            have hn0 := HLN.out
            have HCM1 : Hid (∀ g2 u, Gr w5 u → RatV u g2 m B.t → Calls Tryd.prog 38 #[.pointer (some ⟨gA, 0, none⟩), .pointer (some ⟨g2, 0, none⟩)] u fun e w' => e = .returned (.int .i64 (sg (rt) m)) ∧ Gr u w') := Lib.hid (fun g2 u k h2 => cmp_dT (B_den B) (sm_of (by omega)) (sm_of (by omega)) (HR5.out.a.gr k) h2)
            have HCM2 : Hid (∀ g2 u, Gr w5 u → RatV u g2 m B.t → Calls Tryd.prog 38 #[.pointer (some ⟨gD, 0, none⟩), .pointer (some ⟨g2, 0, none⟩)] u fun e w' => e = .returned (.int .i64 (sg (min et (s2 + (s1 + q - rt))) m)) ∧ Gr u w') := Lib.hid (fun g2 u k h2 => cmp_dT (B_den B) (sm_of (by omega)) (sm_of (by omega)) (HR5.out.c.gr k) h2)
            have HSB1 : Hid (∀ g2 u, Gr w5 u → RatV u g2 m B.t → Calls Tryd.prog 45 #[.pointer (some ⟨gA, 0, none⟩), .pointer (some ⟨g2, 0, none⟩)] u (NewR ((rt) - m) B.t u)) := Lib.hid (fun g2 u k h2 => sub_dT (B_den B) (sm_of (by omega)) (sm_of (by omega)) (HR5.out.a.gr k) h2)
            have HSB2 : Hid (∀ g2 u, Gr w5 u → RatV u g2 m B.t → Calls Tryd.prog 45 #[.pointer (some ⟨gD, 0, none⟩), .pointer (some ⟨g2, 0, none⟩)] u (NewR ((min et (s2 + (s1 + q - rt))) - m) B.t u)) := Lib.hid (fun g2 u k h2 => sub_dT (B_den B) (sm_of (by omega)) (sm_of (by omega)) (HR5.out.c.gr k) h2)
            have HINT : Hid (∀ u, Calls Tryd.prog 32 #[.int .i64 len] u (NewR m B.t u)) := Lib.hid (fun u => by have := int_dT len (B_den B) u (by omega); rwa [HMM.out] at this)
            have HP1 : Hid (0 ≤ sg (rt) m ↔ m ≤ rt) := Lib.hid sg_nonneg
            have HP2 : Hid (0 ≤ sg (min et (s2 + (s1 + q - rt))) m ↔ m ≤ min et (s2 + (s1 + q - rt))) := Lib.hid sg_nonneg
            have sr1 := sg_in (rt) m
            have sr2 := sg_in (min et (s2 + (s1 + q - rt))) m
            generalize sg (rt) m = d1 at *
            generalize sg (min et (s2 + (s1 + q - rt))) m = d2 at *
            have sr1' : -1 ≤ d1 ∧ d1 ≤ 1 := by omega
            have sr2' : -1 ≤ d2 ∧ d2 ≤ 1 := by omega
            clear sr1 sr2
            by_cases w1 : m ≤ rt
            · have g1 : 0 ≤ d1 := HP1.out.2 w1
              go_wp2_with (first
                | (go_at_call 32; (with_reducible refine (HINT.out _).mono ?_); rintro e w6 ⟨gn, rfl, _, hr6, hg6⟩; have HRN := Lib.hid hr6; have HG6 := Lib.hid hg6; clear hr6 hg6)
                | (go_at_call 38; (with_reducible refine (HCM1.out _ _ HG6.out HRN.out).mono ?_); rintro e w7 ⟨rfl, hg7⟩; have HG7 := Lib.hid (HG6.out.trans hg7); have HRN7 := Lib.hid (HRN.out.gr hg7); clear hg7)
                | (go_at_call 45; (with_reducible refine (HSB1.out _ _ HG7.out HRN7.out).mono ?_); rintro e w8 ⟨gz, rfl, _, hr8, hg8⟩; have HR8 := Lib.hid ((HR5.out.toA (HG7.out.trans hg8) hr8).gr ((Gr.refl w8).alloc (.cells #[.int .i64 1] 3))); clear hr8 hg8)
                | (at_builtin; refine wpList_append_intR rfl _ _ _ (by rfl) (by rfl) u10 _ 1 (by rfl) HR8.out.at_.row ⟨w8.heap.size, 0, none⟩ 1 (by rfl) (by simp) HK.out ?_; intro v' wz hrow hgr hblk; have HC5 := Lib.hid (HR8.out.append (show IntRow wz v' (upTo (oneCol B E l) (k + 1)) from by rw [← HU.out, show c = 1 from by (have hi := HI.out; unfold OneIs at hi; omega)]; exact hrow) hgr hblk); clear hrow hgr hblk))
              go_roundw
              case rel => exact ⟨k + 1, gz, gD, by omega, by go_num, rfl, rfl, by rw [HLT.out], by rw [HF.out.1, HF.out.2, show f1 = (rt) - m from by (have hi := HI.out; unfold OneIs at hi; omega), show f2 = min et (s2 + (s1 + q - rt)) from by (have hi := HI.out; unfold OneIs at hi; omega)]; exact HC5⟩
              case measure => simp [intOf]; omega
            · have g1 : d1 < 0 := by (have := HP1.out; omega)
              by_cases w2' : m ≤ min et (s2 + (s1 + q - rt))
              · have g2 : 0 ≤ d2 := HP2.out.2 w2'
                have tok1 := trivial
                go_wp2_with (first
                  | (go_at_call 32; (with_reducible refine (HINT.out _).mono ?_); rintro e w6 ⟨gn, rfl, _, hr6, hg6⟩; have HRN := Lib.hid hr6; have HG6 := Lib.hid hg6; clear hr6 hg6)
                  | (go_at_call 38; have _ := tok1; (with_reducible refine (HCM1.out _ _ HG6.out HRN.out).mono ?_); rintro e w7 ⟨rfl, hg7⟩; have HG7 := Lib.hid (HG6.out.trans hg7); have HRN7 := Lib.hid (HRN.out.gr hg7); clear hg7 tok1; have tok2 := trivial)
                  | (go_at_call 38; have _ := tok2; (with_reducible refine (HCM2.out _ _ HG7.out HRN7.out).mono ?_); rintro e w8 ⟨rfl, hg8⟩; have HG8 := Lib.hid (HG7.out.trans hg8); have HRN8 := Lib.hid (HRN7.out.gr hg8); clear hg8 tok2)
                  | (go_at_call 45; (with_reducible refine (HSB2.out _ _ HG8.out HRN8.out).mono ?_); rintro e w9 ⟨gz, rfl, _, hr9, hg9⟩; have HR8 := Lib.hid ((HR5.out.toC (HG8.out.trans hg9) hr9).gr ((Gr.refl w9).alloc (.cells #[.int .i64 2] 3))); clear hr9 hg9)
                  | (at_builtin; refine wpList_append_intR rfl _ _ _ (by rfl) (by rfl) u10 _ 2 (by rfl) HR8.out.at_.row ⟨w9.heap.size, 0, none⟩ 1 (by rfl) (by simp) HK.out ?_; intro v' wz hrow hgr hblk; have HC5 := Lib.hid (HR8.out.append (show IntRow wz v' (upTo (oneCol B E l) (k + 1)) from by rw [← HU.out, show c = 2 from by (have hi := HI.out; unfold OneIs at hi; omega)]; exact hrow) hgr hblk); clear hrow hgr hblk))
                go_roundw
                case rel => exact ⟨k + 1, gA, gz, by omega, by go_num, rfl, rfl, by rw [HLT.out], by rw [HF.out.1, HF.out.2, show f1 = rt from by (have hi := HI.out; unfold OneIs at hi; omega), show f2 = (min et (s2 + (s1 + q - rt))) - m from by (have hi := HI.out; unfold OneIs at hi; omega)]; exact HC5⟩
                case measure => simp [intOf]; omega
              · have g2 : d2 < 0 := by (have := HP2.out; omega)
                have tok1 := trivial
                go_wp2_with (first
                  | (go_at_call 32; (with_reducible refine (HINT.out _).mono ?_); rintro e w6 ⟨gn, rfl, _, hr6, hg6⟩; have HRN := Lib.hid hr6; have HG6 := Lib.hid hg6; clear hr6 hg6)
                  | (go_at_call 38; have _ := tok1; (with_reducible refine (HCM1.out _ _ HG6.out HRN.out).mono ?_); rintro e w7 ⟨rfl, hg7⟩; have HG7 := Lib.hid (HG6.out.trans hg7); have HRN7 := Lib.hid (HRN.out.gr hg7); clear hg7 tok1; have tok2 := trivial)
                  | (go_at_call 38; have _ := tok2; (with_reducible refine (HCM2.out _ _ HG7.out HRN7.out).mono ?_); rintro e w8 ⟨rfl, hg8⟩; have HR8 := Lib.hid ((HR5.out.gr (HG7.out.trans hg8)).gr ((Gr.refl w8).alloc (.cells #[.int .i64 3] 3))); clear hg8 tok2)
                  | (at_builtin; refine wpList_append_intR rfl _ _ _ (by rfl) (by rfl) u10 _ 3 (by rfl) HR8.out.at_.row ⟨w8.heap.size, 0, none⟩ 1 (by rfl) (by simp) HK.out ?_; intro v' wz hrow hgr hblk; have HC5 := Lib.hid (HR8.out.append (show IntRow wz v' (upTo (oneCol B E l) (k + 1)) from by rw [← HU.out, show c = 3 from by (have hi := HI.out; unfold OneIs at hi; omega)]; exact hrow) hgr hblk); clear hrow hgr hblk))
                go_roundw
                case rel => exact ⟨k + 1, gA, gD, by omega, by go_num, rfl, rfl, by rw [HLT.out], by rw [HF.out.1, HF.out.2, show f1 = rt from by (have hi := HI.out; unfold OneIs at hi; omega), show f2 = min et (s2 + (s1 + q - rt)) from by (have hi := HI.out; unfold OneIs at hi; omega)]; exact HC5⟩
                case measure => simp [intOf]; omega
        · have hdd : ¬ 0 < dd := fun h => hov (HP.out.1 h)
          have tok5 := trivial
          go_wp2_with (first
            | (go_at_call 32; have _ := tok5; (with_reducible refine (HIR.out _).mono ?_); rintro e w5' ⟨gx, rfl, _, hr5, hg5⟩; have HX5 := Lib.hid hr5; have HG5 := Lib.hid hg5; clear hr5 hg5 tok5)
            | (go_at_call 38; have _ := HG5; (with_reducible refine (HCM.out _ _ _ (HRB.out.gr HG5.out) HX5.out).mono ?_); rintro e w5 ⟨rfl, hg6⟩; have HR5 := Lib.hid (HR4.out.gr (HG5.out.trans hg6)); have y2 := (HG5.out.trans hg6).cell HT4.out.2; clear hg6 HG5))
          have hn0 := HLN.out
          have HCM1 : Hid (∀ g2 u, Gr w5 u → RatV u g2 m B.t → Calls Tryd.prog 38 #[.pointer (some ⟨gb, 0, none⟩), .pointer (some ⟨g2, 0, none⟩)] u fun e w' => e = .returned (.int .i64 (sg (s1 + q) m)) ∧ Gr u w') := Lib.hid (fun g2 u k h2 => cmp_dT (B_den B) (sm_of (by omega)) (sm_of (by omega)) (HR5.out.a.gr k) h2)
          have HCM2 : Hid (∀ g2 u, Gr w5 u → RatV u g2 m B.t → Calls Tryd.prog 38 #[.pointer (some ⟨gC, 0, none⟩), .pointer (some ⟨g2, 0, none⟩)] u fun e w' => e = .returned (.int .i64 (sg (s2) m)) ∧ Gr u w') := Lib.hid (fun g2 u k h2 => cmp_dT (B_den B) (sm_of (by omega)) (sm_of (by omega)) (HR5.out.c.gr k) h2)
          have HSB1 : Hid (∀ g2 u, Gr w5 u → RatV u g2 m B.t → Calls Tryd.prog 45 #[.pointer (some ⟨gb, 0, none⟩), .pointer (some ⟨g2, 0, none⟩)] u (NewR ((s1 + q) - m) B.t u)) := Lib.hid (fun g2 u k h2 => sub_dT (B_den B) (sm_of (by omega)) (sm_of (by omega)) (HR5.out.a.gr k) h2)
          have HSB2 : Hid (∀ g2 u, Gr w5 u → RatV u g2 m B.t → Calls Tryd.prog 45 #[.pointer (some ⟨gC, 0, none⟩), .pointer (some ⟨g2, 0, none⟩)] u (NewR ((s2) - m) B.t u)) := Lib.hid (fun g2 u k h2 => sub_dT (B_den B) (sm_of (by omega)) (sm_of (by omega)) (HR5.out.c.gr k) h2)
          have HINT : Hid (∀ u, Calls Tryd.prog 32 #[.int .i64 len] u (NewR m B.t u)) := Lib.hid (fun u => by have := int_dT len (B_den B) u (by omega); rwa [HMM.out] at this)
          have HP1 : Hid (0 ≤ sg (s1 + q) m ↔ m ≤ s1 + q) := Lib.hid sg_nonneg
          have HP2 : Hid (0 ≤ sg (s2) m ↔ m ≤ s2) := Lib.hid sg_nonneg
          have sr1 := sg_in (s1 + q) m
          have sr2 := sg_in (s2) m
          generalize sg (s1 + q) m = d1 at *
          generalize sg (s2) m = d2 at *
          have sr1' : -1 ≤ d1 ∧ d1 ≤ 1 := by omega
          have sr2' : -1 ≤ d2 ∧ d2 ≤ 1 := by omega
          clear sr1 sr2
          by_cases w1 : m ≤ s1 + q
          · have g1 : 0 ≤ d1 := HP1.out.2 w1
            go_wp2_with (first
              | (go_at_call 32; (with_reducible refine (HINT.out _).mono ?_); rintro e w6 ⟨gn, rfl, _, hr6, hg6⟩; have HRN := Lib.hid hr6; have HG6 := Lib.hid hg6; clear hr6 hg6)
              | (go_at_call 38; (with_reducible refine (HCM1.out _ _ HG6.out HRN.out).mono ?_); rintro e w7 ⟨rfl, hg7⟩; have HG7 := Lib.hid (HG6.out.trans hg7); have HRN7 := Lib.hid (HRN.out.gr hg7); clear hg7)
              | (go_at_call 45; (with_reducible refine (HSB1.out _ _ HG7.out HRN7.out).mono ?_); rintro e w8 ⟨gz, rfl, _, hr8, hg8⟩; have HR8 := Lib.hid ((HR5.out.toA (HG7.out.trans hg8) hr8).gr ((Gr.refl w8).alloc (.cells #[.int .i64 1] 3))); clear hr8 hg8)
              | (at_builtin; refine wpList_append_intR rfl _ _ _ (by rfl) (by rfl) u10 _ 1 (by rfl) HR8.out.at_.row ⟨w8.heap.size, 0, none⟩ 1 (by rfl) (by simp) HK.out ?_; intro v' wz hrow hgr hblk; have HC5 := Lib.hid (HR8.out.append (show IntRow wz v' (upTo (oneCol B E l) (k + 1)) from by rw [← HU.out, show c = 1 from by (have hi := HI.out; unfold OneIs at hi; omega)]; exact hrow) hgr hblk); clear hrow hgr hblk))
            go_roundw
            case rel => exact ⟨k + 1, gz, gC, by omega, by go_num, rfl, rfl, by rw [HLT.out], by rw [HF.out.1, HF.out.2, show f1 = (s1 + q) - m from by (have hi := HI.out; unfold OneIs at hi; omega), show f2 = s2 from by (have hi := HI.out; unfold OneIs at hi; omega)]; exact HC5⟩
            case measure => simp [intOf]; omega
          · have g1 : d1 < 0 := by (have := HP1.out; omega)
            by_cases w2' : m ≤ s2
            · have g2 : 0 ≤ d2 := HP2.out.2 w2'
              have tok1 := trivial
              go_wp2_with (first
                | (go_at_call 32; (with_reducible refine (HINT.out _).mono ?_); rintro e w6 ⟨gn, rfl, _, hr6, hg6⟩; have HRN := Lib.hid hr6; have HG6 := Lib.hid hg6; clear hr6 hg6)
                | (go_at_call 38; have _ := tok1; (with_reducible refine (HCM1.out _ _ HG6.out HRN.out).mono ?_); rintro e w7 ⟨rfl, hg7⟩; have HG7 := Lib.hid (HG6.out.trans hg7); have HRN7 := Lib.hid (HRN.out.gr hg7); clear hg7 tok1; have tok2 := trivial)
                | (go_at_call 38; have _ := tok2; (with_reducible refine (HCM2.out _ _ HG7.out HRN7.out).mono ?_); rintro e w8 ⟨rfl, hg8⟩; have HG8 := Lib.hid (HG7.out.trans hg8); have HRN8 := Lib.hid (HRN7.out.gr hg8); clear hg8 tok2)
                | (go_at_call 45; (with_reducible refine (HSB2.out _ _ HG8.out HRN8.out).mono ?_); rintro e w9 ⟨gz, rfl, _, hr9, hg9⟩; have HR8 := Lib.hid ((HR5.out.toC (HG8.out.trans hg9) hr9).gr ((Gr.refl w9).alloc (.cells #[.int .i64 2] 3))); clear hr9 hg9)
                | (at_builtin; refine wpList_append_intR rfl _ _ _ (by rfl) (by rfl) u10 _ 2 (by rfl) HR8.out.at_.row ⟨w9.heap.size, 0, none⟩ 1 (by rfl) (by simp) HK.out ?_; intro v' wz hrow hgr hblk; have HC5 := Lib.hid (HR8.out.append (show IntRow wz v' (upTo (oneCol B E l) (k + 1)) from by rw [← HU.out, show c = 2 from by (have hi := HI.out; unfold OneIs at hi; omega)]; exact hrow) hgr hblk); clear hrow hgr hblk))
              go_roundw
              case rel => exact ⟨k + 1, gb, gz, by omega, by go_num, rfl, rfl, by rw [HLT.out], by rw [HF.out.1, HF.out.2, show f1 = s1 + q from by (have hi := HI.out; unfold OneIs at hi; omega), show f2 = (s2) - m from by (have hi := HI.out; unfold OneIs at hi; omega)]; exact HC5⟩
              case measure => simp [intOf]; omega
            · have g2 : d2 < 0 := by (have := HP2.out; omega)
              have tok1 := trivial
              go_wp2_with (first
                | (go_at_call 32; (with_reducible refine (HINT.out _).mono ?_); rintro e w6 ⟨gn, rfl, _, hr6, hg6⟩; have HRN := Lib.hid hr6; have HG6 := Lib.hid hg6; clear hr6 hg6)
                | (go_at_call 38; have _ := tok1; (with_reducible refine (HCM1.out _ _ HG6.out HRN.out).mono ?_); rintro e w7 ⟨rfl, hg7⟩; have HG7 := Lib.hid (HG6.out.trans hg7); have HRN7 := Lib.hid (HRN.out.gr hg7); clear hg7 tok1; have tok2 := trivial)
                | (go_at_call 38; have _ := tok2; (with_reducible refine (HCM2.out _ _ HG7.out HRN7.out).mono ?_); rintro e w8 ⟨rfl, hg8⟩; have HR8 := Lib.hid ((HR5.out.gr (HG7.out.trans hg8)).gr ((Gr.refl w8).alloc (.cells #[.int .i64 3] 3))); clear hg8 tok2)
                | (at_builtin; refine wpList_append_intR rfl _ _ _ (by rfl) (by rfl) u10 _ 3 (by rfl) HR8.out.at_.row ⟨w8.heap.size, 0, none⟩ 1 (by rfl) (by simp) HK.out ?_; intro v' wz hrow hgr hblk; have HC5 := Lib.hid (HR8.out.append (show IntRow wz v' (upTo (oneCol B E l) (k + 1)) from by rw [← HU.out, show c = 3 from by (have hi := HI.out; unfold OneIs at hi; omega)]; exact hrow) hgr hblk); clear hrow hgr hblk))
              go_roundw
              case rel => exact ⟨k + 1, gb, gC, by omega, by go_num, rfl, rfl, by rw [HLT.out], by rw [HF.out.1, HF.out.2, show f1 = s1 + q from by (have hi := HI.out; unfold OneIs at hi; omega), show f2 = s2 from by (have hi := HI.out; unfold OneIs at hi; omega)]; exact HC5⟩
              case measure => simp [intOf]; omega
    · obtain rfl : k = n := by omega
      go_wp2
      go_ret
      exact ⟨_, rfl, HC.out.at_.row, HG0.out.trans HC.out.at_.own.gr⟩
end Go.Proofs.YtogmjjaoflaogaaDoor

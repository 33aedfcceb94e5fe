/-
  Queues the first of which goes first: the reference's methods. (Printed by genband.py.)
-/
import Derived.Test.YtbpofdfehcbppaaDoorBandB
import Derived.Test.YtbpofdfehcbppaaDoorFifoR
namespace Go.Proofs.YtbpofdfehcbppaaDoor
open Go.RowKit Go.Extern.Stop Go.Stop Go.Extern

section
variable {ev : Operand → Value} {o : Oper} {w : World} {x y z : Operand} {u : Value}
theorem rbp_fa_millraceref_Bands_0 {p o' : Nat} (ho : o.op = .fieldAddr 47 x 0) (h : ev x = .pointer (some ⟨p, o', none⟩)) : (execOp ev o).run Tryd.prog w = .ok (.value (.pointer (some ⟨p, o', none⟩))) w := by
  simp [execOp, ho, h, go_sem]
theorem rbp_loadS___millraceref_Queue {ad : Addr} {a : Option Addr} {n c : Nat} (ho : o.op = .load 45 x) (h : ev x = .pointer (some ad)) (hc : w.cell? ad = some (.slice a n c)) : (execOp ev o).run Tryd.prog w = .ok (.value (.slice a n c)) w := by
  simp [execOp, ho, h, hc, go_sem]
end
set_option maxRecDepth 100000 in
set_option maxHeartbeats 4000000 in
theorem rbput_any {α : Type} {U : Mach α} {N0 k : Nat} {q : Nat → Value} {S : Nat → Side U N0 (Nat → Prop)} {mu : α → Nat} (dfl : α) (hF : ∀ i b g, (S i).F b g ↔ b g) (hq : ∀ i, i < k → ∃ t v, q i = .iface t v) (hA : ∀ i, i < k → Acts (S i) 108 (q i)) (hU : ∀ i, i < k → More (S i) mu) (p ob off cap : Nat) (w : World) (Fs : Nat → Nat → Prop) (l : List α) (n : Nat) (now : Int) (x : Hel) (g : GoodPut now x n) (h : BD k q S mu p ob off cap w Fs l n) :
    Calls Tryd.prog 88 #[.pointer (some ⟨p, 0, none⟩), .int .i64 now, x.val] w (BPutP 108 k q S mu p ob off cap w Fs (n + 1) ((bands U dfl).put l now x)) := by
  have HB := Lib.hid h
  have HGP := Lib.hid g
  have HFEW := Lib.hid g.few
  have HPOS := Lib.hid h.pos
  have HMASS := Lib.hid h.mass
  obtain ⟨j, hj⟩ : ∃ j, j = bandOf l.length x := ⟨_, rfl⟩
  have HJ : Hid (min x.band ((k : Int) - 1) = (j : Int) ∧ j < k) := Lib.hid (by
    have h1 := g.band
    have h2 := h.pos
    rw [hj, h.len]
    unfold bandOf
    omega)
  obtain ⟨a, ha⟩ : ∃ a, l[j]? = some a := ⟨_, List.getElem?_eq_getElem (by rw [h.len]; exact HJ.out.2)⟩
  have HAJ := Lib.hid ha
  have HPUT := Lib.hid (show (bands U dfl).put l now x = (l.set j (U.put a now x).1, (U.put a now x).2) from by
    show (l.set (bandOf l.length x) (U.put (l.getD (bandOf l.length x) dfl) now x).1, (U.put (l.getD (bandOf l.length x) dfl) now x).2) = _
    rw [← hj, List.getD_eq_getElem?_getD, ha]
    rfl)
  obtain ⟨tq, vq, hqj⟩ := hq j HJ.out.2
  obtain ⟨fm, rv, hm, hc⟩ := (hA j HJ.out.2).put
  have HMT := Lib.hid ((hU j HJ.out.2).put (h.sub j a ha) g)
  rw [hqj] at hm
  have CK := Lib.hid (show IntKind.i64.wrap ((k : Int) - 1) = (k : Int) - 1 from by have := h.pos; rw [IntKind.wrap_i64]; omega)
  clear h g hj ha
  unfold Hel.val
  go_enter Tryd.func88, Tryd.ntmps88
  go_upto_region 1 with fail
  obtain ⟨w0, hw0⟩ : ∃ w0, w0 = w.alloc (.cells #[.int .i64 x.t, .int .i64 x.len, .int .i64 x.flow, .int .i64 x.band, .int .i64 x.mark, .int .i64 x.n] 108) := ⟨_, rfl⟩
  obtain ⟨xb, hxb⟩ : ∃ xb, xb = w.heap.size := ⟨_, rfl⟩
  have HX0 : Hid (HelAt w0 xb 0 x ∧ xb = w.heap.size) := Lib.hid (by rw [hw0]; exact ⟨held_new w x hxb, hxb⟩)
  have HG0 : Hid (Gr w w0) := Lib.hid (by rw [hw0]; exact (Gr.refl _).alloc _)
  have HB0 := Lib.hid (HB.out.gr hF HG0.out)
  have HEL := Lib.hid (show w0.cell? ⟨ob, off + j, none⟩ = some (.iface tq vq) from by rw [← hqj]; exact HB0.out.el j HJ.out.2)
  rw [← hw0, ← hxb]
  clear hw0 hxb
  clear hqj
  obtain ⟨x3, c0⟩ := And.intro HX0.out.1.c3 HB0.out.cell
  by_cases hbk : (k : Int) ≤ x.band
  · have HJJ := Lib.hid (show (k : Int) - 1 = (j : Int) from by have h1 := HJ.out.1; omega)
    have hk1 : (1 : Int) ≤ (k : Int) := by have := HPOS.out; omega
    have hk2 : (k : Int) ≤ 8 := by have := HPOS.out; omega
    go_upto_region 4 with fail
    first | rw [HJJ.out] | (rw [show wrap64 ((k : Int) - 1) = (j : Int) from by rw [← HJJ.out]; unfold wrap64; omega])
    clear x3 c0 hk1 hk2 hbk
    refine wp_region_gg (n := 9) [Fg.eq (.pointer (some ⟨p, 0, none⟩)), Fg.eq (.pointer (some ⟨p, 0, none⟩)), Fg.eq (.pointer (some ⟨p, 0, none⟩)), Fg.eq (.slice (some ⟨ob, off, none⟩) k cap), Fg.eq (.int .i64 (j : Int)), Fg.eq (.pointer (some ⟨ob, off + j, none⟩)), Fg.eq (.iface tq vq), Fg.eq (.int .i64 now), Fg.eq (x.val)] [24, 25, 26, 27, 28, 29, 30, 31, 32] (by kernel_rfl) (by kernel_rfl) (by kernel_rfl) ?_ ?_
    · intro L i o' ac w1 hi ho hA
      have hgr : Gr w0 w1 := (Gr.refl w0).drew.trans hA.gr
      match i, hi with
      | 0, _ =>
        obtain rfl := Option.some.inj ho
        exact gg_plain rfl (gstep_val (q_move rfl (show ac.eval (.tmp 0) = .pointer (some ⟨p, 0, none⟩) from hA.other 0 (by decide))) rfl)
      | 1, _ =>
        obtain rfl := Option.some.inj ho
        exact gg_plain rfl (gstep_val (q_nil rfl (hA.fact 0 (hA.dep 0 (by kernel_rfl) (by decide)))) rfl)
      | 2, _ =>
        obtain rfl := Option.some.inj ho
        exact gg_plain rfl (gstep_val (rbp_fa_millraceref_Bands_0 rfl (hA.fact 1 (hA.dep 1 (by kernel_rfl) (by decide)))) rfl)
      | 3, _ =>
        obtain rfl := Option.some.inj ho
        exact gg_plain rfl (gstep_val (rbp_loadS___millraceref_Queue rfl (hA.fact 2 (hA.dep 2 (by kernel_rfl) (by decide))) ((hgr.cell HB0.out.cell))) rfl)
      | 4, _ =>
        obtain rfl := Option.some.inj ho
        exact gg_plain rfl (gstep_val (q_move rfl (show ac.eval (.tmp 7) = .int .i64 (j : Int) from hA.other 7 (by decide))) rfl)
      | 5, _ =>
        obtain rfl := Option.some.inj ho
        exact gg_plain rfl (gstep_val (q_idxR rfl (hA.fact 3 (hA.dep 3 (by kernel_rfl) (by decide))) (show ac.eval (.tmp 28) = .int .i64 (j : Int) from (hA.fact 4 (hA.dep 4 (by kernel_rfl) (by decide)))) HJ.out.2) rfl)
      | 6, _ =>
        obtain rfl := Option.some.inj ho
        exact gg_plain rfl (gstep_val (q_loadQR rfl (show ac.eval (.tmp 29) = .pointer (some ⟨ob, off + j, none⟩) from (hA.fact 5 (hA.dep 5 (by kernel_rfl) (by decide)))) (hgr.cell HEL.out)) rfl)
      | 7, _ =>
        obtain rfl := Option.some.inj ho
        exact gg_plain rfl (gstep_val (q_move rfl (show ac.eval (.tmp 1) = .int .i64 now from hA.other 1 (by decide))) rfl)
      | 8, _ =>
        obtain rfl := Option.some.inj ho
        exact gg_plain rfl (gstep_val (q_loadP rfl (show ac.eval (.tmp 5) = .pointer (some ⟨xb, 0, none⟩) from hA.other 5 (by decide)) (HX0.out.1.gr hgr)) rfl)
      | k + 9, hk => exact absurd (show k + 9 < 9 from hk) (by omega)
    · intro vs w5 hg5 hv
      have HGX := Lib.hid ((Gr.refl w0).drew.trans hg5)
      have r30 : (vs 6) = .iface tq vq := hv 6 (by omega)
      have v31 : vs 7 = .int .i64 now := hv 7 (by omega)
      have v32 : vs 8 = x.val := hv 8 (by omega)
      clear hv hg5
      simp only [putN, List.drop_succ_cons, List.drop_zero, List.getElem?_cons_succ, List.getElem?_cons_zero]
      generalize vs 6 = z30 at *
      generalize vs 7 = z31 at *
      subst v31
      generalize vs 8 = z32 at *
      subst v32
      generalize vs 0 = z24 at *
      generalize vs 1 = z25 at *
      generalize vs 2 = z26 at *
      generalize vs 3 = z27 at *
      generalize vs 4 = z28 at *
      generalize vs 5 = z29 at *
      subst r30
      have HBX := Lib.hid ((HB0.out.gr hF HGX.out).more hU HFEW.out)
      have HPC := Lib.hid (hc w5 (Fs j) a n now x ((HB0.out.gr hF HGX.out).sub j a HAJ.out) HGP.out)
      unfold Hel.val at HPC ⊢
      clear hc
      refine wpList_invoke hm rfl _ _ _ rfl (by simp [go_sem]) (ys := [.int .i64 now, .agg #[.int .i64 x.t, .int .i64 x.len, .int .i64 x.flow, .int .i64 x.band, .int .i64 x.mark, .int .i64 x.n]]) (by simp [go_sem]) HPC.out ?_
      rintro e w1 ⟨v1, F', rfl, hrow, hmv⟩
      have HK1 := Lib.hid (HBX.out.step hF HAJ.out hmv (by have h1 := HMT.out; have h2 := HMASS.out; omega))
      have HL1 := Lib.hid hrow
      clear hrow hmv
      refine ⟨_, rfl, ?_⟩
      go_wp2
      go_ret
      rw [HPUT.out]
      exact ⟨_, _, rfl, HL1.out, HK1.out.1, (Sav.of_gr (HG0.out.trans HGX.out)).then HK1.out.2.1, fun g hg => (HK1.out.2.2 g hg).imp id (Nat.le_trans (HG0.out.trans HGX.out).size)⟩
  · have HJJ := Lib.hid (show x.band = (j : Int) from by have h1 := HJ.out.1; omega)
    go_upto_region 4 with fail
    rw [HJJ.out]
    clear x3 c0 hbk
    refine wp_region_gg (n := 9) [Fg.eq (.pointer (some ⟨p, 0, none⟩)), Fg.eq (.pointer (some ⟨p, 0, none⟩)), Fg.eq (.pointer (some ⟨p, 0, none⟩)), Fg.eq (.slice (some ⟨ob, off, none⟩) k cap), Fg.eq (.int .i64 (j : Int)), Fg.eq (.pointer (some ⟨ob, off + j, none⟩)), Fg.eq (.iface tq vq), Fg.eq (.int .i64 now), Fg.eq (x.val)] [24, 25, 26, 27, 28, 29, 30, 31, 32] (by kernel_rfl) (by kernel_rfl) (by kernel_rfl) ?_ ?_
    · intro L i o' ac w1 hi ho hA
      have hgr : Gr w0 w1 := (Gr.refl w0).drew.trans hA.gr
      match i, hi with
      | 0, _ =>
        obtain rfl := Option.some.inj ho
        exact gg_plain rfl (gstep_val (q_move rfl (show ac.eval (.tmp 0) = .pointer (some ⟨p, 0, none⟩) from hA.other 0 (by decide))) rfl)
      | 1, _ =>
        obtain rfl := Option.some.inj ho
        exact gg_plain rfl (gstep_val (q_nil rfl (hA.fact 0 (hA.dep 0 (by kernel_rfl) (by decide)))) rfl)
      | 2, _ =>
        obtain rfl := Option.some.inj ho
        exact gg_plain rfl (gstep_val (rbp_fa_millraceref_Bands_0 rfl (hA.fact 1 (hA.dep 1 (by kernel_rfl) (by decide)))) rfl)
      | 3, _ =>
        obtain rfl := Option.some.inj ho
        exact gg_plain rfl (gstep_val (rbp_loadS___millraceref_Queue rfl (hA.fact 2 (hA.dep 2 (by kernel_rfl) (by decide))) ((hgr.cell HB0.out.cell))) rfl)
      | 4, _ =>
        obtain rfl := Option.some.inj ho
        exact gg_plain rfl (gstep_val (q_move rfl (show ac.eval (.tmp 7) = .int .i64 (j : Int) from hA.other 7 (by decide))) rfl)
      | 5, _ =>
        obtain rfl := Option.some.inj ho
        exact gg_plain rfl (gstep_val (q_idxR rfl (hA.fact 3 (hA.dep 3 (by kernel_rfl) (by decide))) (show ac.eval (.tmp 28) = .int .i64 (j : Int) from (hA.fact 4 (hA.dep 4 (by kernel_rfl) (by decide)))) HJ.out.2) rfl)
      | 6, _ =>
        obtain rfl := Option.some.inj ho
        exact gg_plain rfl (gstep_val (q_loadQR rfl (show ac.eval (.tmp 29) = .pointer (some ⟨ob, off + j, none⟩) from (hA.fact 5 (hA.dep 5 (by kernel_rfl) (by decide)))) (hgr.cell HEL.out)) rfl)
      | 7, _ =>
        obtain rfl := Option.some.inj ho
        exact gg_plain rfl (gstep_val (q_move rfl (show ac.eval (.tmp 1) = .int .i64 now from hA.other 1 (by decide))) rfl)
      | 8, _ =>
        obtain rfl := Option.some.inj ho
        exact gg_plain rfl (gstep_val (q_loadP rfl (show ac.eval (.tmp 5) = .pointer (some ⟨xb, 0, none⟩) from hA.other 5 (by decide)) (HX0.out.1.gr hgr)) rfl)
      | k + 9, hk => exact absurd (show k + 9 < 9 from hk) (by omega)
    · intro vs w5 hg5 hv
      have HGX := Lib.hid ((Gr.refl w0).drew.trans hg5)
      have r30 : (vs 6) = .iface tq vq := hv 6 (by omega)
      have v31 : vs 7 = .int .i64 now := hv 7 (by omega)
      have v32 : vs 8 = x.val := hv 8 (by omega)
      clear hv hg5
      simp only [putN, List.drop_succ_cons, List.drop_zero, List.getElem?_cons_succ, List.getElem?_cons_zero]
      generalize vs 6 = z30 at *
      generalize vs 7 = z31 at *
      subst v31
      generalize vs 8 = z32 at *
      subst v32
      generalize vs 0 = z24 at *
      generalize vs 1 = z25 at *
      generalize vs 2 = z26 at *
      generalize vs 3 = z27 at *
      generalize vs 4 = z28 at *
      generalize vs 5 = z29 at *
      subst r30
      have HBX := Lib.hid ((HB0.out.gr hF HGX.out).more hU HFEW.out)
      have HPC := Lib.hid (hc w5 (Fs j) a n now x ((HB0.out.gr hF HGX.out).sub j a HAJ.out) HGP.out)
      unfold Hel.val at HPC ⊢
      clear hc
      refine wpList_invoke hm rfl _ _ _ rfl (by simp [go_sem]) (ys := [.int .i64 now, .agg #[.int .i64 x.t, .int .i64 x.len, .int .i64 x.flow, .int .i64 x.band, .int .i64 x.mark, .int .i64 x.n]]) (by simp [go_sem]) HPC.out ?_
      rintro e w1 ⟨v1, F', rfl, hrow, hmv⟩
      have HK1 := Lib.hid (HBX.out.step hF HAJ.out hmv (by have h1 := HMT.out; have h2 := HMASS.out; omega))
      have HL1 := Lib.hid hrow
      clear hrow hmv
      refine ⟨_, rfl, ?_⟩
      go_wp2
      go_ret
      rw [HPUT.out]
      exact ⟨_, _, rfl, HL1.out, HK1.out.1, (Sav.of_gr (HG0.out.trans HGX.out)).then HK1.out.2.1, fun g hg => (HK1.out.2.2 g hg).imp id (Nat.le_trans (HG0.out.trans HGX.out).size)⟩
set_option maxRecDepth 100000 in
set_option maxHeartbeats 4000000 in
theorem rbtake_any {α : Type} {U : Mach α} {N0 k : Nat} {q : Nat → Value} {S : Nat → Side U N0 (Nat → Prop)} {mu : α → Nat} (hF : ∀ i b g, (S i).F b g ↔ b g) (hq : ∀ i, i < k → ∃ t v, q i = .iface t v) (hA : ∀ i, i < k → Acts (S i) 108 (q i)) (hU : ∀ i, i < k → More (S i) mu) (p ob off cap : Nat) (w : World) (hN : N0 ≤ w.heap.size) (Fs : Nat → Nat → Prop) (l : List α) (n : Nat) (now : Int) (hnow : Now now) (h : BD k q S mu p ob off cap w Fs l n) :
    Calls Tryd.prog 89 #[.pointer (some ⟨p, 0, none⟩), .int .i64 now] w (BTakeP 108 k q S mu p ob off cap w Fs n (takeL U now l)) := by
  have HB := Lib.hid h
  have HN := Lib.hid hN
  have HFF := Lib.hid hF
  have HNOW := Lib.hid hnow
  obtain ⟨i0, hi0, hz0, hz1, hz2⟩ := info_parts packInfo
  obtain ⟨T, hT⟩ : ∃ T, T = takeL U now l := ⟨_, rfl⟩
  rw [← hT]
  have HT := Lib.hid hT
  have hkc := h.pos
  have HM := Lib.hid h.mass
  have HM2 := Lib.hid h.n
  clear hT h hN hnow
  go_enter Tryd.func89, Tryd.ntmps89
  go_upto_region 1 with fail
  obtain ⟨w0, hw0⟩ : ∃ w0, w0 = w.alloc (.cells #[.int .i64 0, .int .i64 0, .int .i64 0, .int .i64 0, .int .i64 0, .int .i64 0] 108) := ⟨_, rfl⟩
  obtain ⟨rb, hrb⟩ : ∃ rb, rb = w.heap.size := ⟨_, rfl⟩
  have HK0 : Hid (BTk 108 k q S mu p ob off cap w Fs (muL mu l) w0 Fs l n rb (.slice none 0 0) []) := Lib.hid (by
    have hg : Gr w w0 := by rw [hw0]; exact (Gr.refl _).alloc _
    exact ⟨HB.out.gr hF hg, by rw [hw0]; exact helRes_new w .zero hrb, .of_gr hg, fun _ => .inl, ⟨⟨by omega, by rw [hw0]; simp; omega⟩, fun e => by have := HB.out.flt hF e; omega⟩, RowH.nil _ _, (fun g hg => by cases hg), by simp, HN.out⟩)
  rw [← hw0, ← hrb]
  clear hw0 hrb
  have c0 := HK0.out.bd.cell
  go_wp2
  clear c0
  go_loopw [7, 18] (fun s5 s17 wr => ∃ (i : Nat) (d r : List α) (Fs' : Nat → Nat → Prop) (lost : List Hel), s17 = .int .i64 (i : Int) ∧ d.length = i ∧ i ≤ k ∧ Hid (T = (d ++ (takeL U now r).1, (takeL U now r).2.1, lost ++ (takeL U now r).2.2.1, (takeL U now r).2.2.2)) ∧ Hid (BTk 108 k q S mu p ob off cap w Fs (muL mu l) wr Fs' (d ++ r) n rb s5 lost)) (fun _ s _ => k - (intOf s).toNat)
  case atStart => exact ⟨0, [], l, Fs, [], rfl, rfl, Nat.zero_le _, Lib.hid (by rw [HT.out]; simp), HK0⟩
  case round =>
    clear HK0
    obtain ⟨i, d, r, Fs', lost, rfl, hd, hik, HEQ, HK⟩ := hrel
    have HD := Lib.hid hd
    clear hd
    by_cases hlt : i < k
    · have i0' : (0 : Int) ≤ (i : Int) := by omega
      have i1' : (i : Int) < (k : Int) := by omega
      cases r with
      | nil =>
        exfalso
        have h1 := HK.out.bd.len
        have h2 := HD.out
        simp at h1
        omega
      | cons a r' =>
        have HAI := Lib.hid (get_mid (r := r') (a := a) HD.out)
        obtain ⟨tq, vq, hqi⟩ := hq i hlt
        have el := HK.out.bd.el i hlt
        rw [hqi] at el
        obtain ⟨fm, rv, hm, hc⟩ := (hA i hlt).take
        rw [hqi] at hm
        have HPC := Lib.hid (hc wr (Fs' i) a n now (HK.out.bd.sub i a HAI.out) HNOW.out)
        have HMT := Lib.hid ((hU i hlt).take (HK.out.bd.sub i a HAI.out) HNOW.out)
        have HTL := Lib.hid (takeL_cons U now a r')
        clear hc hqi
        generalize U.take a now = ta at *
        obtain ⟨a', x, ys, okb⟩ := ta
        simp only [] at HPC HMT HTL
        unfold Hel.val at HPC
        go_upto_region 6 with ((with_reducible refine wpList_here "Take" ?_); refine wpList_invoke hm rfl _ _ _ rfl rfl (ys := [.int .i64 now]) rfl HPC.out ?_; rintro e w1 ⟨v1, F', rfl, hrow, hmv⟩; have HK1 := Lib.hid (HK.out.step (ys := ys) hF HAI.out hmv HMT.out); have HL1 := Lib.hid hrow; clear hrow hmv; refine ⟨_, rfl, ?_⟩)
        obtain ⟨w2, hw2⟩ : ∃ w2, w2 = w1.alloc (.cells #[.int .i64 x.t, .int .i64 x.len, .int .i64 x.flow, .int .i64 x.band, .int .i64 x.mark, .int .i64 x.n] 108) := ⟨_, rfl⟩
        obtain ⟨yb, hyb⟩ : ∃ yb, yb = w1.heap.size := ⟨_, rfl⟩
        have hg2 : Gr w1 w2 := by rw [hw2]; exact (Gr.refl _).alloc _
        have HY2 : Hid (HelAt w2 yb 0 x) := Lib.hid (by rw [hw2]; exact held_new w1 x hyb)
        have HK2 := Lib.hid (HK1.out.1.gr hF hg2)
        have HL2 := Lib.hid (HL1.out.gr hg2)
        have HYS := Lib.hid HK1.out.2
        have HYB := Lib.hid (show rb < yb from by have := HK1.out.1.rbb.1.2; omega)
        have HYL := Lib.hid (show yb < w2.heap.size from cell_lt HY2.out.c0)
        have HYR : Hid (∀ g, u7.ownBlock = some g → g ≠ yb) := Lib.hid (fun g hg e => by have := HK1.out.1.row.lt hg; omega)
        rw [← hw2, ← hyb]
        clear hw2 hyb hg2 el
        go_upto_region 7 with (at_builtin; refine wpList_append_any rfl _ _ _ (by rfl) i0 Hel.zero.val Tryd.underlying38 hi0 hz0 hz1 hz2 rfl ?c1 (by rfl) HK2.out.row (by rfl) HL2.out ?c2 ?_; (case c1 => (intro u hu; exact (cells_int Hel.zero u (by simpa [Hel.val, Value.cells, Hel.cells] using hu)).2)); (case c2 => (have h1 := HK2.out.mass; have h2 := HYS.out; have h3 := HM.out; have h4 := HM2.out; omega)); intro v4 w4 hrow hgr hown; have HK4 := Lib.hid (HK2.out.app hF (m1 := muL mu l) hrow hgr hown (by have := HYS.out; omega)); have HY4 := Lib.hid (HY2.out.sav (B := fun g => u7.ownBlock = some g) (.of_grown hgr fun _ h => h) (fun e => HYR.out yb e rfl)); clear hrow hgr hown)
        cases okb with
        | true =>
          have HT2 := Lib.hid (show T = (d ++ (a' :: r'), x, lost ++ ys, true) from by rw [HEQ.out, HTL.out, if_pos rfl])
          obtain ⟨⟨r0, r1, r2, r3, r4, r5⟩, s0, s1, s2, s3, s4, s5⟩ := HK4.out.res
          obtain ⟨x0, x1, x2, x3, x4, x5⟩ := HY4.out
          go_wp2
          obtain ⟨w9, hw9⟩ : ∃ w9, w9 = ((((((w4.setCell ⟨rb, 0, none⟩ (.int .i64 x.t)).setCell ⟨rb, 1, none⟩ (.int .i64 x.len)).setCell ⟨rb, 2, none⟩ (.int .i64 x.flow)).setCell ⟨rb, 3, none⟩ (.int .i64 x.band)).setCell ⟨rb, 4, none⟩ (.int .i64 x.mark)).setCell ⟨rb, 5, none⟩ (.int .i64 x.n)) := ⟨_, rfl⟩
          have HR9 := Lib.hid (show HelRes w9 rb x ∧ Sav (fun q => q = rb) w4 w9 from by rw [hw9]; exact hel_set6 HK4.out.res x)
          rw [← hw9]
          clear hw9 r0 r1 r2 r3 r4 r5 s0 s1 s2 s3 s4 s5
          obtain ⟨⟨q0, q1, q2, q3, q4, q5⟩, _⟩ := HR9.out.1
          refine bodyPost_ret (v := .tuple #[.agg #[.int .i64 x.t, .int .i64 x.len, .int .i64 x.flow, .int .i64 x.band, .int .i64 x.mark, .int .i64 x.n], v4, .bool true]) (by simp [results, Tryd.results89, go_sem, q0, q1, q2, q3, q4, q5]) rfl ?_
          rw [HT2.out]
          refine ⟨_, _, rfl, HK4.out.row.sav HR9.out.2 (fun g hg => (HK4.out.lown g hg).2.1), ?_, HK4.out.sav.trans HR9.out.2 (fun g e => .inr (by rw [e]; exact HK4.out.rbb.1.1)), HK4.out.new⟩
          have hbd := HK4.out.bd.sav hF HR9.out.2 (fun g e => ⟨by have h1 := HK4.out.rbb.1.1; have h2 := HN.out; omega, by rw [e]; exact HK4.out.rbb.2⟩)
          rw [set_mid HD.out, List.append_assoc] at hbd
          exact hbd
        | false =>
          go_wp2
          go_roundw
          case measure => simp [intOf]; omega
          case rel => exact ⟨i + 1, d ++ [a'], r', updF Fs' i F', lost ++ ys, by go_num, by have := HD.out; simp; omega, by omega, Lib.hid (by rw [HEQ.out, HTL.out, if_neg (by intro e; cases e)]; simp), Lib.hid (by have := HK4.out; rw [set_mid HD.out] at this; exact this)⟩
    · have hrn : r = [] := by
        have h1 := HK.out.bd.len
        have h2 := HD.out
        simp at h1
        exact List.eq_nil_of_length_eq_zero (by omega)
      subst hrn
      have HT2 := Lib.hid (show T = (d ++ [], .zero, lost, false) from by rw [HEQ.out]; simp [takeL])
      have hnlt : ¬ (i : Int) < (k : Int) := by omega
      obtain ⟨⟨r0, r1, r2, r3, r4, r5⟩, s0, s1, s2, s3, s4, s5⟩ := HK.out.res
      go_wp2
      obtain ⟨w9, hw9⟩ : ∃ w9, w9 = ((((((wr.setCell ⟨rb, 0, none⟩ (.int .i64 0)).setCell ⟨rb, 1, none⟩ (.int .i64 0)).setCell ⟨rb, 2, none⟩ (.int .i64 0)).setCell ⟨rb, 3, none⟩ (.int .i64 0)).setCell ⟨rb, 4, none⟩ (.int .i64 0)).setCell ⟨rb, 5, none⟩ (.int .i64 0)) := ⟨_, rfl⟩
      have HR9 := Lib.hid (show HelRes w9 rb Hel.zero ∧ Sav (fun q => q = rb) wr w9 from by rw [hw9]; exact hel_set6 HK.out.res Hel.zero)
      rw [← hw9]
      clear hw9 r0 r1 r2 r3 r4 r5 s0 s1 s2 s3 s4 s5
      obtain ⟨⟨q0, q1, q2, q3, q4, q5⟩, _⟩ := HR9.out.1
      refine bodyPost_ret (v := .tuple #[.agg #[.int .i64 Hel.zero.t, .int .i64 Hel.zero.len, .int .i64 Hel.zero.flow, .int .i64 Hel.zero.band, .int .i64 Hel.zero.mark, .int .i64 Hel.zero.n], u7, .bool false]) (by simp [results, Tryd.results89, go_sem, q0, q1, q2, q3, q4, q5]) rfl ?_
      rw [HT2.out]
      refine ⟨_, _, rfl, HK.out.row.sav HR9.out.2 (fun g hg => (HK.out.lown g hg).2.1), ?_, HK.out.sav.trans HR9.out.2 (fun g e => .inr (by rw [e]; exact HK.out.rbb.1.1)), HK.out.new⟩
      have hbd := HK.out.bd.sav hF HR9.out.2 (fun g e => ⟨by have h1 := HK.out.rbb.1.1; have h2 := HN.out; omega, by rw [e]; exact HK.out.rbb.2⟩)
      exact hbd
set_option maxRecDepth 100000 in
set_option maxHeartbeats 4000000 in
theorem rbwhen_any {α : Type} {U : Mach α} {N0 k : Nat} {q : Nat → Value} {S : Nat → Side U N0 (Nat → Prop)} {mu : α → Nat} (hF : ∀ i b g, (S i).F b g ↔ b g) (hq : ∀ i, i < k → ∃ t v, q i = .iface t v) (hA : ∀ i, i < k → Acts (S i) 108 (q i)) (hU : ∀ i, i < k → More (S i) mu) (p ob off cap : Nat) (w : World) (Fs : Nat → Nat → Prop) (l : List α) (n : Nat) (now : Int) (hnow : Now now) (h : BD k q S mu p ob off cap w Fs l n) :
    Calls Tryd.prog 90 #[.pointer (some ⟨p, 0, none⟩), .int .i64 now] w (BWhenP k q S mu p ob off cap w Fs n (whenL U now l 0 false)) := by
  have HB := Lib.hid h
  have HFF := Lib.hid hF
  have HNOW := Lib.hid hnow
  obtain ⟨T, hT⟩ : ∃ T, T = whenL U now l 0 false := ⟨_, rfl⟩
  rw [← hT]
  have HT := Lib.hid hT
  have hkc := h.pos
  have c0 := h.cell
  clear hT h hnow
  go_enter Tryd.func90, Tryd.ntmps90
  go_wp2
  clear c0
  go_loopw [6, 7, 17] (fun s6 s7 s17 wr => ∃ (i : Nat) (d r : List α) (Fs' : Nat → Nat → Prop) (best : Int) (sm : Bool), s17 = .int .i64 (i : Int) ∧ s6 = .int .i64 best ∧ s7 = .bool sm ∧ d.length = i ∧ i ≤ k ∧ Hid (T = (d ++ (whenL U now r best sm).1, (whenL U now r best sm).2)) ∧ Hid (BD k q S mu p ob off cap wr Fs' (d ++ r) n ∧ Sav (BF k p ob Fs) w wr ∧ ∀ g, BF k p ob Fs' g → BF k p ob Fs g ∨ w.heap.size ≤ g)) (fun _ _ s _ => k - (intOf s).toNat)
  case atStart => exact ⟨0, [], l, Fs, 0, false, rfl, rfl, rfl, rfl, Nat.zero_le _, Lib.hid (by rw [HT.out]; simp), Lib.hid ⟨HB.out, .refl _ _, fun _ => .inl⟩⟩
  case round =>
    obtain ⟨i, d, r, Fs', best, sm, rfl, rfl, rfl, hd, hik, HEQ, HK⟩ := hrel
    have HD := Lib.hid hd
    clear hd
    by_cases hlt : i < k
    · have i0' : (0 : Int) ≤ (i : Int) := by omega
      have i1' : (i : Int) < (k : Int) := by omega
      cases r with
      | nil =>
        exfalso
        have h1 := HK.out.1.len
        have h2 := HD.out
        simp at h1
        omega
      | cons a r' =>
        have HAI := Lib.hid (get_mid (r := r') (a := a) HD.out)
        obtain ⟨tq, vq, hqi⟩ := hq i hlt
        have el := HK.out.1.el i hlt
        rw [hqi] at el
        obtain ⟨fm, rv, hm, hc⟩ := (hA i hlt).when_
        rw [hqi] at hm
        have HPC := Lib.hid (hc wr (Fs' i) a n now (HK.out.1.sub i a HAI.out) HNOW.out)
        have HMT := Lib.hid ((hU i hlt).when_ (HK.out.1.sub i a HAI.out) HNOW.out)
        have HTL := Lib.hid (whenL_cons U now a r' best sm)
        clear hc hqi
        generalize U.when_ a now = ta at *
        obtain ⟨a', t, okb⟩ := ta
        simp only [] at HPC HMT HTL
        go_upto_region 6 with ((with_reducible refine wpList_here "When" ?_); refine wpList_invoke hm rfl _ _ _ rfl rfl (ys := [.int .i64 now]) rfl HPC.out ?_; rintro e w1 ⟨F', rfl, hmv⟩; have HK1 := Lib.hid (HK.out.1.step hF HAI.out hmv (by have := HMT.out; have := HK.out.1.mass; omega)); clear hmv; refine ⟨_, rfl, ?_⟩)
        have HK2 : Hid (BD k q S mu p ob off cap w1 (updF Fs' i F') ((d ++ [a']) ++ r') n ∧ Sav (BF k p ob Fs) w w1 ∧ ∀ g, BF k p ob (updF Fs' i F') g → BF k p ob Fs g ∨ w.heap.size ≤ g) := Lib.hid (by
          have h1 := HK1.out.1
          rw [set_mid HD.out] at h1
          exact ⟨h1, HK.out.2.1.trans HK1.out.2.1 HK.out.2.2, fun g hg => (HK1.out.2.2 g hg).elim (HK.out.2.2 g) (fun e => .inr (Nat.le_trans HK.out.2.1.size e))⟩)
        have HLN := Lib.hid (show (d ++ [a']).length = i + 1 from by have := HD.out; simp; omega)
        clear HK1 HMT HPC el
        cases okb with
        | false =>
          go_wp2
          go_roundw
          case measure => simp [intOf]; omega
          case rel => exact ⟨i + 1, d ++ [a'], r', updF Fs' i F', best, sm, by go_num, rfl, rfl, HLN.out, by omega, Lib.hid (by rw [HEQ.out, HTL.out, if_neg (fun e => by cases e.1)]; simp), HK2⟩
        | true =>
          cases sm with
          | false =>
            go_wp2
            go_roundw
            case measure => simp [intOf]; omega
            case rel => exact ⟨i + 1, d ++ [a'], r', updF Fs' i F', t, true, by go_num, rfl, rfl, HLN.out, by omega, Lib.hid (by rw [HEQ.out, HTL.out, if_pos ⟨rfl, .inl rfl⟩]; simp), HK2⟩
          | true =>
            by_cases htb : t < best
            · have HTB := Lib.hid htb
              go_wp2
              go_roundw
              case measure => simp [intOf]; omega
              case rel => exact ⟨i + 1, d ++ [a'], r', updF Fs' i F', t, true, by go_num, rfl, rfl, HLN.out, by omega, Lib.hid (by rw [HEQ.out, HTL.out, if_pos ⟨rfl, .inr HTB.out⟩]; simp), HK2⟩
            · have HTB := Lib.hid htb
              go_wp2
              go_roundw
              case measure => simp [intOf]; omega
              case rel => exact ⟨i + 1, d ++ [a'], r', updF Fs' i F', best, true, by go_num, rfl, rfl, HLN.out, by omega, Lib.hid (by rw [HEQ.out, HTL.out, if_neg (fun e => e.2.elim (fun e => by cases e) HTB.out)]; simp), HK2⟩
    · have hrn : r = [] := by
        have h1 := HK.out.1.len
        have h2 := HD.out
        simp at h1
        exact List.eq_nil_of_length_eq_zero (by omega)
      subst hrn
      have HT2 := Lib.hid (show T = (d ++ [], best, sm) from by rw [HEQ.out]; simp [whenL])
      have hnlt : ¬ (i : Int) < (k : Int) := by omega
      go_wp2
      go_ret2
      rw [HT2.out]
      exact ⟨_, rfl, HK.out⟩
set_option maxRecDepth 100000 in
set_option maxHeartbeats 4000000 in
theorem rball_any {α : Type} {U : Mach α} {N0 k : Nat} {q : Nat → Value} {S : Nat → Side U N0 (Nat → Prop)} {mu : α → Nat} (hF : ∀ i b g, (S i).F b g ↔ b g) (hq : ∀ i, i < k → ∃ t v, q i = .iface t v) (hA : ∀ i, i < k → RSide (S i) (q i)) (hU : ∀ i, i < k → More (S i) mu) (p ob off cap : Nat) (w : World) (Fs : Nat → Nat → Prop) (l : List α) (n : Nat) (h : BD k q S mu p ob off cap w Fs l n) :
    Calls Tryd.prog 87 #[.pointer (some ⟨p, 0, none⟩)] w fun e w' => ∃ v, e = .returned v ∧ RowH 108 w' v (l.flatMap U.all) ∧ Gr w w' := by
  have HB := Lib.hid h
  have HFF := Lib.hid hF
  have hkc := h.pos
  have c0 := h.cell
  obtain ⟨i0, hi0, hz0, hz1, hz2⟩ := info_parts packInfo
  have HBND : Hid (∀ d r, l = d ++ r → (d.flatMap U.all).length ≤ 200) := Lib.hid (by
    intro d r e
    have hm := muL_all U mu l (fun a ha => by
      obtain ⟨i, hi, rfl⟩ := List.mem_iff_getElem.1 ha
      exact ((hU i (by rw [← h.len]; exact hi)).few (h.sub i _ (List.getElem?_eq_getElem hi))).1)
    have hm2 := h.mass
    have hm3 := h.n
    rw [e] at hm2
    rw [e, List.flatMap_append, List.length_append] at hm
    omega)
  clear h
  go_enter Tryd.func87, Tryd.ntmps87
  go_wp2
  clear c0
  go_loopw [3, 11] (fun s3 s11 wr => ∃ (i : Nat) (d r : List α), s11 = .int .i64 (i : Int) ∧ d.length = i ∧ i ≤ k ∧ Hid (l = d ++ r) ∧ Hid (Gr w wr ∧ RowH 108 wr s3 (d.flatMap U.all) ∧ ∀ g, s3.ownBlock = some g → w.heap.size ≤ g)) (fun _ s _ => k - (intOf s).toNat)
  case atStart => exact ⟨0, [], l, rfl, rfl, Nat.zero_le _, Lib.hid rfl, Lib.hid ⟨Gr.refl _, RowH.nil _ _, fun g hg => by cases hg⟩⟩
  case round =>
    obtain ⟨i, d, r, rfl, hd, hik, HEQ, HK⟩ := hrel
    have HD := Lib.hid hd
    clear hd
    by_cases hlt : i < k
    · have i0' : (0 : Int) ≤ (i : Int) := by omega
      have i1' : (i : Int) < (k : Int) := by omega
      cases r with
      | nil =>
        exfalso
        have h1 := HB.out.len
        have h2 := HD.out
        rw [HEQ.out] at h1
        simp at h1
        omega
      | cons a r' =>
        have HAI := Lib.hid (show l[i]? = some a from by rw [HEQ.out]; exact get_mid HD.out)
        obtain ⟨tq, vq, hqi⟩ := hq i hlt
        have HBR := Lib.hid (HB.out.gr hF HK.out.1)
        have el := HBR.out.el i hlt
        rw [hqi] at el
        obtain ⟨fm, rv, hm, hc⟩ := (hA i hlt).all
        rw [hqi] at hm
        have HPC := Lib.hid (hc wr (Fs i) a n (HBR.out.sub i a HAI.out))
        have HB2 := Lib.hid (show (d.flatMap U.all).length + (U.all a).length ≤ 200 from by
          have h1 := HBND.out (d ++ [a]) r' (by rw [HEQ.out]; simp)
          rwa [show (d ++ [a]).flatMap U.all = d.flatMap U.all ++ U.all a from by simp, List.length_append] at h1)
        clear hc hqi
        go_wp2_with (first
          | ((with_reducible refine wpList_here "All" ?_); refine wpList_invoke hm rfl _ _ _ rfl rfl (ys := []) rfl HPC.out ?_; rintro e w1 ⟨v1, rfl, hrow, hg1⟩; have HL1 := Lib.hid hrow; have HG1 := Lib.hid hg1; clear hg1 hrow; refine ⟨_, rfl, ?_⟩)
          | (at_builtin; refine wpList_append_any rfl _ _ _ (by rfl) i0 Hel.zero.val Tryd.underlying38 hi0 hz0 hz1 hz2 rfl ?c1 (by rfl) (HK.out.2.1.gr HG1.out) (by rfl) HL1.out ?c2 ?_; (case c1 => (intro u hu; exact (cells_int Hel.zero u (by simpa [Hel.val, Value.cells, Hel.cells] using hu)).2)); (case c2 => (have h1 := HB2.out; omega)); intro v4 w4 hrow hgr hown; have HK4 := Lib.hid (show Gr w w4 ∧ RowH 108 w4 v4 ((d ++ [a]).flatMap U.all) ∧ ∀ g, v4.ownBlock = some g → w.heap.size ≤ g from ⟨(HK.out.1.trans HG1.out).grown hgr HK.out.2.2, by simpa using hrow, fun g hg => (hown g hg).elim (HK.out.2.2 g) (fun e => Nat.le_trans (HK.out.1.trans HG1.out).size e)⟩); clear hrow hgr hown))
        go_roundw
        case measure => simp [intOf]; omega
        case rel => exact ⟨i + 1, d ++ [a], r', by go_num, by have := HD.out; simp; omega, by omega, Lib.hid (by rw [HEQ.out]; simp), HK4⟩
    · have hrn : r = [] := by
        have h1 := HB.out.len
        have h2 := HD.out
        rw [HEQ.out] at h1
        simp at h1
        exact List.eq_nil_of_length_eq_zero (by omega)
      subst hrn
      have hnlt : ¬ (i : Int) < (k : Int) := by omega
      have HLD := Lib.hid (show l = d from by rw [HEQ.out]; simp)
      go_wp2
      go_ret
      rw [HLD.out]
      exact ⟨_, rfl, HK.out.2.1, HK.out.1⟩
/-- Several queues, as a side of a play. -/
def rbSide {α : Type} {U : Mach α} (N0 k : Nat) (q : Nat → Value) (S : Nat → Side U N0 (Nat → Prop)) (mu : α → Nat) (dfl : α) (p : Nat) (hF : ∀ i b g, (S i).F b g ↔ b g) : Side (bands U dfl) N0 (Nat → Prop) where
  I w F l n := ∃ ob off cap Fs, BD k q S mu p ob off cap w Fs l n ∧ ∀ g, F g ↔ BF k p ob Fs g
  F b g := b g
  lo {w F l n g} h hg := by obtain ⟨ob, off, cap, Fs, h1, h2⟩ := h; exact h1.flo hF ((h2 g).1 hg)
  lt {w F l n g} h hg := by obtain ⟨ob, off, cap, Fs, h1, h2⟩ := h; exact h1.flt hF ((h2 g).1 hg)
  sav {w w' F l n B} h k hB := by obtain ⟨ob, off, cap, Fs, h1, h2⟩ := h; exact ⟨ob, off, cap, Fs, h1.sav hF k (fun g hg => ⟨(hB g hg).1, fun e => (hB g hg).2 ((h2 g).2 e)⟩), h2⟩
theorem rbSide_moved {α : Type} {U : Mach α} {N0 k : Nat} {q : Nat → Value} {S : Nat → Side U N0 (Nat → Prop)} {mu : α → Nat} {dfl : α} {p : Nat} {hF : ∀ i b g, (S i).F b g ↔ b g} {w w' : World} {F : Nat → Prop} {ob off cap : Nat} {Fs Fs' : Nat → Nat → Prop} {l' : List α} {n' : Nat} (h2 : ∀ g, F g ↔ BF k p ob Fs g)
    (h : BD k q S mu p ob off cap w' Fs' l' n') (s : Sav (BF k p ob Fs) w w') (n : ∀ g, BF k p ob Fs' g → BF k p ob Fs g ∨ w.heap.size ≤ g) : (rbSide N0 k q S mu dfl p hF).Moved w F w' (BF k p ob Fs') l' n' :=
  ⟨⟨ob, off, cap, Fs', h, fun _ => Iff.rfl⟩, s.mono fun g hg => (h2 g).2 hg, fun g hg => (n g hg).imp (h2 g).2 id⟩
theorem rbSide_more {α : Type} {U : Mach α} {N0 k : Nat} {q : Nat → Value} {S : Nat → Side U N0 (Nat → Prop)} {mu : α → Nat} (dfl : α) (p : Nat) (hF : ∀ i b g, (S i).F b g ↔ b g) (hU : ∀ i, i < k → More (S i) mu) : More (rbSide N0 k q S mu dfl p hF) (muL mu) where
  up {w F l n} h hn := by obtain ⟨ob, off, cap, Fs, h1, h2⟩ := h; exact ⟨ob, off, cap, Fs, h1.more hU hn, h2⟩
  few {w F l n} h := by
    obtain ⟨ob, off, cap, Fs, h1, h2⟩ := h
    exact ⟨muL_all U mu l (fun a ha => by
      obtain ⟨i, hi, rfl⟩ := List.mem_iff_getElem.1 ha
      exact ((hU i (by rw [← h1.len]; exact hi)).few (h1.sub i _ (List.getElem?_eq_getElem hi))).1), h1.mass⟩
  put {w F l n t x} h g := by
    obtain ⟨ob, off, cap, Fs, h1, h2⟩ := h
    obtain ⟨j, hj⟩ : ∃ j, j = bandOf l.length x := ⟨_, rfl⟩
    have hjk : j < k := by rw [hj, h1.len]; unfold bandOf; have := h1.pos; omega
    have hjl : j < l.length := by rw [h1.len]; exact hjk
    obtain ⟨a, ha⟩ : ∃ a, l[j]? = some a := ⟨_, List.getElem?_eq_getElem hjl⟩
    have hp : (bands U dfl).put l t x = (l.set j (U.put a t x).1, (U.put a t x).2) := by
      show (l.set (bandOf l.length x) (U.put (l.getD (bandOf l.length x) dfl) t x).1, (U.put (l.getD (bandOf l.length x) dfl) t x).2) = _
      rw [← hj, List.getD_eq_getElem?_getD, ha]
      rfl
    rw [hp]
    have e1 := (hU j hjk).put (h1.sub j a ha) g
    have e2 := muL_set mu l j a (U.put a t x).1 ha
    simp only
    omega
  take {w F l n t} h ht := by
    obtain ⟨ob, off, cap, Fs, h1, h2⟩ := h
    exact takeL_mu U mu t l (fun a ha => by
      obtain ⟨i, hi, rfl⟩ := List.mem_iff_getElem.1 ha
      exact (hU i (by rw [← h1.len]; exact hi)).take (h1.sub i _ (List.getElem?_eq_getElem hi)) ht)
  when_ {w F l n t} h ht := by
    obtain ⟨ob, off, cap, Fs, h1, h2⟩ := h
    exact whenL_mu U mu t l (fun a ha => by
      obtain ⟨i, hi, rfl⟩ := List.mem_iff_getElem.1 ha
      exact (hU i (by rw [← h1.len]; exact hi)).when_ (h1.sub i _ (List.getElem?_eq_getElem hi)) ht) 0 false
theorem rbSide_acts {α : Type} {U : Mach α} {N0 k : Nat} {q : Nat → Value} {S : Nat → Side U N0 (Nat → Prop)} {mu : α → Nat} (dfl : α) (p : Nat) (hF : ∀ i b g, (S i).F b g ↔ b g) (hq : ∀ i, i < k → ∃ t v, q i = .iface t v) (hA : ∀ i, i < k → Acts (S i) 108 (q i)) (hU : ∀ i, i < k → More (S i) mu) :
    Acts (rbSide N0 k q S mu dfl p hF) 108 (.iface 44 (.pointer (some ⟨p, 0, none⟩))) where
  put := ⟨_, _, (fun args w => by kernel_rfl : Meth _ "Put" 88 (.pointer (some ⟨p, 0, none⟩))), fun w F l n now x h g => by
    obtain ⟨ob, off, cap, Fs, h1, h2⟩ := h
    exact (rbput_any dfl hF hq hA hU p ob off cap w Fs l n now x g h1).mono fun e w' ⟨r, Fs', k1, k2, k3, k4, k5⟩ => ⟨r, _, k1, k2, rbSide_moved h2 k3 k4 k5⟩⟩
  take := ⟨_, _, (fun args w => by kernel_rfl : Meth _ "Take" 89 (.pointer (some ⟨p, 0, none⟩))), fun w F l n now h g => by
    obtain ⟨ob, off, cap, Fs, h1, h2⟩ := h
    exact (rbtake_any hF hq hA hU p ob off cap w (Nat.le_trans h1.lo.1 (Nat.le_of_lt h1.lt.1)) Fs l n now g h1).mono fun e w' ⟨r, Fs', k1, k2, k3, k4, k5⟩ => ⟨r, _, k1, k2, rbSide_moved h2 k3 k4 k5⟩⟩
  when_ := ⟨_, _, (fun args w => by kernel_rfl : Meth _ "When" 90 (.pointer (some ⟨p, 0, none⟩))), fun w F l n now h g => by
    obtain ⟨ob, off, cap, Fs, h1, h2⟩ := h
    exact (rbwhen_any hF hq hA hU p ob off cap w Fs l n now g h1).mono fun e w' ⟨Fs', k1, k3, k4, k5⟩ => ⟨_, k1, rbSide_moved h2 k3 k4 k5⟩⟩
  few {w F l n} h := by
    have hm := ((rbSide_more (q := q) dfl p hF hU).few h)
    obtain ⟨ob, off, cap, Fs, h1, h2⟩ := h
    have hn := h1.n
    refine ⟨by have h3 : ((bands U dfl).all l).length ≤ muL mu l := hm.1; have h4 := hm.2; omega, fun x hx => ?_⟩
    obtain ⟨a, ha, hxa⟩ := List.mem_flatMap.1 hx
    obtain ⟨i, hi, rfl⟩ := List.mem_iff_getElem.1 ha
    exact ((hA i (by rw [← h1.len]; exact hi)).few (h1.sub i _ (List.getElem?_eq_getElem hi))).2 x hxa
  fewPut {w F l n now x} h g := by
    have hm := (rbSide_more (q := q) dfl p hF hU).put h g
    have hm2 := (rbSide_more (q := q) dfl p hF hU).few h
    have := g.few
    omega
  fewTake {w F l n now} h g := by
    have hm := (rbSide_more (q := q) dfl p hF hU).take h g
    have hm2 := (rbSide_more (q := q) dfl p hF hU).few h
    obtain ⟨ob, off, cap, Fs, h1, h2⟩ := h
    have := h1.n
    omega
theorem rbSide_r {α : Type} {U : Mach α} {N0 k : Nat} {q : Nat → Value} {S : Nat → Side U N0 (Nat → Prop)} {mu : α → Nat} (dfl : α) (p : Nat) (hF : ∀ i b g, (S i).F b g ↔ b g) (hq : ∀ i, i < k → ∃ t v, q i = .iface t v) (hA : ∀ i, i < k → RSide (S i) (q i)) (hU : ∀ i, i < k → More (S i) mu) :
    RSide (rbSide N0 k q S mu dfl p hF) (.iface 44 (.pointer (some ⟨p, 0, none⟩))) where
  toActs := rbSide_acts dfl p hF hq (fun i hi => (hA i hi).toActs) hU
  all := ⟨_, _, (fun args w => by kernel_rfl : Meth _ "All" 87 (.pointer (some ⟨p, 0, none⟩))), fun w F l n h => by
    obtain ⟨ob, off, cap, Fs, h1, h2⟩ := h
    exact rball_any hF hq hA hU p ob off cap w Fs l n h1⟩
end Go.Proofs.YtbpofdfehcbppaaDoor

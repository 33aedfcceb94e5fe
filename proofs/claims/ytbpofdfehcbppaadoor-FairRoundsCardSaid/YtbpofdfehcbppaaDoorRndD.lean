/-
  The program's Rounds: Take. (Printed by genrnd.py.)
-/
import Derived.Test.YtbpofdfehcbppaaDoorRndC
namespace Go.Proofs.YtbpofdfehcbppaaDoor
open Go.RowKit Go.Extern.Stop Go.Stop Go.Extern

section
variable {ev : Operand → Value} {o : Oper} {w : World} {x y z : Operand} {u : Value}
theorem rnt_fa_fair_Rounds_3 {p o' : Nat} (ho : o.op = .fieldAddr 131 x 3) (h : ev x = .pointer (some ⟨p, o', none⟩)) : (execOp ev o).run Tryd.prog w = .ok (.value (.pointer (some ⟨p, o' + 49, none⟩))) w := by
  simp [execOp, ho, h, go_sem]
theorem rnt_idx__16_int {p o' j : Nat} (ho : o.op = .indexAddr 129 x y) (h : ev x = .pointer (some ⟨p, o', none⟩)) (k : ev y = .int .i64 (j : Int)) (hj : j < 16) : (execOp ev o).run Tryd.prog w = .ok (.value (.pointer (some ⟨p, o' + j, none⟩))) w := by
  have h0 : (0 : Int) ≤ (j : Int) := by omega
  have h1 : (j : Int) < 16 := by omega
  simp [execOp, ho, h, k, h0, h1, go_sem]
theorem rnt_fa_fair_Rounds_1 {p o' : Nat} (ho : o.op = .fieldAddr 131 x 1) (h : ev x = .pointer (some ⟨p, o', none⟩)) : (execOp ev o).run Tryd.prog w = .ok (.value (.pointer (some ⟨p, o' + 32, none⟩))) w := by
  simp [execOp, ho, h, go_sem]
theorem rnt_add {m n r : Int} (ho : o.op = .binOp .add 3 x y 3) (h : ev x = .int .i64 m) (k : ev y = .int .i64 n) (hb : IntKind.i64.wrap (m + n) = r) : (execOp ev o).run Tryd.prog w = .ok (.value (.int .i64 r)) w := by
  subst hb
  simp [execOp, ho, h, k, go_sem]
theorem rnt_fa_queue_Held_0 {p o' : Nat} (ho : o.op = .fieldAddr 139 x 0) (h : ev x = .pointer (some ⟨p, o', none⟩)) : (execOp ev o).run Tryd.prog w = .ok (.value (.pointer (some ⟨p, o', none⟩))) w := by
  simp [execOp, ho, h, go_sem]
theorem rnt_fa_api_Item_1 {p o' : Nat} (ho : o.op = .fieldAddr 103 x 1) (h : ev x = .pointer (some ⟨p, o', none⟩)) : (execOp ev o).run Tryd.prog w = .ok (.value (.pointer (some ⟨p, o' + 1, none⟩))) w := by
  simp [execOp, ho, h, go_sem]
theorem rnt_sub {m n r : Int} (ho : o.op = .binOp .sub 3 x y 3) (h : ev x = .int .i64 m) (k : ev y = .int .i64 n) (hb : IntKind.i64.wrap (m - n) = r) : (execOp ev o).run Tryd.prog w = .ok (.value (.int .i64 r)) w := by
  subst hb
  simp [execOp, ho, h, k, go_sem]
theorem rnt_fa_fair_Rounds_6 {p o' : Nat} (ho : o.op = .fieldAddr 131 x 6) (h : ev x = .pointer (some ⟨p, o', none⟩)) : (execOp ev o).run Tryd.prog w = .ok (.value (.pointer (some ⟨p, o' + 67, none⟩))) w := by
  simp [execOp, ho, h, go_sem]
end

theorem RM.lnin {w wr : World} {p k : Nat} {q : RndP} {s0 s : RndV} {R : List Nat} (h : RM w wr p q s0 R s) {r : Nat} (hr : r ∈ R) (hk : k < 16) : ¬ LFoot p (s.vs k) r := fun e => h.nin hr (e.elim .inl (fun e => .inr (.inr ⟨k, hk, e⟩)))
/-- The first one has its quantum. -/
structure MidV (s s' : RndV) (f : Nat) (c : Int) : Prop where
  tv : s'.tv = s.tv
  turn : s'.turn = s.turn
  ls : s'.ls = s.ls
  begun : s'.begun = true
  bytes : s'.bytes = s.bytes
  many : s'.many = s.many
  at_ : s'.cr f = c
  other : ∀ j, j < 16 → j ≠ f → s'.cr j = s.cr j
theorem intL_app (r : List Nat) (f : Nat) : intL (r ++ [f]) = intL r ++ [(f : Int)] := List.map_append ..
theorem Shows.pass {s s' s2 : RndV} {a : RndS} {f : Nat} {r : List Nat} {c : Int} (h : Shows s a) (m : MidV s s' f c) (e1 : s2.ls = s'.ls) (e2 : s2.turn = intL r ++ [(f : Int)]) (e3 : s2.begun = false) (e4 : s2.cr = s'.cr) (e5 : s2.bytes = s'.bytes) (e6 : s2.many = s'.many) : Shows s2 (a.pass f r c) := by
  refine ⟨fun k hk => by rw [e1, m.ls]; exact h.ls k hk, by rw [e2]; exact (intL_app r f).symm, e3, fun k hk => ?_, by rw [e5, m.bytes]; exact h.bytes, by rw [e6, m.many]; exact h.many⟩
  rw [e4]
  show s'.cr k = fu a.credit f c k
  by_cases e : k = f
  · rw [e, fu_at]; exact m.at_
  · rw [fu_ne _ _ e, m.other k hk e]; exact h.cr k hk
theorem Shows.gone {q : RndP} {s s' s2 : RndV} {a : RndS} {n f : Nat} {r : List Nat} {c : Int} {x : Hel} {sx : List Hel} (h : Shows s a) (ok : RndOk q a n) (hs : ofF a.l f = x :: sx) (m : MidV s s' f c) (e1 : s2.ls = fu s'.ls f sx) (e2 : s2.turn = intL (if sx = [] then r else f :: r)) (e3 : s2.begun = if sx = [] then false else true) (e4 : s2.cr = fu s'.cr f (c - x.len)) (e5 : s2.bytes = s'.bytes - x.len) (e6 : s2.many = s'.many - 1) : Shows s2 (a.gone f r x sx c) := by
  have hxl := ofF_mem.1 (show x ∈ ofF a.l f by rw [hs]; exact List.mem_cons_self ..)
  refine ⟨fun k hk => ?_, e2, e3, fun k hk => ?_, ?_, ?_⟩
  · rw [e1]
    show fu s'.ls f sx k = ofF (outN a.l x.n) k
    by_cases e : k = f
    · rw [e, fu_at]; exact (ofF_head ok.nums hs).symm
    · rw [fu_ne _ _ e, m.ls, h.ls k hk]; exact (ofF_other hxl.1 ok.nums (by rw [hxl.2]; omega)).symm
  · rw [e4]
    show fu s'.cr f (c - x.len) k = fu a.credit f (c - x.len) k
    by_cases e : k = f
    · rw [e, fu_at, fu_at]
    · rw [fu_ne _ _ e, fu_ne _ _ e, m.other k hk e]; exact h.cr k hk
  · rw [e5, m.bytes, h.bytes]
    exact (sumLen_out hxl.1 ok.nums).symm
  · rw [e6, m.many, h.many]
    have := outN_len hxl.1 ok.nums
    show _ = ((outN a.l x.n).length : Int)
    omega
set_option maxRecDepth 100000 in
set_option maxHeartbeats 40000000 in
theorem rtake_any (p : Nat) (q : RndP) (hq : q.Ok) (sb : RndV) (a : RndS) (n : Nat) (ok : RndOk q a n) (sh : Shows sb a) (now : Int) (w : World) (h : RndC w p q sb) :
    Calls Tryd.prog 109 #[.pointer (some ⟨p, 0, none⟩), .int .i64 now] w fun e w' => e = .returned (.tuple #[(takeR q a.fuel a).2.1.val, .slice none 0 0, .bool (takeR q a.fuel a).2.2.2]) ∧ RnDid w w' p q sb (takeR q a.fuel a).1 := by
  have HA := Lib.hid h
  have HQ := Lib.hid hq
  have HOK := Lib.hid ok
  have HSH := Lib.hid sh
  obtain ⟨R, hR⟩ : ∃ R, R = takeR q a.fuel a := ⟨_, rfl⟩
  rw [← hR]
  have HR := Lib.hid hR.symm
  clear h hq ok sh hR
  unfold Hel.val
  go_enter Tryd.func109, Tryd.ntmps109
  go_wp2
  obtain ⟨w0, hw0⟩ : ∃ w0, w0 = w.alloc (.cells #[.int .i64 0, .int .i64 0, .int .i64 0, .int .i64 0, .int .i64 0, .int .i64 0] 139) := ⟨_, rfl⟩
  obtain ⟨rb, hrb⟩ : ∃ rb, rb = w.heap.size := ⟨_, rfl⟩
  have HR0 : Hid (HelRes w0 rb .zero ∧ rb = w.heap.size) := Lib.hid (by rw [hw0]; exact ⟨helRes_new w .zero hrb, hrb⟩)
  have HG0 : Hid (Gr w w0) := Lib.hid (by rw [hw0]; exact (Gr.refl _).alloc _)
  have HA0 := Lib.hid (HA.out.gr HG0.out)
  rw [← hw0, ← hrb]
  clear hw0 hrb
  have HM0 := Lib.hid ((RM.first HA.out).res_add HG0.out (show w.heap.size ≤ rb by have := HR0.out.2; omega) (cell_lt HR0.out.1.at_.c0))
  have HZ0 := Lib.hid HR0.out.1
  clear HR0 HG0 HA0
  go_loopg [] (a.fuel) (fun g wr => ∃ (a1 : RndS) (s1 : RndV), Hid (takeR q g a1 = R) ∧ Hid (RndOk q a1 n) ∧ Hid (a1.fuel ≤ g) ∧ Hid (Shows s1 a1) ∧ Hid (RM w wr p q sb [rb] s1) ∧ Hid (HelRes wr rb .zero))
  case atStart => exact ⟨a, sb, HR, HOK, Lib.hid (Nat.le_refl _), HSH, HM0, HZ0⟩
  case round =>
    clear HM0 HZ0 HR HOK HSH HA
    obtain ⟨a1, s1, HRR, HO, HF, HS, HM, HZ⟩ := hrel
    obtain ⟨g', rfl⟩ : ∃ g', gk = g' + 1 := ⟨gk - 1, by have h1 := HF.out; unfold RndS.fuel at h1; omega⟩
    have c65 := HM.out.at_.c65
    cases hturn : a1.turn with
    | nil =>
      have HTT := Lib.hid (show R = (a1, .zero, [], false) from by rw [← HRR.out, takeR_none hturn])
      have htu : IntRow wr s1.tv [] := by rw [← show s1.turn = [] from by rw [HS.out.turn, hturn]; rfl]; exact HM.out.at_.turn
      obtain ⟨ta, tc, htv⟩ := htu.shape
      rw [htv, List.length_nil] at c65
      clear htu htv hturn
      obtain ⟨⟨r0, r1, r2, r3, r4, r5⟩, e0, e1, e2, e3, e4, e5⟩ := HZ.out
      go_wp2
      obtain ⟨w9, hw9⟩ : ∃ w9, w9 = ((((((wr.setCell ⟨rb, 0, none⟩ (.int .i64 Hel.zero.t)).setCell ⟨rb, 1, none⟩ (.int .i64 Hel.zero.len)).setCell ⟨rb, 2, none⟩ (.int .i64 Hel.zero.flow)).setCell ⟨rb, 3, none⟩ (.int .i64 Hel.zero.band)).setCell ⟨rb, 4, none⟩ (.int .i64 Hel.zero.mark)).setCell ⟨rb, 5, none⟩ (.int .i64 Hel.zero.n)) := ⟨_, rfl⟩
      have HR9 := Lib.hid (show HelRes w9 rb .zero ∧ Sav (fun g => g = rb) wr w9 from by rw [hw9]; exact hel_set6 HZ.out .zero)
      unfold Hel.zero at hw9
      simp only at hw9
      rw [← hw9]
      clear hw9 r0 r1 r2 r3 r4 r5 e0 e1 e2 e3 e4 e5
      obtain ⟨⟨q0, q1, q2, q3, q4, q5⟩, _⟩ := HR9.out.1
      unfold Hel.zero at q0 q1 q2 q3 q4 q5
      simp only [Nat.zero_add] at q0 q1 q2 q3 q4 q5
      refine bodyPost_ret (v := .tuple #[.agg #[.int .i64 0, .int .i64 0, .int .i64 0, .int .i64 0, .int .i64 0, .int .i64 0], .slice none 0 0, .bool false]) (by simp [results, Tryd.results109, go_sem, q0, q1, q2, q3, q4, q5]) rfl ?_
      rw [HTT.out]
      exact ⟨rfl, _, (HM.out.off HR9.out.2 (fun g e => by simp [e])).did, HS.out⟩
    | cons f r =>
      obtain ⟨x, sx, hs, hxl, hxf, hx1, hx2⟩ := HO.out.head hturn
      have HK := Lib.hid (show f < 16 from by have := HO.out.small (f := f) (by rw [hturn]; exact List.mem_cons_self ..); omega)
      have HT1 := Lib.hid hturn
      have HS1 := Lib.hid hs
      have HXL := Lib.hid (And.intro hx1 hx2)
      have HCB := Lib.hid (HO.out.credB HQ.out hturn)
      have HTU : Hid (s1.turn = (f : Int) :: intL r) := Lib.hid (by rw [HS.out.turn, hturn]; rfl)
      have HLL : Hid (s1.ls f = x :: sx) := Lib.hid ((HS.out.ls f HK.out).trans hs)
      have HRL : Hid ((intL r).length ≤ 300) := Lib.hid (by have h1 := HO.out.few; have h2 := HO.out.l.n; rw [hturn] at h1; rw [intL_len]; simp at h1; omega)
      obtain ⟨tg, toff, cap, htv, hcap, hcm, hc⟩ := Row.cells (show IntRow wr s1.tv ((f : Int) :: intL r) from by rw [← HTU.out]; exact HM.out.at_.turn) (by simp)
      rw [List.length_cons] at htv hcap
      have HTV := Lib.hid htv
      rw [htv] at c65
      have ce := hc 0 (.int .i64 (f : Int)) (by simp)
      rw [Nat.add_zero] at ce
      have e1 : 1 ≤ cap := by omega
      have i2 : (((intL r).length + 1 : Nat) : Int) ≤ (cap : Int) := by omega
      have i3 : (0 : Int) < (((intL r).length + 1 : Nat) : Int) := by omega
      have HE := Lib.hid (And.intro e1 (And.intro i2 i3))
      have c66 := HM.out.at_.c66
      rw [HS.out.begun] at c66
      clear hc hcm htv hs hxl hxf hx1 hx2 hcap hturn
      cases hb : a1.begun with
      | false =>
        rw [hb] at c66
        go_upto_region 4 with fail
        clear c65 ce c66 e1 i2 i3
        have HCQ := Lib.hid (HM.out.at_.quantum HK.out)
        have HCC := Lib.hid (show wr.cell? ⟨p, 49 + f, none⟩ = some (.int .i64 (a1.credit f)) from by rw [← HS.out.cr f HK.out]; exact HM.out.at_.cred HK.out)
        have DA := Lib.hid (show IntKind.i64.wrap (a1.credit f + q.quanta f) = a1.cred q f from by have h1 := HCB.out; have h2 : a1.cred q f = a1.credit f + q.quanta f := (by unfold RndS.cred; rw [hb]; rfl); rw [h2] at h1 ⊢; rw [IntKind.wrap_i64]; omega)
        refine wp_region_gg (n := 16) [Fg.eq (.pointer (some ⟨p, 0, none⟩)), Fg.eq (.int .i64 (f : Int)), Fg.eq (.pointer (some ⟨p, 0, none⟩)), Fg.eq (.pointer (some ⟨p, 49, none⟩)), Fg.eq (.pointer (some ⟨p, 49 + f, none⟩)), Fg.eq (.int .i64 (a1.credit f)), Fg.eq (.pointer (some ⟨p, 0, none⟩)), Fg.eq (.int .i64 (f : Int)), Fg.eq (.pointer (some ⟨p, 0, none⟩)), Fg.eq (.pointer (some ⟨p, 32, none⟩)), Fg.eq (.pointer (some ⟨p, 32 + f, none⟩)), Fg.eq (.int .i64 (q.quanta f)), Fg.eq (.int .i64 (a1.cred q f)), Fg.eq (.pointer (some ⟨p, 0, none⟩)), Fg.eq (.pointer (some ⟨p, 49, none⟩)), Fg.eq (.pointer (some ⟨p, 49 + f, none⟩))] [27, 28, 29, 30, 31, 32, 33, 34, 35, 36, 37, 38, 39, 40, 41, 42] (by kernel_rfl) (by kernel_rfl) (by kernel_rfl) ?_ ?_
        · intro L i o' ac w1 hi ho hA
          have hgr : Gr wr w1 := (Gr.refl wr).drew.trans hA.gr
          match i, hi with
          | 0, _ =>
            obtain rfl := Option.some.inj ho
            exact gg_plain rfl (gstep_val (q_move rfl (show ac.eval (.tmp 0) = .pointer (some ⟨p, 0, none⟩) from hA.other 0 (by decide))) rfl)
          | 1, _ =>
            obtain rfl := Option.some.inj ho
            exact gg_plain rfl (gstep_val (q_move rfl (show ac.eval (.tmp 7) = .int .i64 (f : Int) from hA.other 7 (by decide))) rfl)
          | 2, _ =>
            obtain rfl := Option.some.inj ho
            exact gg_plain rfl (gstep_val (q_nil rfl (hA.fact 0 (hA.dep 0 (by kernel_rfl) (by decide)))) rfl)
          | 3, _ =>
            obtain rfl := Option.some.inj ho
            exact gg_plain rfl (gstep_val (rnt_fa_fair_Rounds_3 rfl (hA.fact 2 (hA.dep 2 (by kernel_rfl) (by decide)))) rfl)
          | 4, _ =>
            obtain rfl := Option.some.inj ho
            exact gg_plain rfl (gstep_val (rnt_idx__16_int rfl (hA.fact 3 (hA.dep 3 (by kernel_rfl) (by decide))) (hA.fact 1 (hA.dep 1 (by kernel_rfl) (by decide))) (HK.out)) rfl)
          | 5, _ =>
            obtain rfl := Option.some.inj ho
            exact gg_plain rfl (gstep_val (q_loadI rfl (hA.fact 4 (hA.dep 4 (by kernel_rfl) (by decide))) (hgr.cell HCC.out)) rfl)
          | 6, _ =>
            obtain rfl := Option.some.inj ho
            exact gg_plain rfl (gstep_val (q_move rfl (show ac.eval (.tmp 0) = .pointer (some ⟨p, 0, none⟩) from hA.other 0 (by decide))) rfl)
          | 7, _ =>
            obtain rfl := Option.some.inj ho
            exact gg_plain rfl (gstep_val (q_move rfl (show ac.eval (.tmp 7) = .int .i64 (f : Int) from hA.other 7 (by decide))) rfl)
          | 8, _ =>
            obtain rfl := Option.some.inj ho
            exact gg_plain rfl (gstep_val (q_nil rfl (hA.fact 6 (hA.dep 6 (by kernel_rfl) (by decide)))) rfl)
          | 9, _ =>
            obtain rfl := Option.some.inj ho
            exact gg_plain rfl (gstep_val (rnt_fa_fair_Rounds_1 rfl (hA.fact 8 (hA.dep 8 (by kernel_rfl) (by decide)))) rfl)
          | 10, _ =>
            obtain rfl := Option.some.inj ho
            exact gg_plain rfl (gstep_val (rnt_idx__16_int rfl (hA.fact 9 (hA.dep 9 (by kernel_rfl) (by decide))) (hA.fact 7 (hA.dep 7 (by kernel_rfl) (by decide))) (HK.out)) rfl)
          | 11, _ =>
            obtain rfl := Option.some.inj ho
            exact gg_plain rfl (gstep_val (q_loadI rfl (hA.fact 10 (hA.dep 10 (by kernel_rfl) (by decide))) (hgr.cell HCQ.out)) rfl)
          | 12, _ =>
            obtain rfl := Option.some.inj ho
            exact gg_plain rfl (gstep_val (rnt_add rfl (hA.fact 5 (hA.dep 5 (by kernel_rfl) (by decide))) (hA.fact 11 (hA.dep 11 (by kernel_rfl) (by decide))) (DA.out)) rfl)
          | 13, _ =>
            obtain rfl := Option.some.inj ho
            exact gg_plain rfl (gstep_val (q_nil rfl (hA.fact 0 (hA.dep 0 (by kernel_rfl) (by decide)))) rfl)
          | 14, _ =>
            obtain rfl := Option.some.inj ho
            exact gg_plain rfl (gstep_val (rnt_fa_fair_Rounds_3 rfl (hA.fact 13 (hA.dep 13 (by kernel_rfl) (by decide)))) rfl)
          | 15, _ =>
            obtain rfl := Option.some.inj ho
            exact gg_plain rfl (gstep_val (rnt_idx__16_int rfl (hA.fact 14 (hA.dep 14 (by kernel_rfl) (by decide))) (hA.fact 1 (hA.dep 1 (by kernel_rfl) (by decide))) (HK.out)) rfl)
          | k + 16, hk => exact absurd (show k + 16 < 16 from hk) (by omega)
        · intro vz wa hg5 hv
          have HGX := Lib.hid ((Gr.refl wr).drew.trans hg5)
          have v39 : vz 12 = .int .i64 (a1.cred q f) := hv 12 (by omega)
          have v42 : vz 15 = .pointer (some ⟨p, 49 + f, none⟩) := hv 15 (by omega)
          clear hv hg5
          simp only [putN, List.drop_succ_cons, List.drop_zero, List.getElem?_cons_succ, List.getElem?_cons_zero]
          generalize vz 12 = z39 at *
          subst v39
          generalize vz 15 = z42 at *
          subst v42
          generalize vz 0 = z27 at *
          generalize vz 1 = z28 at *
          generalize vz 2 = z29 at *
          generalize vz 3 = z30 at *
          generalize vz 4 = z31 at *
          generalize vz 5 = z32 at *
          generalize vz 6 = z33 at *
          generalize vz 7 = z34 at *
          generalize vz 8 = z35 at *
          generalize vz 9 = z36 at *
          generalize vz 10 = z37 at *
          generalize vz 11 = z38 at *
          generalize vz 13 = z40 at *
          generalize vz 14 = z41 at *
          have HM2 := Lib.hid (HM.out.gr HGX.out)
          have HZ2 := Lib.hid (HZ.out.gr HGX.out)
          have c49 := HM2.out.at_.cred HK.out
          have f49 := HM2.out.at_.free (49 + f)
          go_upto_region 5 with fail
          have HM3 := Lib.hid (HM2.out.setC HK.out (a1.cred q f))
          have HZ3 := Lib.hid (HZ2.out.sav (.set p (49 + f) (.int .i64 (a1.cred q f))) (fun e => HM2.out.nin (r := rb) (by simp) (.inl e)))
          generalize wa.setCell ⟨p, 49 + f, none⟩ (.int .i64 (a1.cred q f)) = w3 at *
          clear c49 f49 HM HZ HM2 HZ2 HGX HCQ HCC DA
          have c66 := HM3.out.at_.c66
          have f66 := HM3.out.at_.free 66
          go_upto_region 6 with fail
          have HM4 := Lib.hid (HM3.out.setB true)
          have HZ4 := Lib.hid (HZ3.out.sav (.set p 66 (.bool true)) (fun e => HM3.out.nin (r := rb) (by simp) (.inl e)))
          generalize w3.setCell ⟨p, 66, none⟩ (.bool true) = w4 at *
          have HV := Lib.hid (show MidV s1 ((s1.setC f (a1.cred q f)).setB true) f (a1.cred q f) from ⟨rfl, rfl, rfl, rfl, rfl, rfl, fu_at _ _ _, fun j _ hj => fu_ne _ _ hj⟩)
          generalize (s1.setC f (a1.cred q f)).setB true = s4 at *
          clear c66 f66 HM3 HZ3 hb
          have HL4 := Lib.hid (show LstAt w4 p (f * 2) (s4.vs f) (x :: sx) from by rw [← HLL.out, ← HV.out.ls]; exact HM4.out.at_.lst f HK.out)
          have i5 : (0 : Int) ≤ (f : Int) := by omega
          have i6 : (f : Int) < 16 := by have := HK.out; omega
          go_upto_region 7 with (go_at_call 82; refine (lfirst_cons p (f * 2) (s4.vs f) x sx _ HL4.out).mono ?_; unfold Hel.val; rintro e w5 ⟨rfl, hg5⟩; have HM5 := Lib.hid (HM4.out.gr hg5); have HZ5 := Lib.hid (HZ4.out.gr hg5); clear hg5)
          obtain ⟨w6, hw6⟩ : ∃ u, u = w5.alloc (.cells #[.int .i64 x.t, .int .i64 x.len, .int .i64 x.flow, .int .i64 x.band, .int .i64 x.mark, .int .i64 x.n] 139) := ⟨_, rfl⟩
          obtain ⟨xb, hxb⟩ : ∃ u, u = w5.heap.size := ⟨_, rfl⟩
          have HX6 : Hid (HelAt w6 xb 0 x) := Lib.hid (by rw [hw6]; exact held_new w5 x hxb)
          have HG6 : Hid (Gr w5 w6) := Lib.hid (by rw [hw6]; exact (Gr.refl _).alloc _)
          have HM6 := Lib.hid (HM5.out.res_add HG6.out (show w5.heap.size ≤ xb by omega) (cell_lt HX6.out.c0))
          have HZ6 := Lib.hid (HZ5.out.gr HG6.out)
          rw [← hw6, ← hxb]
          clear hw6 hxb HM4 HM5 HZ4 HZ5 HL4 HG6
          have HXC := Lib.hid (show w6.cell? ⟨xb, 1, none⟩ = some (.int .i64 x.len) from by have := HX6.out.c1; rw [Nat.zero_add] at this; exact this)
          have HCC := Lib.hid (show w6.cell? ⟨p, 49 + f, none⟩ = some (.int .i64 (a1.cred q f)) from by rw [← HV.out.at_]; exact HM6.out.at_.cred HK.out)
          by_cases hc : a1.cred q f < x.len
          · have CB := Lib.hid (decide_eq_true hc)
            have HPASS := Lib.hid (HO.out.pass HQ.out HT1.out HS1.out hc)
            have HRN := Lib.hid (show takeR q g' (a1.pass f r (a1.cred q f)) = R from by rw [← HRR.out, takeR_pass HT1.out HS1.out hc])
            clear hc
            refine wp_region_gg (n := 9) [Fg.eq (.pointer (some ⟨xb, 0, none⟩)), Fg.eq (.pointer (some ⟨xb, 1, none⟩)), Fg.eq (.int .i64 x.len), Fg.eq (.pointer (some ⟨p, 0, none⟩)), Fg.eq (.int .i64 (f : Int)), Fg.eq (.pointer (some ⟨p, 0, none⟩)), Fg.eq (.pointer (some ⟨p, 49, none⟩)), Fg.eq (.pointer (some ⟨p, 49 + f, none⟩)), Fg.eq (.int .i64 (a1.cred q f))] [55, 56, 57, 58, 59, 60, 61, 62, 63] (by kernel_rfl) (by kernel_rfl) (by kernel_rfl) ?_ ?_
            · intro L i o' ac w1 hi ho hA
              have hgr : Gr w6 w1 := (Gr.refl w6).drew.trans hA.gr
              match i, hi with
              | 0, _ =>
                obtain rfl := Option.some.inj ho
                exact gg_plain rfl (gstep_val (rnt_fa_queue_Held_0 rfl (show ac.eval (.tmp 8) = .pointer (some ⟨xb, 0, none⟩) from hA.other 8 (by decide))) rfl)
              | 1, _ =>
                obtain rfl := Option.some.inj ho
                exact gg_plain rfl (gstep_val (rnt_fa_api_Item_1 rfl (hA.fact 0 (hA.dep 0 (by kernel_rfl) (by decide)))) rfl)
              | 2, _ =>
                obtain rfl := Option.some.inj ho
                exact gg_plain rfl (gstep_val (q_loadI rfl (hA.fact 1 (hA.dep 1 (by kernel_rfl) (by decide))) (hgr.cell HXC.out)) rfl)
              | 3, _ =>
                obtain rfl := Option.some.inj ho
                exact gg_plain rfl (gstep_val (q_move rfl (show ac.eval (.tmp 0) = .pointer (some ⟨p, 0, none⟩) from hA.other 0 (by decide))) rfl)
              | 4, _ =>
                obtain rfl := Option.some.inj ho
                exact gg_plain rfl (gstep_val (q_move rfl (show ac.eval (.tmp 7) = .int .i64 (f : Int) from hA.other 7 (by decide))) rfl)
              | 5, _ =>
                obtain rfl := Option.some.inj ho
                exact gg_plain rfl (gstep_val (q_nil rfl (hA.fact 3 (hA.dep 3 (by kernel_rfl) (by decide)))) rfl)
              | 6, _ =>
                obtain rfl := Option.some.inj ho
                exact gg_plain rfl (gstep_val (rnt_fa_fair_Rounds_3 rfl (hA.fact 5 (hA.dep 5 (by kernel_rfl) (by decide)))) rfl)
              | 7, _ =>
                obtain rfl := Option.some.inj ho
                exact gg_plain rfl (gstep_val (rnt_idx__16_int rfl (hA.fact 6 (hA.dep 6 (by kernel_rfl) (by decide))) (hA.fact 4 (hA.dep 4 (by kernel_rfl) (by decide))) (HK.out)) rfl)
              | 8, _ =>
                obtain rfl := Option.some.inj ho
                exact gg_plain rfl (gstep_val (q_loadI rfl (hA.fact 7 (hA.dep 7 (by kernel_rfl) (by decide))) (hgr.cell HCC.out)) rfl)
              | k + 9, hk => exact absurd (show k + 9 < 9 from hk) (by omega)
            · intro vz wc hg5 hv
              have HGY := Lib.hid ((Gr.refl w6).drew.trans hg5)
              have v57 : vz 2 = .int .i64 x.len := hv 2 (by omega)
              have v63 : vz 8 = .int .i64 (a1.cred q f) := hv 8 (by omega)
              clear hv hg5
              simp only [putN, List.drop_succ_cons, List.drop_zero, List.getElem?_cons_succ, List.getElem?_cons_zero]
              generalize vz 2 = z57 at *
              subst v57
              generalize vz 8 = z63 at *
              subst v63
              generalize vz 0 = z55 at *
              generalize vz 1 = z56 at *
              generalize vz 3 = z58 at *
              generalize vz 4 = z59 at *
              generalize vz 5 = z60 at *
              generalize vz 6 = z61 at *
              generalize vz 7 = z62 at *
              have hroom := of_decide_eq_true CB.out
              have HM7 := Lib.hid (HM6.out.gr HGY.out)
              have HZ7 := Lib.hid (HZ6.out.gr HGY.out)
              have HTW := Lib.hid (show IntRow wc (.slice (some ⟨tg, toff, none⟩) ((intL r).length + 1) cap) ((f : Int) :: intL r) from by rw [← HTV.out, ← HV.out.tv, ← HTU.out, ← HV.out.turn]; exact HM7.out.at_.turn)
              have c65 : wc.cell? ⟨p, 65, none⟩ = some (.slice (some ⟨tg, toff, none⟩) ((intL r).length + 1) cap) := by rw [← HTV.out, ← HV.out.tv]; exact HM7.out.at_.c65
              have f65 := HM7.out.at_.free 65
              have HPT : Hid (p ≠ tg) := Lib.hid (fun e => (HM7.out.at_.tap p (by rw [HV.out.tv, HTV.out, e]; rfl)).1 rfl)
              have HS7 := Lib.hid (show (∀ u, Sav (fun g => g = tg) wc u → u.cell? ⟨p, 65, none⟩ = some (.slice (some ⟨tg, toff, none⟩) ((intL r).length + 1) cap) ∧ u.frozen? ⟨p, 65, none⟩ = false) from fun u hs => ⟨hs.cell (by rw [← HTV.out, ← HV.out.tv]; exact HM7.out.at_.c65) HPT.out, hs.frozen (p := ⟨p, 65, none⟩) HM7.out.at_.lt (HM7.out.at_.free 65) HPT.out⟩)
              have HST := Lib.hid (show s4.tv.ownBlock = some tg from by rw [HV.out.tv, HTV.out]; rfl)
              obtain ⟨e1, i2, i3⟩ := HE.out
              have hp0 : p < wc.heap.size := HM7.out.at_.lt
              go_upto_region 9 with (at_builtin; refine wpList_append_intR rfl _ _ _ (by rfl) (by kernel_rfl) _ (intL r) (f : Int) (by rfl) (by obtain ⟨t, ht, hrow⟩ := IntRow.rest HTW.out; rw [ht]; exact hrow.gr ((Gr.refl wc).alloc (.cells #[.int .i64 (f : Int)] 3))) ⟨wc.heap.size, 0, none⟩ 1 (by rfl) (by simp) (by have := HRL.out; omega) ?_; intro v8 w8 hrow hgr hown; obtain ⟨t8, ht8, _⟩ := IntRow.rest HTW.out; rw [ht8] at hgr hown; have hsv : Sav (fun g => g = tg) wc w8 := (Sav.of_gr ((Gr.refl wc).alloc (.cells #[.int .i64 (f : Int)] 3))).then (.of_grown hgr fun g e => (Option.some.inj e).symm); have hsv2 : Sav (fun g => s4.tv.ownBlock = some g) wc w8 := hsv.mono (fun g e => by rw [e]; exact HST.out); have ho8 : ∀ g, v8.ownBlock = some g → s4.tv.ownBlock = some g ∨ wc.heap.size ≤ g := (fun g e => (hown g e).imp (fun e => by rw [HST.out]; exact e) (fun e => by simp at e; omega)); have HM8 := Lib.hid (HM7.out.setT hsv2 hrow ho8); have HZ8 := Lib.hid ((HZ7.out.sav hsv2 (fun e => HM7.out.nin (r := rb) (by simp) (.inr (.inl e)))).sav (.set p 65 v8) (fun e => HM7.out.nin (r := rb) (by simp) (.inl e))); obtain ⟨d65, g65⟩ := HS7.out _ hsv; clear hgr hown ho8 hsv hsv2 c65 f65 ht8; obtain ⟨a8, c8, rfl⟩ := hrow.shape; clear hrow; rw [show (intL r ++ [(f : Int)]).length = (intL r).length + 1 from by simp] at HM8 HZ8)
              obtain ⟨t8, ht8, _⟩ := IntRow.rest HTW.out
              rw [ht8]
              generalize w8.setCell ⟨p, 65, none⟩ (.slice a8 ((intL r).length + 1) c8) = w9 at *
              clear d65 g65 hp0 ht8 HM6 HZ6 HM7 HZ7 HTW HS7 hroom e1 i2 i3 HX6 HXC HCC HGY
              have c66 := HM8.out.at_.c66
              have f66 := HM8.out.at_.free 66
              have HSH := Lib.hid (show Shows ((s4.setT (.slice a8 ((intL r).length + 1) c8) (intL r ++ [(f : Int)])).setB false) (a1.pass f r (a1.cred q f)) from HS.out.pass HV.out rfl rfl rfl rfl rfl rfl)
              go_wp2
              go_roundg g'
              case measure => omega
              case rel => exact ⟨a1.pass f r (a1.cred q f), _, HRN, Lib.hid HPASS.out.1, Lib.hid (by have h1 := HPASS.out.2; have h2 := HF.out; omega), HSH, Lib.hid ((HM8.out.setB false).less (fun g e => by simp at e; simp [e])), Lib.hid (HZ8.out.sav (.set p 66 (.bool false)) (fun e => HM8.out.nin (r := rb) (by simp) (.inl e)))⟩
          · have CB := Lib.hid (decide_eq_false hc)
            have HGONE := Lib.hid (HO.out.gone HQ.out HT1.out HS1.out hc)
            have HTT := Lib.hid (show R = (a1.gone f r x sx (a1.cred q f), x, [], true) from by rw [← HRR.out, takeR_gone HT1.out HS1.out hc])
            have HNC := Lib.hid hc
            clear hc
            refine wp_region_gg (n := 9) [Fg.eq (.pointer (some ⟨xb, 0, none⟩)), Fg.eq (.pointer (some ⟨xb, 1, none⟩)), Fg.eq (.int .i64 x.len), Fg.eq (.pointer (some ⟨p, 0, none⟩)), Fg.eq (.int .i64 (f : Int)), Fg.eq (.pointer (some ⟨p, 0, none⟩)), Fg.eq (.pointer (some ⟨p, 49, none⟩)), Fg.eq (.pointer (some ⟨p, 49 + f, none⟩)), Fg.eq (.int .i64 (a1.cred q f))] [55, 56, 57, 58, 59, 60, 61, 62, 63] (by kernel_rfl) (by kernel_rfl) (by kernel_rfl) ?_ ?_
            · intro L i o' ac w1 hi ho hA
              have hgr : Gr w6 w1 := (Gr.refl w6).drew.trans hA.gr
              match i, hi with
              | 0, _ =>
                obtain rfl := Option.some.inj ho
                exact gg_plain rfl (gstep_val (rnt_fa_queue_Held_0 rfl (show ac.eval (.tmp 8) = .pointer (some ⟨xb, 0, none⟩) from hA.other 8 (by decide))) rfl)
              | 1, _ =>
                obtain rfl := Option.some.inj ho
                exact gg_plain rfl (gstep_val (rnt_fa_api_Item_1 rfl (hA.fact 0 (hA.dep 0 (by kernel_rfl) (by decide)))) rfl)
              | 2, _ =>
                obtain rfl := Option.some.inj ho
                exact gg_plain rfl (gstep_val (q_loadI rfl (hA.fact 1 (hA.dep 1 (by kernel_rfl) (by decide))) (hgr.cell HXC.out)) rfl)
              | 3, _ =>
                obtain rfl := Option.some.inj ho
                exact gg_plain rfl (gstep_val (q_move rfl (show ac.eval (.tmp 0) = .pointer (some ⟨p, 0, none⟩) from hA.other 0 (by decide))) rfl)
              | 4, _ =>
                obtain rfl := Option.some.inj ho
                exact gg_plain rfl (gstep_val (q_move rfl (show ac.eval (.tmp 7) = .int .i64 (f : Int) from hA.other 7 (by decide))) rfl)
              | 5, _ =>
                obtain rfl := Option.some.inj ho
                exact gg_plain rfl (gstep_val (q_nil rfl (hA.fact 3 (hA.dep 3 (by kernel_rfl) (by decide)))) rfl)
              | 6, _ =>
                obtain rfl := Option.some.inj ho
                exact gg_plain rfl (gstep_val (rnt_fa_fair_Rounds_3 rfl (hA.fact 5 (hA.dep 5 (by kernel_rfl) (by decide)))) rfl)
              | 7, _ =>
                obtain rfl := Option.some.inj ho
                exact gg_plain rfl (gstep_val (rnt_idx__16_int rfl (hA.fact 6 (hA.dep 6 (by kernel_rfl) (by decide))) (hA.fact 4 (hA.dep 4 (by kernel_rfl) (by decide))) (HK.out)) rfl)
              | 8, _ =>
                obtain rfl := Option.some.inj ho
                exact gg_plain rfl (gstep_val (q_loadI rfl (hA.fact 7 (hA.dep 7 (by kernel_rfl) (by decide))) (hgr.cell HCC.out)) rfl)
              | k + 9, hk => exact absurd (show k + 9 < 9 from hk) (by omega)
            · intro vz wc hg5 hv
              have HGY := Lib.hid ((Gr.refl w6).drew.trans hg5)
              have v57 : vz 2 = .int .i64 x.len := hv 2 (by omega)
              have v63 : vz 8 = .int .i64 (a1.cred q f) := hv 8 (by omega)
              clear hv hg5
              simp only [putN, List.drop_succ_cons, List.drop_zero, List.getElem?_cons_succ, List.getElem?_cons_zero]
              generalize vz 2 = z57 at *
              subst v57
              generalize vz 8 = z63 at *
              subst v63
              generalize vz 0 = z55 at *
              generalize vz 1 = z56 at *
              generalize vz 3 = z58 at *
              generalize vz 4 = z59 at *
              generalize vz 5 = z60 at *
              generalize vz 6 = z61 at *
              generalize vz 7 = z62 at *
              have hroom := of_decide_eq_false CB.out
              have HM7 := Lib.hid (HM6.out.gr HGY.out)
              have HZ7 := Lib.hid (HZ6.out.gr HGY.out)
              have HX7 := Lib.hid (HX6.out.gr HGY.out)
              have HL7 := Lib.hid (show LstAt wc p (f * 2) (s4.vs f) (x :: sx) from by rw [← HLL.out, ← HV.out.ls]; exact HM7.out.at_.lst f HK.out)
              have HSB := Lib.hid (lens_tot (show Lens sx from fun z hz => HO.out.l.lens z (ofF_mem.1 (show z ∈ ofF a1.l f by rw [HS1.out]; exact List.mem_cons_of_mem _ hz)).1))
              have HSN := Lib.hid (show sx.length ≤ 300 from by have h1 := ofF_len a1.l f; have h2 := HO.out.l.few; have h3 := HO.out.l.n; rw [HS1.out] at h1; simp at h1; omega)
              go_upto_region 11 with (go_at_call 81; refine (lnext_cons p (f * 2) (s4.vs f) x sx _ HL7.out (by have h1 := HSB.out; have h2 := HSN.out; omega)).mono ?_; unfold Hel.val; rintro e w8 ⟨rfl, v8, hl8, hs8, ho8⟩; have HM8 := Lib.hid (HM7.out.setL HK.out hl8 hs8 (fun g e => .inl (by rw [← ho8]; exact e))); have HZ8 := Lib.hid (HZ7.out.sav hs8.sav (HM7.out.lnin (r := rb) (by simp) HK.out)); have HX8 := Lib.hid (HX7.out.sav hs8.sav (HM7.out.lnin (r := xb) (by simp) HK.out)); clear hl8 hs8 ho8)
              clear hroom HM6 HX6 HZ6 HM7 HX7 HZ7 HL7 HGY HXC HCC
              have HXC := Lib.hid (show w8.cell? ⟨xb, 1, none⟩ = some (.int .i64 x.len) from by have := HX8.out.c1; rw [Nat.zero_add] at this; exact this)
              have HCC := Lib.hid (show w8.cell? ⟨p, 49 + f, none⟩ = some (.int .i64 (a1.cred q f)) from by rw [← HV.out.at_]; exact HM8.out.at_.cred HK.out)
              have DS := Lib.hid (show IntKind.i64.wrap (a1.cred q f - x.len) = a1.cred q f - x.len from by have h1 := HCB.out; have h2 := HXL.out; rw [IntKind.wrap_i64]; omega)
              have HMB := Lib.hid (show s1.bytes = sumLen a1.l ∧ s1.many = (a1.l.length : Int) from ⟨HS.out.bytes, HS.out.many⟩)
              have HLT := Lib.hid (lens_tot HO.out.l.lens)
              have HLN := Lib.hid (show a1.l.length ≤ 200 from by have h2 := HO.out.l.few; have h3 := HO.out.l.n; omega)
              have DZ := Lib.hid (show IntKind.i64.wrap (s1.bytes - x.len) = s1.bytes - x.len from by have h1 := HMB.out.1; have h2 := HXL.out; have h3 := HLT.out; have h4 := HLN.out; rw [IntKind.wrap_i64]; omega)
              have HWM := Lib.hid (show wrap64 (s1.many - 1) = s1.many - 1 from by have h1 := HMB.out.2; have h4 := HLN.out; unfold wrap64; omega)
              have HV8 := Lib.hid (show (s4.setL f v8 sx).ls = fu s4.ls f sx ∧ (s4.setL f v8 sx).tv = s1.tv ∧ (s4.setL f v8 sx).turn = s1.turn ∧ (s4.setL f v8 sx).begun = true ∧ (s4.setL f v8 sx).cr = s4.cr ∧ (s4.setL f v8 sx).bytes = s1.bytes ∧ (s4.setL f v8 sx).many = s1.many from ⟨rfl, HV.out.tv, HV.out.turn, HV.out.begun, rfl, HV.out.bytes, HV.out.many⟩)
              generalize s4.setL f v8 sx = s8 at *
              refine wp_region_gg (n := 13) [Fg.eq (.pointer (some ⟨p, 0, none⟩)), Fg.eq (.int .i64 (f : Int)), Fg.eq (.pointer (some ⟨p, 0, none⟩)), Fg.eq (.pointer (some ⟨p, 49, none⟩)), Fg.eq (.pointer (some ⟨p, 49 + f, none⟩)), Fg.eq (.int .i64 (a1.cred q f)), Fg.eq (.pointer (some ⟨xb, 0, none⟩)), Fg.eq (.pointer (some ⟨xb, 1, none⟩)), Fg.eq (.int .i64 x.len), Fg.eq (.int .i64 (a1.cred q f - x.len)), Fg.eq (.pointer (some ⟨p, 0, none⟩)), Fg.eq (.pointer (some ⟨p, 49, none⟩)), Fg.eq (.pointer (some ⟨p, 49 + f, none⟩))] [85, 86, 87, 88, 89, 90, 91, 92, 93, 94, 95, 96, 97] (by kernel_rfl) (by kernel_rfl) (by kernel_rfl) ?_ ?_
              · intro L i o' ac w1 hi ho hA
                have hgr : Gr w8 w1 := (Gr.refl w8).drew.trans hA.gr
                match i, hi with
                | 0, _ =>
                  obtain rfl := Option.some.inj ho
                  exact gg_plain rfl (gstep_val (q_move rfl (show ac.eval (.tmp 0) = .pointer (some ⟨p, 0, none⟩) from hA.other 0 (by decide))) rfl)
                | 1, _ =>
                  obtain rfl := Option.some.inj ho
                  exact gg_plain rfl (gstep_val (q_move rfl (show ac.eval (.tmp 7) = .int .i64 (f : Int) from hA.other 7 (by decide))) rfl)
                | 2, _ =>
                  obtain rfl := Option.some.inj ho
                  exact gg_plain rfl (gstep_val (q_nil rfl (hA.fact 0 (hA.dep 0 (by kernel_rfl) (by decide)))) rfl)
                | 3, _ =>
                  obtain rfl := Option.some.inj ho
                  exact gg_plain rfl (gstep_val (rnt_fa_fair_Rounds_3 rfl (hA.fact 2 (hA.dep 2 (by kernel_rfl) (by decide)))) rfl)
                | 4, _ =>
                  obtain rfl := Option.some.inj ho
                  exact gg_plain rfl (gstep_val (rnt_idx__16_int rfl (hA.fact 3 (hA.dep 3 (by kernel_rfl) (by decide))) (hA.fact 1 (hA.dep 1 (by kernel_rfl) (by decide))) (HK.out)) rfl)
                | 5, _ =>
                  obtain rfl := Option.some.inj ho
                  exact gg_plain rfl (gstep_val (q_loadI rfl (hA.fact 4 (hA.dep 4 (by kernel_rfl) (by decide))) (hgr.cell HCC.out)) rfl)
                | 6, _ =>
                  obtain rfl := Option.some.inj ho
                  exact gg_plain rfl (gstep_val (rnt_fa_queue_Held_0 rfl (show ac.eval (.tmp 8) = .pointer (some ⟨xb, 0, none⟩) from hA.other 8 (by decide))) rfl)
                | 7, _ =>
                  obtain rfl := Option.some.inj ho
                  exact gg_plain rfl (gstep_val (rnt_fa_api_Item_1 rfl (hA.fact 6 (hA.dep 6 (by kernel_rfl) (by decide)))) rfl)
                | 8, _ =>
                  obtain rfl := Option.some.inj ho
                  exact gg_plain rfl (gstep_val (q_loadI rfl (hA.fact 7 (hA.dep 7 (by kernel_rfl) (by decide))) (hgr.cell HXC.out)) rfl)
                | 9, _ =>
                  obtain rfl := Option.some.inj ho
                  exact gg_plain rfl (gstep_val (rnt_sub rfl (hA.fact 5 (hA.dep 5 (by kernel_rfl) (by decide))) (hA.fact 8 (hA.dep 8 (by kernel_rfl) (by decide))) (DS.out)) rfl)
                | 10, _ =>
                  obtain rfl := Option.some.inj ho
                  exact gg_plain rfl (gstep_val (q_nil rfl (hA.fact 0 (hA.dep 0 (by kernel_rfl) (by decide)))) rfl)
                | 11, _ =>
                  obtain rfl := Option.some.inj ho
                  exact gg_plain rfl (gstep_val (rnt_fa_fair_Rounds_3 rfl (hA.fact 10 (hA.dep 10 (by kernel_rfl) (by decide)))) rfl)
                | 12, _ =>
                  obtain rfl := Option.some.inj ho
                  exact gg_plain rfl (gstep_val (rnt_idx__16_int rfl (hA.fact 11 (hA.dep 11 (by kernel_rfl) (by decide))) (hA.fact 1 (hA.dep 1 (by kernel_rfl) (by decide))) (HK.out)) rfl)
                | k + 13, hk => exact absurd (show k + 13 < 13 from hk) (by omega)
              · intro vz we hg5 hv
                have HGU := Lib.hid ((Gr.refl w8).drew.trans hg5)
                have v94 : vz 9 = .int .i64 (a1.cred q f - x.len) := hv 9 (by omega)
                have v97 : vz 12 = .pointer (some ⟨p, 49 + f, none⟩) := hv 12 (by omega)
                clear hv hg5
                simp only [putN, List.drop_succ_cons, List.drop_zero, List.getElem?_cons_succ, List.getElem?_cons_zero]
                generalize vz 9 = z94 at *
                subst v94
                generalize vz 12 = z97 at *
                subst v97
                generalize vz 0 = z85 at *
                generalize vz 1 = z86 at *
                generalize vz 2 = z87 at *
                generalize vz 3 = z88 at *
                generalize vz 4 = z89 at *
                generalize vz 5 = z90 at *
                generalize vz 6 = z91 at *
                generalize vz 7 = z92 at *
                generalize vz 8 = z93 at *
                generalize vz 10 = z95 at *
                generalize vz 11 = z96 at *
                have HM9 := Lib.hid (HM8.out.gr HGU.out)
                have HZ9 := Lib.hid (HZ8.out.gr HGU.out)
                have HX9 := Lib.hid (HX8.out.gr HGU.out)
                have c49 := HM9.out.at_.cred HK.out
                have f49 := HM9.out.at_.free (49 + f)
                go_upto_region 12 with fail
                have HM10 := Lib.hid (HM9.out.setC HK.out (a1.cred q f - x.len))
                have HZ10 := Lib.hid (HZ9.out.sav (.set p (49 + f) (.int .i64 (a1.cred q f - x.len))) (fun e => HM9.out.nin (r := rb) (by simp) (.inl e)))
                have HX10 := Lib.hid (HX9.out.sav (.set p (49 + f) (.int .i64 (a1.cred q f - x.len))) (fun e => HM9.out.nin (r := xb) (by simp) (.inl e)))
                generalize we.setCell ⟨p, 49 + f, none⟩ (.int .i64 (a1.cred q f - x.len)) = w10 at *
                clear c49 f49 HM8 HZ8 HX8 HM9 HZ9 HX9 HGU HXC HCC
                have HXC := Lib.hid (show w10.cell? ⟨xb, 1, none⟩ = some (.int .i64 x.len) from by have := HX10.out.c1; rw [Nat.zero_add] at this; exact this)
                have HCY := Lib.hid (show w10.cell? ⟨p, 67, none⟩ = some (.int .i64 s1.bytes) from by rw [← HV8.out.2.2.2.2.2.1]; exact HM10.out.at_.c67)
                refine wp_region_gg (n := 10) [Fg.eq (.pointer (some ⟨p, 0, none⟩)), Fg.eq (.pointer (some ⟨p, 0, none⟩)), Fg.eq (.pointer (some ⟨p, 67, none⟩)), Fg.eq (.int .i64 s1.bytes), Fg.eq (.pointer (some ⟨xb, 0, none⟩)), Fg.eq (.pointer (some ⟨xb, 1, none⟩)), Fg.eq (.int .i64 x.len), Fg.eq (.int .i64 (s1.bytes - x.len)), Fg.eq (.pointer (some ⟨p, 0, none⟩)), Fg.eq (.pointer (some ⟨p, 67, none⟩))] [98, 99, 100, 101, 102, 103, 104, 105, 106, 107] (by kernel_rfl) (by kernel_rfl) (by kernel_rfl) ?_ ?_
                · intro L i o' ac w1 hi ho hA
                  have hgr : Gr w10 w1 := (Gr.refl w10).drew.trans hA.gr
                  match i, hi with
                  | 0, _ =>
                    obtain rfl := Option.some.inj ho
                    exact gg_plain rfl (gstep_val (q_move rfl (show ac.eval (.tmp 0) = .pointer (some ⟨p, 0, none⟩) from hA.other 0 (by decide))) rfl)
                  | 1, _ =>
                    obtain rfl := Option.some.inj ho
                    exact gg_plain rfl (gstep_val (q_nil rfl (hA.fact 0 (hA.dep 0 (by kernel_rfl) (by decide)))) rfl)
                  | 2, _ =>
                    obtain rfl := Option.some.inj ho
                    exact gg_plain rfl (gstep_val (rnt_fa_fair_Rounds_6 rfl (hA.fact 1 (hA.dep 1 (by kernel_rfl) (by decide)))) rfl)
                  | 3, _ =>
                    obtain rfl := Option.some.inj ho
                    exact gg_plain rfl (gstep_val (q_loadI rfl (hA.fact 2 (hA.dep 2 (by kernel_rfl) (by decide))) (hgr.cell HCY.out)) rfl)
                  | 4, _ =>
                    obtain rfl := Option.some.inj ho
                    exact gg_plain rfl (gstep_val (rnt_fa_queue_Held_0 rfl (show ac.eval (.tmp 8) = .pointer (some ⟨xb, 0, none⟩) from hA.other 8 (by decide))) rfl)
                  | 5, _ =>
                    obtain rfl := Option.some.inj ho
                    exact gg_plain rfl (gstep_val (rnt_fa_api_Item_1 rfl (hA.fact 4 (hA.dep 4 (by kernel_rfl) (by decide)))) rfl)
                  | 6, _ =>
                    obtain rfl := Option.some.inj ho
                    exact gg_plain rfl (gstep_val (q_loadI rfl (hA.fact 5 (hA.dep 5 (by kernel_rfl) (by decide))) (hgr.cell HXC.out)) rfl)
                  | 7, _ =>
                    obtain rfl := Option.some.inj ho
                    exact gg_plain rfl (gstep_val (rnt_sub rfl (hA.fact 3 (hA.dep 3 (by kernel_rfl) (by decide))) (hA.fact 6 (hA.dep 6 (by kernel_rfl) (by decide))) (DZ.out)) rfl)
                  | 8, _ =>
                    obtain rfl := Option.some.inj ho
                    exact gg_plain rfl (gstep_val (q_nil rfl (hA.fact 0 (hA.dep 0 (by kernel_rfl) (by decide)))) rfl)
                  | 9, _ =>
                    obtain rfl := Option.some.inj ho
                    exact gg_plain rfl (gstep_val (rnt_fa_fair_Rounds_6 rfl (hA.fact 8 (hA.dep 8 (by kernel_rfl) (by decide)))) rfl)
                  | k + 10, hk => exact absurd (show k + 10 < 10 from hk) (by omega)
                · intro vz wf hg5 hv
                  have HGT := Lib.hid ((Gr.refl w10).drew.trans hg5)
                  have v105 : vz 7 = .int .i64 (s1.bytes - x.len) := hv 7 (by omega)
                  have v107 : vz 9 = .pointer (some ⟨p, 67, none⟩) := hv 9 (by omega)
                  clear hv hg5
                  simp only [putN, List.drop_succ_cons, List.drop_zero, List.getElem?_cons_succ, List.getElem?_cons_zero]
                  generalize vz 7 = z105 at *
                  subst v105
                  generalize vz 9 = z107 at *
                  subst v107
                  generalize vz 0 = z98 at *
                  generalize vz 1 = z99 at *
                  generalize vz 2 = z100 at *
                  generalize vz 3 = z101 at *
                  generalize vz 4 = z102 at *
                  generalize vz 5 = z103 at *
                  generalize vz 6 = z104 at *
                  generalize vz 8 = z106 at *
                  have HM11 := Lib.hid (HM10.out.gr HGT.out)
                  have HZ11 := Lib.hid (HZ10.out.gr HGT.out)
                  have HX11 := Lib.hid (HX10.out.gr HGT.out)
                  have c67 := HM11.out.at_.c67
                  have f67 := HM11.out.at_.free 67
                  go_upto_region 13 with fail
                  have HM12 := Lib.hid (HM11.out.setY (s1.bytes - x.len))
                  have HZ12 := Lib.hid (HZ11.out.sav (.set p 67 (.int .i64 (s1.bytes - x.len))) (fun e => HM11.out.nin (r := rb) (by simp) (.inl e)))
                  have HX12 := Lib.hid (HX11.out.sav (.set p 67 (.int .i64 (s1.bytes - x.len))) (fun e => HM11.out.nin (r := xb) (by simp) (.inl e)))
                  generalize wf.setCell ⟨p, 67, none⟩ (.int .i64 (s1.bytes - x.len)) = w12 at *
                  clear c67 f67 HM10 HZ10 HX10 HM11 HZ11 HX11 HGT HXC HCY
                  have c68 : w12.cell? ⟨p, 68, none⟩ = some (.int .i64 s1.many) := by rw [← HV8.out.2.2.2.2.2.2]; exact HM12.out.at_.c68
                  have f68 := HM12.out.at_.free 68
                  go_upto_region 14 with fail
                  rw [HWM.out]
                  have HM13 := Lib.hid (HM12.out.setM (s1.many - 1))
                  have HZ13 := Lib.hid (HZ12.out.sav (.set p 68 (.int .i64 (s1.many - 1))) (fun e => HM12.out.nin (r := rb) (by simp) (.inl e)))
                  have HX13 := Lib.hid (HX12.out.sav (.set p 68 (.int .i64 (s1.many - 1))) (fun e => HM12.out.nin (r := xb) (by simp) (.inl e)))
                  generalize w12.setCell ⟨p, 68, none⟩ (.int .i64 (s1.many - 1)) = w13 at *
                  clear c68 f68 HM12 HZ12 HX12
                  have HV13 := Lib.hid (show (((s8.setC f (a1.cred q f - x.len)).setY (s1.bytes - x.len)).setM (s1.many - 1)).ls = fu s4.ls f sx ∧ (((s8.setC f (a1.cred q f - x.len)).setY (s1.bytes - x.len)).setM (s1.many - 1)).tv = s1.tv ∧ (((s8.setC f (a1.cred q f - x.len)).setY (s1.bytes - x.len)).setM (s1.many - 1)).turn = s1.turn ∧ (((s8.setC f (a1.cred q f - x.len)).setY (s1.bytes - x.len)).setM (s1.many - 1)).begun = true ∧ (((s8.setC f (a1.cred q f - x.len)).setY (s1.bytes - x.len)).setM (s1.many - 1)).cr = fu s4.cr f (a1.cred q f - x.len) ∧ (((s8.setC f (a1.cred q f - x.len)).setY (s1.bytes - x.len)).setM (s1.many - 1)).bytes = s4.bytes - x.len ∧ (((s8.setC f (a1.cred q f - x.len)).setY (s1.bytes - x.len)).setM (s1.many - 1)).many = s4.many - 1 from ⟨HV8.out.1, HV8.out.2.1, HV8.out.2.2.1, HV8.out.2.2.2.1, by rw [← HV8.out.2.2.2.2.1]; rfl, by rw [HV.out.bytes]; rfl, by rw [HV.out.many]; rfl⟩)
                  generalize ((s8.setC f (a1.cred q f - x.len)).setY (s1.bytes - x.len)).setM (s1.many - 1) = s13 at *
                  have HL13 := Lib.hid (show LstAt w13 p (f * 2) (s13.vs f) sx from by have h1 := HM13.out.at_.lst f HK.out; rw [HV13.out.1, fu_at] at h1; exact h1)
                  by_cases hs0 : sx = []
                  · have HSH0 := Lib.hid hs0
                    rw [hs0] at HL13
                    clear hs0
                    have HTW := Lib.hid (show IntRow w13 (.slice (some ⟨tg, toff, none⟩) ((intL r).length + 1) cap) ((f : Int) :: intL r) from by rw [← HTV.out, ← HV13.out.2.1, ← HTU.out, ← HV13.out.2.2.1]; exact HM13.out.at_.turn)
                    have c65 : w13.cell? ⟨p, 65, none⟩ = some (.slice (some ⟨tg, toff, none⟩) ((intL r).length + 1) cap) := by rw [← HTV.out, ← HV13.out.2.1]; exact HM13.out.at_.c65
                    have f65 := HM13.out.at_.free 65
                    obtain ⟨e1, i2, i3⟩ := HE.out
                    go_upto_region 16 with (go_at_call 75; refine (llen_any p (f * 2) (s13.vs f) [] _ HL13.out).mono ?_; rintro e w14 ⟨rfl, rfl⟩)
                    obtain ⟨t8, ht8, hrow⟩ := IntRow.rest HTW.out
                    rw [ht8]
                    have HM14 := Lib.hid (HM13.out.setT (.refl _ w13) hrow (fun g e => .inl (by rw [HV13.out.2.1, HTV.out]; exact e)))
                    have HZ14 := Lib.hid (HZ13.out.sav (.set p 65 (.slice (some ⟨tg, t8, none⟩) (intL r).length (cap - 1))) (fun e => HM13.out.nin (r := rb) (by simp) (.inl e)))
                    have HX14 := Lib.hid (HX13.out.sav (.set p 65 (.slice (some ⟨tg, t8, none⟩) (intL r).length (cap - 1))) (fun e => HM13.out.nin (r := xb) (by simp) (.inl e)))
                    generalize w13.setCell ⟨p, 65, none⟩ (.slice (some ⟨tg, t8, none⟩) (intL r).length (cap - 1)) = w14 at *
                    clear ht8 hrow HTW c65 f65 HM13 HZ13 HX13 HL13 e1 i2 i3
                    have c66 := HM14.out.at_.c66
                    have f66 := HM14.out.at_.free 66
                    go_upto_region 17 with fail
                    have HM15 := Lib.hid (HM14.out.setB false)
                    have HZ15 := Lib.hid (HZ14.out.sav (.set p 66 (.bool false)) (fun e => HM14.out.nin (r := rb) (by simp) (.inl e)))
                    have HX15 := Lib.hid (HX14.out.sav (.set p 66 (.bool false)) (fun e => HM14.out.nin (r := xb) (by simp) (.inl e)))
                    generalize w14.setCell ⟨p, 66, none⟩ (.bool false) = w15 at *
                    clear c66 f66 HM14 HZ14 HX14
                    have HSH := Lib.hid (show Shows ((s13.setT (.slice (some ⟨tg, t8, none⟩) (intL r).length (cap - 1)) (intL r)).setB false) (a1.gone f r x sx (a1.cred q f)) from HS.out.gone HO.out HS1.out HV.out HV13.out.1 (by rw [if_pos HSH0.out]; rfl) (by rw [if_pos HSH0.out]; rfl) HV13.out.2.2.2.2.1 HV13.out.2.2.2.2.2.1 HV13.out.2.2.2.2.2.2)
                    obtain ⟨⟨r0, r1, r2, r3, r4, r5⟩, e0, e1, e2, e3, e4, e5⟩ := HZ15.out
                    obtain ⟨x0, x1, x2, x3, x4, x5⟩ := HX15.out
                    simp only [Nat.zero_add] at x1 x2 x3 x4 x5
                    go_wp2
                    clear x0 x1 x2 x3 x4 x5
                    obtain ⟨w99, hw99⟩ : ∃ u, u = ((((((w15.setCell ⟨rb, 0, none⟩ (.int .i64 x.t)).setCell ⟨rb, 1, none⟩ (.int .i64 x.len)).setCell ⟨rb, 2, none⟩ (.int .i64 x.flow)).setCell ⟨rb, 3, none⟩ (.int .i64 x.band)).setCell ⟨rb, 4, none⟩ (.int .i64 x.mark)).setCell ⟨rb, 5, none⟩ (.int .i64 x.n)) := ⟨_, rfl⟩
                    have HR99 := Lib.hid (show HelRes w99 rb x ∧ Sav (fun g => g = rb) w15 w99 from by rw [hw99]; exact hel_set6 HZ15.out x)
                    rw [← hw99]
                    clear hw99 r0 r1 r2 r3 r4 r5 e0 e1 e2 e3 e4 e5
                    obtain ⟨⟨q0, q1, q2, q3, q4, q5⟩, _⟩ := HR99.out.1
                    refine bodyPost_ret (v := .tuple #[.agg #[.int .i64 x.t, .int .i64 x.len, .int .i64 x.flow, .int .i64 x.band, .int .i64 x.mark, .int .i64 x.n], .slice none 0 0, .bool true]) (by simp [results, Tryd.results109, go_sem, q0, q1, q2, q3, q4, q5]) rfl ?_
                    rw [HTT.out]
                    exact ⟨rfl, _, (HM15.out.off HR99.out.2 (fun g e => by simp [e])).did, HSH.out⟩
                  · have i9 : ¬ (sx.length : Int) = 0 := by have := List.length_pos_iff.2 hs0; omega
                    have HSH := Lib.hid (show Shows s13 (a1.gone f r x sx (a1.cred q f)) from HS.out.gone HO.out HS1.out HV.out HV13.out.1 (by rw [if_neg hs0, HV13.out.2.2.1, HTU.out]; rfl) (by rw [if_neg hs0]; exact HV13.out.2.2.2.1) HV13.out.2.2.2.2.1 HV13.out.2.2.2.2.2.1 HV13.out.2.2.2.2.2.2)
                    go_upto_region 17 with (go_at_call 75; refine (llen_any p (f * 2) (s13.vs f) sx _ HL13.out).mono ?_; rintro e w14 ⟨rfl, rfl⟩)
                    obtain ⟨⟨r0, r1, r2, r3, r4, r5⟩, e0, e1, e2, e3, e4, e5⟩ := HZ13.out
                    obtain ⟨x0, x1, x2, x3, x4, x5⟩ := HX13.out
                    simp only [Nat.zero_add] at x1 x2 x3 x4 x5
                    go_wp2
                    clear x0 x1 x2 x3 x4 x5
                    obtain ⟨w99, hw99⟩ : ∃ u, u = ((((((w13.setCell ⟨rb, 0, none⟩ (.int .i64 x.t)).setCell ⟨rb, 1, none⟩ (.int .i64 x.len)).setCell ⟨rb, 2, none⟩ (.int .i64 x.flow)).setCell ⟨rb, 3, none⟩ (.int .i64 x.band)).setCell ⟨rb, 4, none⟩ (.int .i64 x.mark)).setCell ⟨rb, 5, none⟩ (.int .i64 x.n)) := ⟨_, rfl⟩
                    have HR99 := Lib.hid (show HelRes w99 rb x ∧ Sav (fun g => g = rb) w13 w99 from by rw [hw99]; exact hel_set6 HZ13.out x)
                    rw [← hw99]
                    clear hw99 r0 r1 r2 r3 r4 r5 e0 e1 e2 e3 e4 e5
                    obtain ⟨⟨q0, q1, q2, q3, q4, q5⟩, _⟩ := HR99.out.1
                    refine bodyPost_ret (v := .tuple #[.agg #[.int .i64 x.t, .int .i64 x.len, .int .i64 x.flow, .int .i64 x.band, .int .i64 x.mark, .int .i64 x.n], .slice none 0 0, .bool true]) (by simp [results, Tryd.results109, go_sem, q0, q1, q2, q3, q4, q5]) rfl ?_
                    rw [HTT.out]
                    exact ⟨rfl, _, (HM13.out.off HR99.out.2 (fun g e => by simp [e])).did, HSH.out⟩
      | true =>
        rw [hb] at c66
        go_upto_region 6 with fail
        clear c65 ce c66 e1 i2 i3
        have HV1 := Lib.hid (show MidV s1 s1 f (a1.cred q f) from ⟨rfl, rfl, rfl, by rw [HS.out.begun, hb], rfl, rfl, by rw [HS.out.cr f HK.out]; unfold RndS.cred; rw [hb, if_pos rfl], fun j _ _ => rfl⟩)
        obtain ⟨w4, hw4⟩ : ∃ u, u = wr := ⟨_, rfl⟩
        obtain ⟨s4, hs4⟩ : ∃ u, u = s1 := ⟨_, rfl⟩
        have HM4 : Hid (RM w w4 p q sb [rb] s4) := Lib.hid (by rw [hw4, hs4]; exact HM.out)
        have HZ4 : Hid (HelRes w4 rb .zero) := Lib.hid (by rw [hw4]; exact HZ.out)
        have HV : Hid (MidV s1 s4 f (a1.cred q f)) := Lib.hid (by rw [hs4]; exact HV1.out)
        rw [← hw4]
        clear hw4 hs4 HV1 HM HZ hb
        have HL4 := Lib.hid (show LstAt w4 p (f * 2) (s4.vs f) (x :: sx) from by rw [← HLL.out, ← HV.out.ls]; exact HM4.out.at_.lst f HK.out)
        have i5 : (0 : Int) ≤ (f : Int) := by omega
        have i6 : (f : Int) < 16 := by have := HK.out; omega
        go_upto_region 7 with (go_at_call 82; refine (lfirst_cons p (f * 2) (s4.vs f) x sx _ HL4.out).mono ?_; unfold Hel.val; rintro e w5 ⟨rfl, hg5⟩; have HM5 := Lib.hid (HM4.out.gr hg5); have HZ5 := Lib.hid (HZ4.out.gr hg5); clear hg5)
        obtain ⟨w6, hw6⟩ : ∃ u, u = w5.alloc (.cells #[.int .i64 x.t, .int .i64 x.len, .int .i64 x.flow, .int .i64 x.band, .int .i64 x.mark, .int .i64 x.n] 139) := ⟨_, rfl⟩
        obtain ⟨xb, hxb⟩ : ∃ u, u = w5.heap.size := ⟨_, rfl⟩
        have HX6 : Hid (HelAt w6 xb 0 x) := Lib.hid (by rw [hw6]; exact held_new w5 x hxb)
        have HG6 : Hid (Gr w5 w6) := Lib.hid (by rw [hw6]; exact (Gr.refl _).alloc _)
        have HM6 := Lib.hid (HM5.out.res_add HG6.out (show w5.heap.size ≤ xb by omega) (cell_lt HX6.out.c0))
        have HZ6 := Lib.hid (HZ5.out.gr HG6.out)
        rw [← hw6, ← hxb]
        clear hw6 hxb HM4 HM5 HZ4 HZ5 HL4 HG6
        have HXC := Lib.hid (show w6.cell? ⟨xb, 1, none⟩ = some (.int .i64 x.len) from by have := HX6.out.c1; rw [Nat.zero_add] at this; exact this)
        have HCC := Lib.hid (show w6.cell? ⟨p, 49 + f, none⟩ = some (.int .i64 (a1.cred q f)) from by rw [← HV.out.at_]; exact HM6.out.at_.cred HK.out)
        by_cases hc : a1.cred q f < x.len
        · have CB := Lib.hid (decide_eq_true hc)
          have HPASS := Lib.hid (HO.out.pass HQ.out HT1.out HS1.out hc)
          have HRN := Lib.hid (show takeR q g' (a1.pass f r (a1.cred q f)) = R from by rw [← HRR.out, takeR_pass HT1.out HS1.out hc])
          clear hc
          refine wp_region_gg (n := 9) [Fg.eq (.pointer (some ⟨xb, 0, none⟩)), Fg.eq (.pointer (some ⟨xb, 1, none⟩)), Fg.eq (.int .i64 x.len), Fg.eq (.pointer (some ⟨p, 0, none⟩)), Fg.eq (.int .i64 (f : Int)), Fg.eq (.pointer (some ⟨p, 0, none⟩)), Fg.eq (.pointer (some ⟨p, 49, none⟩)), Fg.eq (.pointer (some ⟨p, 49 + f, none⟩)), Fg.eq (.int .i64 (a1.cred q f))] [55, 56, 57, 58, 59, 60, 61, 62, 63] (by kernel_rfl) (by kernel_rfl) (by kernel_rfl) ?_ ?_
          · intro L i o' ac w1 hi ho hA
            have hgr : Gr w6 w1 := (Gr.refl w6).drew.trans hA.gr
            match i, hi with
            | 0, _ =>
              obtain rfl := Option.some.inj ho
              exact gg_plain rfl (gstep_val (rnt_fa_queue_Held_0 rfl (show ac.eval (.tmp 8) = .pointer (some ⟨xb, 0, none⟩) from hA.other 8 (by decide))) rfl)
            | 1, _ =>
              obtain rfl := Option.some.inj ho
              exact gg_plain rfl (gstep_val (rnt_fa_api_Item_1 rfl (hA.fact 0 (hA.dep 0 (by kernel_rfl) (by decide)))) rfl)
            | 2, _ =>
              obtain rfl := Option.some.inj ho
              exact gg_plain rfl (gstep_val (q_loadI rfl (hA.fact 1 (hA.dep 1 (by kernel_rfl) (by decide))) (hgr.cell HXC.out)) rfl)
            | 3, _ =>
              obtain rfl := Option.some.inj ho
              exact gg_plain rfl (gstep_val (q_move rfl (show ac.eval (.tmp 0) = .pointer (some ⟨p, 0, none⟩) from hA.other 0 (by decide))) rfl)
            | 4, _ =>
              obtain rfl := Option.some.inj ho
              exact gg_plain rfl (gstep_val (q_move rfl (show ac.eval (.tmp 7) = .int .i64 (f : Int) from hA.other 7 (by decide))) rfl)
            | 5, _ =>
              obtain rfl := Option.some.inj ho
              exact gg_plain rfl (gstep_val (q_nil rfl (hA.fact 3 (hA.dep 3 (by kernel_rfl) (by decide)))) rfl)
            | 6, _ =>
              obtain rfl := Option.some.inj ho
              exact gg_plain rfl (gstep_val (rnt_fa_fair_Rounds_3 rfl (hA.fact 5 (hA.dep 5 (by kernel_rfl) (by decide)))) rfl)
            | 7, _ =>
              obtain rfl := Option.some.inj ho
              exact gg_plain rfl (gstep_val (rnt_idx__16_int rfl (hA.fact 6 (hA.dep 6 (by kernel_rfl) (by decide))) (hA.fact 4 (hA.dep 4 (by kernel_rfl) (by decide))) (HK.out)) rfl)
            | 8, _ =>
              obtain rfl := Option.some.inj ho
              exact gg_plain rfl (gstep_val (q_loadI rfl (hA.fact 7 (hA.dep 7 (by kernel_rfl) (by decide))) (hgr.cell HCC.out)) rfl)
            | k + 9, hk => exact absurd (show k + 9 < 9 from hk) (by omega)
          · intro vz wc hg5 hv
            have HGY := Lib.hid ((Gr.refl w6).drew.trans hg5)
            have v57 : vz 2 = .int .i64 x.len := hv 2 (by omega)
            have v63 : vz 8 = .int .i64 (a1.cred q f) := hv 8 (by omega)
            clear hv hg5
            simp only [putN, List.drop_succ_cons, List.drop_zero, List.getElem?_cons_succ, List.getElem?_cons_zero]
            generalize vz 2 = z57 at *
            subst v57
            generalize vz 8 = z63 at *
            subst v63
            generalize vz 0 = z55 at *
            generalize vz 1 = z56 at *
            generalize vz 3 = z58 at *
            generalize vz 4 = z59 at *
            generalize vz 5 = z60 at *
            generalize vz 6 = z61 at *
            generalize vz 7 = z62 at *
            have hroom := of_decide_eq_true CB.out
            have HM7 := Lib.hid (HM6.out.gr HGY.out)
            have HZ7 := Lib.hid (HZ6.out.gr HGY.out)
            have HTW := Lib.hid (show IntRow wc (.slice (some ⟨tg, toff, none⟩) ((intL r).length + 1) cap) ((f : Int) :: intL r) from by rw [← HTV.out, ← HV.out.tv, ← HTU.out, ← HV.out.turn]; exact HM7.out.at_.turn)
            have c65 : wc.cell? ⟨p, 65, none⟩ = some (.slice (some ⟨tg, toff, none⟩) ((intL r).length + 1) cap) := by rw [← HTV.out, ← HV.out.tv]; exact HM7.out.at_.c65
            have f65 := HM7.out.at_.free 65
            have HPT : Hid (p ≠ tg) := Lib.hid (fun e => (HM7.out.at_.tap p (by rw [HV.out.tv, HTV.out, e]; rfl)).1 rfl)
            have HS7 := Lib.hid (show (∀ u, Sav (fun g => g = tg) wc u → u.cell? ⟨p, 65, none⟩ = some (.slice (some ⟨tg, toff, none⟩) ((intL r).length + 1) cap) ∧ u.frozen? ⟨p, 65, none⟩ = false) from fun u hs => ⟨hs.cell (by rw [← HTV.out, ← HV.out.tv]; exact HM7.out.at_.c65) HPT.out, hs.frozen (p := ⟨p, 65, none⟩) HM7.out.at_.lt (HM7.out.at_.free 65) HPT.out⟩)
            have HST := Lib.hid (show s4.tv.ownBlock = some tg from by rw [HV.out.tv, HTV.out]; rfl)
            obtain ⟨e1, i2, i3⟩ := HE.out
            have hp0 : p < wc.heap.size := HM7.out.at_.lt
            go_upto_region 9 with (at_builtin; refine wpList_append_intR rfl _ _ _ (by rfl) (by kernel_rfl) _ (intL r) (f : Int) (by rfl) (by obtain ⟨t, ht, hrow⟩ := IntRow.rest HTW.out; rw [ht]; exact hrow.gr ((Gr.refl wc).alloc (.cells #[.int .i64 (f : Int)] 3))) ⟨wc.heap.size, 0, none⟩ 1 (by rfl) (by simp) (by have := HRL.out; omega) ?_; intro v8 w8 hrow hgr hown; obtain ⟨t8, ht8, _⟩ := IntRow.rest HTW.out; rw [ht8] at hgr hown; have hsv : Sav (fun g => g = tg) wc w8 := (Sav.of_gr ((Gr.refl wc).alloc (.cells #[.int .i64 (f : Int)] 3))).then (.of_grown hgr fun g e => (Option.some.inj e).symm); have hsv2 : Sav (fun g => s4.tv.ownBlock = some g) wc w8 := hsv.mono (fun g e => by rw [e]; exact HST.out); have ho8 : ∀ g, v8.ownBlock = some g → s4.tv.ownBlock = some g ∨ wc.heap.size ≤ g := (fun g e => (hown g e).imp (fun e => by rw [HST.out]; exact e) (fun e => by simp at e; omega)); have HM8 := Lib.hid (HM7.out.setT hsv2 hrow ho8); have HZ8 := Lib.hid ((HZ7.out.sav hsv2 (fun e => HM7.out.nin (r := rb) (by simp) (.inr (.inl e)))).sav (.set p 65 v8) (fun e => HM7.out.nin (r := rb) (by simp) (.inl e))); obtain ⟨d65, g65⟩ := HS7.out _ hsv; clear hgr hown ho8 hsv hsv2 c65 f65 ht8; obtain ⟨a8, c8, rfl⟩ := hrow.shape; clear hrow; rw [show (intL r ++ [(f : Int)]).length = (intL r).length + 1 from by simp] at HM8 HZ8)
            obtain ⟨t8, ht8, _⟩ := IntRow.rest HTW.out
            rw [ht8]
            generalize w8.setCell ⟨p, 65, none⟩ (.slice a8 ((intL r).length + 1) c8) = w9 at *
            clear d65 g65 hp0 ht8 HM6 HZ6 HM7 HZ7 HTW HS7 hroom e1 i2 i3 HX6 HXC HCC HGY
            have c66 := HM8.out.at_.c66
            have f66 := HM8.out.at_.free 66
            have HSH := Lib.hid (show Shows ((s4.setT (.slice a8 ((intL r).length + 1) c8) (intL r ++ [(f : Int)])).setB false) (a1.pass f r (a1.cred q f)) from HS.out.pass HV.out rfl rfl rfl rfl rfl rfl)
            go_wp2
            go_roundg g'
            case measure => omega
            case rel => exact ⟨a1.pass f r (a1.cred q f), _, HRN, Lib.hid HPASS.out.1, Lib.hid (by have h1 := HPASS.out.2; have h2 := HF.out; omega), HSH, Lib.hid ((HM8.out.setB false).less (fun g e => by simp at e; simp [e])), Lib.hid (HZ8.out.sav (.set p 66 (.bool false)) (fun e => HM8.out.nin (r := rb) (by simp) (.inl e)))⟩
        · have CB := Lib.hid (decide_eq_false hc)
          have HGONE := Lib.hid (HO.out.gone HQ.out HT1.out HS1.out hc)
          have HTT := Lib.hid (show R = (a1.gone f r x sx (a1.cred q f), x, [], true) from by rw [← HRR.out, takeR_gone HT1.out HS1.out hc])
          have HNC := Lib.hid hc
          clear hc
          refine wp_region_gg (n := 9) [Fg.eq (.pointer (some ⟨xb, 0, none⟩)), Fg.eq (.pointer (some ⟨xb, 1, none⟩)), Fg.eq (.int .i64 x.len), Fg.eq (.pointer (some ⟨p, 0, none⟩)), Fg.eq (.int .i64 (f : Int)), Fg.eq (.pointer (some ⟨p, 0, none⟩)), Fg.eq (.pointer (some ⟨p, 49, none⟩)), Fg.eq (.pointer (some ⟨p, 49 + f, none⟩)), Fg.eq (.int .i64 (a1.cred q f))] [55, 56, 57, 58, 59, 60, 61, 62, 63] (by kernel_rfl) (by kernel_rfl) (by kernel_rfl) ?_ ?_
          · intro L i o' ac w1 hi ho hA
            have hgr : Gr w6 w1 := (Gr.refl w6).drew.trans hA.gr
            match i, hi with
            | 0, _ =>
              obtain rfl := Option.some.inj ho
              exact gg_plain rfl (gstep_val (rnt_fa_queue_Held_0 rfl (show ac.eval (.tmp 8) = .pointer (some ⟨xb, 0, none⟩) from hA.other 8 (by decide))) rfl)
            | 1, _ =>
              obtain rfl := Option.some.inj ho
              exact gg_plain rfl (gstep_val (rnt_fa_api_Item_1 rfl (hA.fact 0 (hA.dep 0 (by kernel_rfl) (by decide)))) rfl)
            | 2, _ =>
              obtain rfl := Option.some.inj ho
              exact gg_plain rfl (gstep_val (q_loadI rfl (hA.fact 1 (hA.dep 1 (by kernel_rfl) (by decide))) (hgr.cell HXC.out)) rfl)
            | 3, _ =>
              obtain rfl := Option.some.inj ho
              exact gg_plain rfl (gstep_val (q_move rfl (show ac.eval (.tmp 0) = .pointer (some ⟨p, 0, none⟩) from hA.other 0 (by decide))) rfl)
            | 4, _ =>
              obtain rfl := Option.some.inj ho
              exact gg_plain rfl (gstep_val (q_move rfl (show ac.eval (.tmp 7) = .int .i64 (f : Int) from hA.other 7 (by decide))) rfl)
            | 5, _ =>
              obtain rfl := Option.some.inj ho
              exact gg_plain rfl (gstep_val (q_nil rfl (hA.fact 3 (hA.dep 3 (by kernel_rfl) (by decide)))) rfl)
            | 6, _ =>
              obtain rfl := Option.some.inj ho
              exact gg_plain rfl (gstep_val (rnt_fa_fair_Rounds_3 rfl (hA.fact 5 (hA.dep 5 (by kernel_rfl) (by decide)))) rfl)
            | 7, _ =>
              obtain rfl := Option.some.inj ho
              exact gg_plain rfl (gstep_val (rnt_idx__16_int rfl (hA.fact 6 (hA.dep 6 (by kernel_rfl) (by decide))) (hA.fact 4 (hA.dep 4 (by kernel_rfl) (by decide))) (HK.out)) rfl)
            | 8, _ =>
              obtain rfl := Option.some.inj ho
              exact gg_plain rfl (gstep_val (q_loadI rfl (hA.fact 7 (hA.dep 7 (by kernel_rfl) (by decide))) (hgr.cell HCC.out)) rfl)
            | k + 9, hk => exact absurd (show k + 9 < 9 from hk) (by omega)
          · intro vz wc hg5 hv
            have HGY := Lib.hid ((Gr.refl w6).drew.trans hg5)
            have v57 : vz 2 = .int .i64 x.len := hv 2 (by omega)
            have v63 : vz 8 = .int .i64 (a1.cred q f) := hv 8 (by omega)
            clear hv hg5
            simp only [putN, List.drop_succ_cons, List.drop_zero, List.getElem?_cons_succ, List.getElem?_cons_zero]
            generalize vz 2 = z57 at *
            subst v57
            generalize vz 8 = z63 at *
            subst v63
            generalize vz 0 = z55 at *
            generalize vz 1 = z56 at *
            generalize vz 3 = z58 at *
            generalize vz 4 = z59 at *
            generalize vz 5 = z60 at *
            generalize vz 6 = z61 at *
            generalize vz 7 = z62 at *
            have hroom := of_decide_eq_false CB.out
            have HM7 := Lib.hid (HM6.out.gr HGY.out)
            have HZ7 := Lib.hid (HZ6.out.gr HGY.out)
            have HX7 := Lib.hid (HX6.out.gr HGY.out)
            have HL7 := Lib.hid (show LstAt wc p (f * 2) (s4.vs f) (x :: sx) from by rw [← HLL.out, ← HV.out.ls]; exact HM7.out.at_.lst f HK.out)
            have HSB := Lib.hid (lens_tot (show Lens sx from fun z hz => HO.out.l.lens z (ofF_mem.1 (show z ∈ ofF a1.l f by rw [HS1.out]; exact List.mem_cons_of_mem _ hz)).1))
            have HSN := Lib.hid (show sx.length ≤ 300 from by have h1 := ofF_len a1.l f; have h2 := HO.out.l.few; have h3 := HO.out.l.n; rw [HS1.out] at h1; simp at h1; omega)
            go_upto_region 11 with (go_at_call 81; refine (lnext_cons p (f * 2) (s4.vs f) x sx _ HL7.out (by have h1 := HSB.out; have h2 := HSN.out; omega)).mono ?_; unfold Hel.val; rintro e w8 ⟨rfl, v8, hl8, hs8, ho8⟩; have HM8 := Lib.hid (HM7.out.setL HK.out hl8 hs8 (fun g e => .inl (by rw [← ho8]; exact e))); have HZ8 := Lib.hid (HZ7.out.sav hs8.sav (HM7.out.lnin (r := rb) (by simp) HK.out)); have HX8 := Lib.hid (HX7.out.sav hs8.sav (HM7.out.lnin (r := xb) (by simp) HK.out)); clear hl8 hs8 ho8)
            clear hroom HM6 HX6 HZ6 HM7 HX7 HZ7 HL7 HGY HXC HCC
            have HXC := Lib.hid (show w8.cell? ⟨xb, 1, none⟩ = some (.int .i64 x.len) from by have := HX8.out.c1; rw [Nat.zero_add] at this; exact this)
            have HCC := Lib.hid (show w8.cell? ⟨p, 49 + f, none⟩ = some (.int .i64 (a1.cred q f)) from by rw [← HV.out.at_]; exact HM8.out.at_.cred HK.out)
            have DS := Lib.hid (show IntKind.i64.wrap (a1.cred q f - x.len) = a1.cred q f - x.len from by have h1 := HCB.out; have h2 := HXL.out; rw [IntKind.wrap_i64]; omega)
            have HMB := Lib.hid (show s1.bytes = sumLen a1.l ∧ s1.many = (a1.l.length : Int) from ⟨HS.out.bytes, HS.out.many⟩)
            have HLT := Lib.hid (lens_tot HO.out.l.lens)
            have HLN := Lib.hid (show a1.l.length ≤ 200 from by have h2 := HO.out.l.few; have h3 := HO.out.l.n; omega)
            have DZ := Lib.hid (show IntKind.i64.wrap (s1.bytes - x.len) = s1.bytes - x.len from by have h1 := HMB.out.1; have h2 := HXL.out; have h3 := HLT.out; have h4 := HLN.out; rw [IntKind.wrap_i64]; omega)
            have HWM := Lib.hid (show wrap64 (s1.many - 1) = s1.many - 1 from by have h1 := HMB.out.2; have h4 := HLN.out; unfold wrap64; omega)
            have HV8 := Lib.hid (show (s4.setL f v8 sx).ls = fu s4.ls f sx ∧ (s4.setL f v8 sx).tv = s1.tv ∧ (s4.setL f v8 sx).turn = s1.turn ∧ (s4.setL f v8 sx).begun = true ∧ (s4.setL f v8 sx).cr = s4.cr ∧ (s4.setL f v8 sx).bytes = s1.bytes ∧ (s4.setL f v8 sx).many = s1.many from ⟨rfl, HV.out.tv, HV.out.turn, HV.out.begun, rfl, HV.out.bytes, HV.out.many⟩)
            generalize s4.setL f v8 sx = s8 at *
            refine wp_region_gg (n := 13) [Fg.eq (.pointer (some ⟨p, 0, none⟩)), Fg.eq (.int .i64 (f : Int)), Fg.eq (.pointer (some ⟨p, 0, none⟩)), Fg.eq (.pointer (some ⟨p, 49, none⟩)), Fg.eq (.pointer (some ⟨p, 49 + f, none⟩)), Fg.eq (.int .i64 (a1.cred q f)), Fg.eq (.pointer (some ⟨xb, 0, none⟩)), Fg.eq (.pointer (some ⟨xb, 1, none⟩)), Fg.eq (.int .i64 x.len), Fg.eq (.int .i64 (a1.cred q f - x.len)), Fg.eq (.pointer (some ⟨p, 0, none⟩)), Fg.eq (.pointer (some ⟨p, 49, none⟩)), Fg.eq (.pointer (some ⟨p, 49 + f, none⟩))] [85, 86, 87, 88, 89, 90, 91, 92, 93, 94, 95, 96, 97] (by kernel_rfl) (by kernel_rfl) (by kernel_rfl) ?_ ?_
            · intro L i o' ac w1 hi ho hA
              have hgr : Gr w8 w1 := (Gr.refl w8).drew.trans hA.gr
              match i, hi with
              | 0, _ =>
                obtain rfl := Option.some.inj ho
                exact gg_plain rfl (gstep_val (q_move rfl (show ac.eval (.tmp 0) = .pointer (some ⟨p, 0, none⟩) from hA.other 0 (by decide))) rfl)
              | 1, _ =>
                obtain rfl := Option.some.inj ho
                exact gg_plain rfl (gstep_val (q_move rfl (show ac.eval (.tmp 7) = .int .i64 (f : Int) from hA.other 7 (by decide))) rfl)
              | 2, _ =>
                obtain rfl := Option.some.inj ho
                exact gg_plain rfl (gstep_val (q_nil rfl (hA.fact 0 (hA.dep 0 (by kernel_rfl) (by decide)))) rfl)
              | 3, _ =>
                obtain rfl := Option.some.inj ho
                exact gg_plain rfl (gstep_val (rnt_fa_fair_Rounds_3 rfl (hA.fact 2 (hA.dep 2 (by kernel_rfl) (by decide)))) rfl)
              | 4, _ =>
                obtain rfl := Option.some.inj ho
                exact gg_plain rfl (gstep_val (rnt_idx__16_int rfl (hA.fact 3 (hA.dep 3 (by kernel_rfl) (by decide))) (hA.fact 1 (hA.dep 1 (by kernel_rfl) (by decide))) (HK.out)) rfl)
              | 5, _ =>
                obtain rfl := Option.some.inj ho
                exact gg_plain rfl (gstep_val (q_loadI rfl (hA.fact 4 (hA.dep 4 (by kernel_rfl) (by decide))) (hgr.cell HCC.out)) rfl)
              | 6, _ =>
                obtain rfl := Option.some.inj ho
                exact gg_plain rfl (gstep_val (rnt_fa_queue_Held_0 rfl (show ac.eval (.tmp 8) = .pointer (some ⟨xb, 0, none⟩) from hA.other 8 (by decide))) rfl)
              | 7, _ =>
                obtain rfl := Option.some.inj ho
                exact gg_plain rfl (gstep_val (rnt_fa_api_Item_1 rfl (hA.fact 6 (hA.dep 6 (by kernel_rfl) (by decide)))) rfl)
              | 8, _ =>
                obtain rfl := Option.some.inj ho
                exact gg_plain rfl (gstep_val (q_loadI rfl (hA.fact 7 (hA.dep 7 (by kernel_rfl) (by decide))) (hgr.cell HXC.out)) rfl)
              | 9, _ =>
                obtain rfl := Option.some.inj ho
                exact gg_plain rfl (gstep_val (rnt_sub rfl (hA.fact 5 (hA.dep 5 (by kernel_rfl) (by decide))) (hA.fact 8 (hA.dep 8 (by kernel_rfl) (by decide))) (DS.out)) rfl)
              | 10, _ =>
                obtain rfl := Option.some.inj ho
                exact gg_plain rfl (gstep_val (q_nil rfl (hA.fact 0 (hA.dep 0 (by kernel_rfl) (by decide)))) rfl)
              | 11, _ =>
                obtain rfl := Option.some.inj ho
                exact gg_plain rfl (gstep_val (rnt_fa_fair_Rounds_3 rfl (hA.fact 10 (hA.dep 10 (by kernel_rfl) (by decide)))) rfl)
              | 12, _ =>
                obtain rfl := Option.some.inj ho
                exact gg_plain rfl (gstep_val (rnt_idx__16_int rfl (hA.fact 11 (hA.dep 11 (by kernel_rfl) (by decide))) (hA.fact 1 (hA.dep 1 (by kernel_rfl) (by decide))) (HK.out)) rfl)
              | k + 13, hk => exact absurd (show k + 13 < 13 from hk) (by omega)
            · intro vz we hg5 hv
              have HGU := Lib.hid ((Gr.refl w8).drew.trans hg5)
              have v94 : vz 9 = .int .i64 (a1.cred q f - x.len) := hv 9 (by omega)
              have v97 : vz 12 = .pointer (some ⟨p, 49 + f, none⟩) := hv 12 (by omega)
              clear hv hg5
              simp only [putN, List.drop_succ_cons, List.drop_zero, List.getElem?_cons_succ, List.getElem?_cons_zero]
              generalize vz 9 = z94 at *
              subst v94
              generalize vz 12 = z97 at *
              subst v97
              generalize vz 0 = z85 at *
              generalize vz 1 = z86 at *
              generalize vz 2 = z87 at *
              generalize vz 3 = z88 at *
              generalize vz 4 = z89 at *
              generalize vz 5 = z90 at *
              generalize vz 6 = z91 at *
              generalize vz 7 = z92 at *
              generalize vz 8 = z93 at *
              generalize vz 10 = z95 at *
              generalize vz 11 = z96 at *
              have HM9 := Lib.hid (HM8.out.gr HGU.out)
              have HZ9 := Lib.hid (HZ8.out.gr HGU.out)
              have HX9 := Lib.hid (HX8.out.gr HGU.out)
              have c49 := HM9.out.at_.cred HK.out
              have f49 := HM9.out.at_.free (49 + f)
              go_upto_region 12 with fail
              have HM10 := Lib.hid (HM9.out.setC HK.out (a1.cred q f - x.len))
              have HZ10 := Lib.hid (HZ9.out.sav (.set p (49 + f) (.int .i64 (a1.cred q f - x.len))) (fun e => HM9.out.nin (r := rb) (by simp) (.inl e)))
              have HX10 := Lib.hid (HX9.out.sav (.set p (49 + f) (.int .i64 (a1.cred q f - x.len))) (fun e => HM9.out.nin (r := xb) (by simp) (.inl e)))
              generalize we.setCell ⟨p, 49 + f, none⟩ (.int .i64 (a1.cred q f - x.len)) = w10 at *
              clear c49 f49 HM8 HZ8 HX8 HM9 HZ9 HX9 HGU HXC HCC
              have HXC := Lib.hid (show w10.cell? ⟨xb, 1, none⟩ = some (.int .i64 x.len) from by have := HX10.out.c1; rw [Nat.zero_add] at this; exact this)
              have HCY := Lib.hid (show w10.cell? ⟨p, 67, none⟩ = some (.int .i64 s1.bytes) from by rw [← HV8.out.2.2.2.2.2.1]; exact HM10.out.at_.c67)
              refine wp_region_gg (n := 10) [Fg.eq (.pointer (some ⟨p, 0, none⟩)), Fg.eq (.pointer (some ⟨p, 0, none⟩)), Fg.eq (.pointer (some ⟨p, 67, none⟩)), Fg.eq (.int .i64 s1.bytes), Fg.eq (.pointer (some ⟨xb, 0, none⟩)), Fg.eq (.pointer (some ⟨xb, 1, none⟩)), Fg.eq (.int .i64 x.len), Fg.eq (.int .i64 (s1.bytes - x.len)), Fg.eq (.pointer (some ⟨p, 0, none⟩)), Fg.eq (.pointer (some ⟨p, 67, none⟩))] [98, 99, 100, 101, 102, 103, 104, 105, 106, 107] (by kernel_rfl) (by kernel_rfl) (by kernel_rfl) ?_ ?_
              · intro L i o' ac w1 hi ho hA
                have hgr : Gr w10 w1 := (Gr.refl w10).drew.trans hA.gr
                match i, hi with
                | 0, _ =>
                  obtain rfl := Option.some.inj ho
                  exact gg_plain rfl (gstep_val (q_move rfl (show ac.eval (.tmp 0) = .pointer (some ⟨p, 0, none⟩) from hA.other 0 (by decide))) rfl)
                | 1, _ =>
                  obtain rfl := Option.some.inj ho
                  exact gg_plain rfl (gstep_val (q_nil rfl (hA.fact 0 (hA.dep 0 (by kernel_rfl) (by decide)))) rfl)
                | 2, _ =>
                  obtain rfl := Option.some.inj ho
                  exact gg_plain rfl (gstep_val (rnt_fa_fair_Rounds_6 rfl (hA.fact 1 (hA.dep 1 (by kernel_rfl) (by decide)))) rfl)
                | 3, _ =>
                  obtain rfl := Option.some.inj ho
                  exact gg_plain rfl (gstep_val (q_loadI rfl (hA.fact 2 (hA.dep 2 (by kernel_rfl) (by decide))) (hgr.cell HCY.out)) rfl)
                | 4, _ =>
                  obtain rfl := Option.some.inj ho
                  exact gg_plain rfl (gstep_val (rnt_fa_queue_Held_0 rfl (show ac.eval (.tmp 8) = .pointer (some ⟨xb, 0, none⟩) from hA.other 8 (by decide))) rfl)
                | 5, _ =>
                  obtain rfl := Option.some.inj ho
                  exact gg_plain rfl (gstep_val (rnt_fa_api_Item_1 rfl (hA.fact 4 (hA.dep 4 (by kernel_rfl) (by decide)))) rfl)
                | 6, _ =>
                  obtain rfl := Option.some.inj ho
                  exact gg_plain rfl (gstep_val (q_loadI rfl (hA.fact 5 (hA.dep 5 (by kernel_rfl) (by decide))) (hgr.cell HXC.out)) rfl)
                | 7, _ =>
                  obtain rfl := Option.some.inj ho
                  exact gg_plain rfl (gstep_val (rnt_sub rfl (hA.fact 3 (hA.dep 3 (by kernel_rfl) (by decide))) (hA.fact 6 (hA.dep 6 (by kernel_rfl) (by decide))) (DZ.out)) rfl)
                | 8, _ =>
                  obtain rfl := Option.some.inj ho
                  exact gg_plain rfl (gstep_val (q_nil rfl (hA.fact 0 (hA.dep 0 (by kernel_rfl) (by decide)))) rfl)
                | 9, _ =>
                  obtain rfl := Option.some.inj ho
                  exact gg_plain rfl (gstep_val (rnt_fa_fair_Rounds_6 rfl (hA.fact 8 (hA.dep 8 (by kernel_rfl) (by decide)))) rfl)
                | k + 10, hk => exact absurd (show k + 10 < 10 from hk) (by omega)
              · intro vz wf hg5 hv
                have HGT := Lib.hid ((Gr.refl w10).drew.trans hg5)
                have v105 : vz 7 = .int .i64 (s1.bytes - x.len) := hv 7 (by omega)
                have v107 : vz 9 = .pointer (some ⟨p, 67, none⟩) := hv 9 (by omega)
                clear hv hg5
                simp only [putN, List.drop_succ_cons, List.drop_zero, List.getElem?_cons_succ, List.getElem?_cons_zero]
                generalize vz 7 = z105 at *
                subst v105
                generalize vz 9 = z107 at *
                subst v107
                generalize vz 0 = z98 at *
                generalize vz 1 = z99 at *
                generalize vz 2 = z100 at *
                generalize vz 3 = z101 at *
                generalize vz 4 = z102 at *
                generalize vz 5 = z103 at *
                generalize vz 6 = z104 at *
                generalize vz 8 = z106 at *
                have HM11 := Lib.hid (HM10.out.gr HGT.out)
                have HZ11 := Lib.hid (HZ10.out.gr HGT.out)
                have HX11 := Lib.hid (HX10.out.gr HGT.out)
                have c67 := HM11.out.at_.c67
                have f67 := HM11.out.at_.free 67
                go_upto_region 13 with fail
                have HM12 := Lib.hid (HM11.out.setY (s1.bytes - x.len))
                have HZ12 := Lib.hid (HZ11.out.sav (.set p 67 (.int .i64 (s1.bytes - x.len))) (fun e => HM11.out.nin (r := rb) (by simp) (.inl e)))
                have HX12 := Lib.hid (HX11.out.sav (.set p 67 (.int .i64 (s1.bytes - x.len))) (fun e => HM11.out.nin (r := xb) (by simp) (.inl e)))
                generalize wf.setCell ⟨p, 67, none⟩ (.int .i64 (s1.bytes - x.len)) = w12 at *
                clear c67 f67 HM10 HZ10 HX10 HM11 HZ11 HX11 HGT HXC HCY
                have c68 : w12.cell? ⟨p, 68, none⟩ = some (.int .i64 s1.many) := by rw [← HV8.out.2.2.2.2.2.2]; exact HM12.out.at_.c68
                have f68 := HM12.out.at_.free 68
                go_upto_region 14 with fail
                rw [HWM.out]
                have HM13 := Lib.hid (HM12.out.setM (s1.many - 1))
                have HZ13 := Lib.hid (HZ12.out.sav (.set p 68 (.int .i64 (s1.many - 1))) (fun e => HM12.out.nin (r := rb) (by simp) (.inl e)))
                have HX13 := Lib.hid (HX12.out.sav (.set p 68 (.int .i64 (s1.many - 1))) (fun e => HM12.out.nin (r := xb) (by simp) (.inl e)))
                generalize w12.setCell ⟨p, 68, none⟩ (.int .i64 (s1.many - 1)) = w13 at *
                clear c68 f68 HM12 HZ12 HX12
                have HV13 := Lib.hid (show (((s8.setC f (a1.cred q f - x.len)).setY (s1.bytes - x.len)).setM (s1.many - 1)).ls = fu s4.ls f sx ∧ (((s8.setC f (a1.cred q f - x.len)).setY (s1.bytes - x.len)).setM (s1.many - 1)).tv = s1.tv ∧ (((s8.setC f (a1.cred q f - x.len)).setY (s1.bytes - x.len)).setM (s1.many - 1)).turn = s1.turn ∧ (((s8.setC f (a1.cred q f - x.len)).setY (s1.bytes - x.len)).setM (s1.many - 1)).begun = true ∧ (((s8.setC f (a1.cred q f - x.len)).setY (s1.bytes - x.len)).setM (s1.many - 1)).cr = fu s4.cr f (a1.cred q f - x.len) ∧ (((s8.setC f (a1.cred q f - x.len)).setY (s1.bytes - x.len)).setM (s1.many - 1)).bytes = s4.bytes - x.len ∧ (((s8.setC f (a1.cred q f - x.len)).setY (s1.bytes - x.len)).setM (s1.many - 1)).many = s4.many - 1 from ⟨HV8.out.1, HV8.out.2.1, HV8.out.2.2.1, HV8.out.2.2.2.1, by rw [← HV8.out.2.2.2.2.1]; rfl, by rw [HV.out.bytes]; rfl, by rw [HV.out.many]; rfl⟩)
                generalize ((s8.setC f (a1.cred q f - x.len)).setY (s1.bytes - x.len)).setM (s1.many - 1) = s13 at *
                have HL13 := Lib.hid (show LstAt w13 p (f * 2) (s13.vs f) sx from by have h1 := HM13.out.at_.lst f HK.out; rw [HV13.out.1, fu_at] at h1; exact h1)
                by_cases hs0 : sx = []
                · have HSH0 := Lib.hid hs0
                  rw [hs0] at HL13
                  clear hs0
                  have HTW := Lib.hid (show IntRow w13 (.slice (some ⟨tg, toff, none⟩) ((intL r).length + 1) cap) ((f : Int) :: intL r) from by rw [← HTV.out, ← HV13.out.2.1, ← HTU.out, ← HV13.out.2.2.1]; exact HM13.out.at_.turn)
                  have c65 : w13.cell? ⟨p, 65, none⟩ = some (.slice (some ⟨tg, toff, none⟩) ((intL r).length + 1) cap) := by rw [← HTV.out, ← HV13.out.2.1]; exact HM13.out.at_.c65
                  have f65 := HM13.out.at_.free 65
                  obtain ⟨e1, i2, i3⟩ := HE.out
                  go_upto_region 16 with (go_at_call 75; refine (llen_any p (f * 2) (s13.vs f) [] _ HL13.out).mono ?_; rintro e w14 ⟨rfl, rfl⟩)
                  obtain ⟨t8, ht8, hrow⟩ := IntRow.rest HTW.out
                  rw [ht8]
                  have HM14 := Lib.hid (HM13.out.setT (.refl _ w13) hrow (fun g e => .inl (by rw [HV13.out.2.1, HTV.out]; exact e)))
                  have HZ14 := Lib.hid (HZ13.out.sav (.set p 65 (.slice (some ⟨tg, t8, none⟩) (intL r).length (cap - 1))) (fun e => HM13.out.nin (r := rb) (by simp) (.inl e)))
                  have HX14 := Lib.hid (HX13.out.sav (.set p 65 (.slice (some ⟨tg, t8, none⟩) (intL r).length (cap - 1))) (fun e => HM13.out.nin (r := xb) (by simp) (.inl e)))
                  generalize w13.setCell ⟨p, 65, none⟩ (.slice (some ⟨tg, t8, none⟩) (intL r).length (cap - 1)) = w14 at *
                  clear ht8 hrow HTW c65 f65 HM13 HZ13 HX13 HL13 e1 i2 i3
                  have c66 := HM14.out.at_.c66
                  have f66 := HM14.out.at_.free 66
                  go_upto_region 17 with fail
                  have HM15 := Lib.hid (HM14.out.setB false)
                  have HZ15 := Lib.hid (HZ14.out.sav (.set p 66 (.bool false)) (fun e => HM14.out.nin (r := rb) (by simp) (.inl e)))
                  have HX15 := Lib.hid (HX14.out.sav (.set p 66 (.bool false)) (fun e => HM14.out.nin (r := xb) (by simp) (.inl e)))
                  generalize w14.setCell ⟨p, 66, none⟩ (.bool false) = w15 at *
                  clear c66 f66 HM14 HZ14 HX14
                  have HSH := Lib.hid (show Shows ((s13.setT (.slice (some ⟨tg, t8, none⟩) (intL r).length (cap - 1)) (intL r)).setB false) (a1.gone f r x sx (a1.cred q f)) from HS.out.gone HO.out HS1.out HV.out HV13.out.1 (by rw [if_pos HSH0.out]; rfl) (by rw [if_pos HSH0.out]; rfl) HV13.out.2.2.2.2.1 HV13.out.2.2.2.2.2.1 HV13.out.2.2.2.2.2.2)
                  obtain ⟨⟨r0, r1, r2, r3, r4, r5⟩, e0, e1, e2, e3, e4, e5⟩ := HZ15.out
                  obtain ⟨x0, x1, x2, x3, x4, x5⟩ := HX15.out
                  simp only [Nat.zero_add] at x1 x2 x3 x4 x5
                  go_wp2
                  clear x0 x1 x2 x3 x4 x5
                  obtain ⟨w99, hw99⟩ : ∃ u, u = ((((((w15.setCell ⟨rb, 0, none⟩ (.int .i64 x.t)).setCell ⟨rb, 1, none⟩ (.int .i64 x.len)).setCell ⟨rb, 2, none⟩ (.int .i64 x.flow)).setCell ⟨rb, 3, none⟩ (.int .i64 x.band)).setCell ⟨rb, 4, none⟩ (.int .i64 x.mark)).setCell ⟨rb, 5, none⟩ (.int .i64 x.n)) := ⟨_, rfl⟩
                  have HR99 := Lib.hid (show HelRes w99 rb x ∧ Sav (fun g => g = rb) w15 w99 from by rw [hw99]; exact hel_set6 HZ15.out x)
                  rw [← hw99]
                  clear hw99 r0 r1 r2 r3 r4 r5 e0 e1 e2 e3 e4 e5
                  obtain ⟨⟨q0, q1, q2, q3, q4, q5⟩, _⟩ := HR99.out.1
                  refine bodyPost_ret (v := .tuple #[.agg #[.int .i64 x.t, .int .i64 x.len, .int .i64 x.flow, .int .i64 x.band, .int .i64 x.mark, .int .i64 x.n], .slice none 0 0, .bool true]) (by simp [results, Tryd.results109, go_sem, q0, q1, q2, q3, q4, q5]) rfl ?_
                  rw [HTT.out]
                  exact ⟨rfl, _, (HM15.out.off HR99.out.2 (fun g e => by simp [e])).did, HSH.out⟩
                · have i9 : ¬ (sx.length : Int) = 0 := by have := List.length_pos_iff.2 hs0; omega
                  have HSH := Lib.hid (show Shows s13 (a1.gone f r x sx (a1.cred q f)) from HS.out.gone HO.out HS1.out HV.out HV13.out.1 (by rw [if_neg hs0, HV13.out.2.2.1, HTU.out]; rfl) (by rw [if_neg hs0]; exact HV13.out.2.2.2.1) HV13.out.2.2.2.2.1 HV13.out.2.2.2.2.2.1 HV13.out.2.2.2.2.2.2)
                  go_upto_region 17 with (go_at_call 75; refine (llen_any p (f * 2) (s13.vs f) sx _ HL13.out).mono ?_; rintro e w14 ⟨rfl, rfl⟩)
                  obtain ⟨⟨r0, r1, r2, r3, r4, r5⟩, e0, e1, e2, e3, e4, e5⟩ := HZ13.out
                  obtain ⟨x0, x1, x2, x3, x4, x5⟩ := HX13.out
                  simp only [Nat.zero_add] at x1 x2 x3 x4 x5
                  go_wp2
                  clear x0 x1 x2 x3 x4 x5
                  obtain ⟨w99, hw99⟩ : ∃ u, u = ((((((w13.setCell ⟨rb, 0, none⟩ (.int .i64 x.t)).setCell ⟨rb, 1, none⟩ (.int .i64 x.len)).setCell ⟨rb, 2, none⟩ (.int .i64 x.flow)).setCell ⟨rb, 3, none⟩ (.int .i64 x.band)).setCell ⟨rb, 4, none⟩ (.int .i64 x.mark)).setCell ⟨rb, 5, none⟩ (.int .i64 x.n)) := ⟨_, rfl⟩
                  have HR99 := Lib.hid (show HelRes w99 rb x ∧ Sav (fun g => g = rb) w13 w99 from by rw [hw99]; exact hel_set6 HZ13.out x)
                  rw [← hw99]
                  clear hw99 r0 r1 r2 r3 r4 r5 e0 e1 e2 e3 e4 e5
                  obtain ⟨⟨q0, q1, q2, q3, q4, q5⟩, _⟩ := HR99.out.1
                  refine bodyPost_ret (v := .tuple #[.agg #[.int .i64 x.t, .int .i64 x.len, .int .i64 x.flow, .int .i64 x.band, .int .i64 x.mark, .int .i64 x.n], .slice none 0 0, .bool true]) (by simp [results, Tryd.results109, go_sem, q0, q1, q2, q3, q4, q5]) rfl ?_
                  rw [HTT.out]
                  exact ⟨rfl, _, (HM13.out.off HR99.out.2 (fun g e => by simp [e])).did, HSH.out⟩
end Go.Proofs.YtbpofdfehcbppaaDoor

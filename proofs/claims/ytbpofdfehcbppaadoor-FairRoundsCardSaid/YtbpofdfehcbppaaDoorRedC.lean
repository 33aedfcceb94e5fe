/-
  The program's Red: Put. (Printed by genred.py.)
-/
import Derived.Test.YtbpofdfehcbppaaDoorRedB
import Derived.Test.YtbpofdfehcbppaaDoorRegG
import Derived.BigGuardPart
import Derived.BigRegion
import Derived.BigQuiet
import Derived.Deep.RegionWith
import Derived.Deep.DeepCutAuto
import Derived.Deep.CutBlock
namespace Go.Proofs.YtbpofdfehcbppaaDoor
open Go.RowKit Go.Extern.Stop Go.Stop Go.Extern

section
variable {ev : Operand → Value} {o : Oper} {w : World} {x y z : Operand} {u : Value}
theorem rdp_fa_early_Red_3 {p o' : Nat} (ho : o.op = .fieldAddr 125 x 3) (h : ev x = .pointer (some ⟨p, o', none⟩)) : (execOp ev o).run Tryd.prog w = .ok (.value (.pointer (some ⟨p, o' + 11, none⟩))) w := by
  simp [execOp, ho, h, go_sem]
theorem rdp_fa_early_Red_0 {p o' : Nat} (ho : o.op = .fieldAddr 125 x 0) (h : ev x = .pointer (some ⟨p, o', none⟩)) : (execOp ev o).run Tryd.prog w = .ok (.value (.pointer (some ⟨p, o', none⟩))) w := by
  simp [execOp, ho, h, go_sem]
theorem rdp_fa_queue_Fifo_0 {p o' : Nat} (ho : o.op = .fieldAddr 35 x 0) (h : ev x = .pointer (some ⟨p, o', none⟩)) : (execOp ev o).run Tryd.prog w = .ok (.value (.pointer (some ⟨p, o', none⟩))) w := by
  simp [execOp, ho, h, go_sem]
theorem rdp_call___millrace_queue_List__Bytes {x0 : Operand} {v0 : Value} (ho : o.op = .call { callee := .value (.func 74), args := #[x0], argTypes := #[33] }) (hf : ev (.func 74) = .func (.func 74) #[] #[]) (h0 : ev x0 = v0) : (execOp ev o).run Tryd.prog w = .ok (.enter 74 #[v0]) w := by
  simp [execOp, ho, hf, h0, resolve, invoke, go_sem]
theorem rdp_call___millrace_early_Red__Mean {x0 : Operand} {v0 : Value} (ho : o.op = .call { callee := .value (.func 17), args := #[x0], argTypes := #[57] }) (hf : ev (.func 17) = .func (.func 17) #[] #[]) (h0 : ev x0 = v0) : (execOp ev o).run Tryd.prog w = .ok (.enter 17 #[v0]) w := by
  simp [execOp, ho, hf, h0, resolve, invoke, go_sem]
theorem rdp_sub {m n r : Int} (ho : o.op = .binOp .sub 3 x y 3) (h : ev x = .int .i64 m) (k : ev y = .int .i64 n) (hb : IntKind.i64.wrap (m - n) = r) : (execOp ev o).run Tryd.prog w = .ok (.value (.int .i64 r)) w := by
  subst hb
  simp [execOp, ho, h, k, go_sem]
theorem rdp_add {m n r : Int} (ho : o.op = .binOp .add 3 x y 3) (h : ev x = .int .i64 m) (k : ev y = .int .i64 n) (hb : IntKind.i64.wrap (m + n) = r) : (execOp ev o).run Tryd.prog w = .ok (.value (.int .i64 r)) w := by
  subst hb
  simp [execOp, ho, h, k, go_sem]
end

set_option maxRecDepth 100000 in
set_option maxHeartbeats 40000000 in
theorem redput_any (p : Nat) (v tv : Value) (q : RedP) (hq : q.Ok) (a : RedS) (n : Nat) (now : Int) (x : Hel) (w : World) (h : RedAt w p v tv q a.l a.m a.c a.used) (ok : RedOk q a n) (g : GoodPut now x n) :
    Calls Tryd.prog 96 #[.pointer (some ⟨p, 0, none⟩), .int .i64 now, x.val] w fun e w' => ∃ r v' tv', e = .returned r ∧ RowH 139 w' r ((red q).put a now x).2 ∧
      RedAt w' p v' tv' q ((red q).put a now x).1.l ((red q).put a now x).1.m ((red q).put a now x).1.c ((red q).put a now x).1.used ∧ Sav (LFoot p v) w w' ∧ (∀ g, v'.ownBlock = some g → v.ownBlock = some g ∨ w.heap.size ≤ g) ∧ ∀ g, tv'.ownBlock = some g → tv.ownBlock = some g := by
  have HQ := Lib.hid hq
  have HOK := Lib.hid ok
  have HGP := Lib.hid g
  have HNX := Lib.hid ok.next
  have HSU := Lib.hid ok.sum
  have HMB := Lib.hid (mean_in ok.m.1 ok.m.2)
  have HPL := Lib.hid h.lt
  have HP2 := Lib.hid (And.intro (pow2 q.slow) (pow2_le hq.slow))
  have HA := Lib.hid h
  have HN2 := Lib.hid (show n < 200 from g.few)
  have HM0 := Lib.hid ok.m
  clear hq ok g h
  have HPUT : Hid ((red q).put a now x = redPut q a now x (redM q a) (redHit q a (mean q.slow (redM q a)))) := Lib.hid rfl
  unfold Hel.val
  go_enter Tryd.func96, Tryd.ntmps96
  go_upto_region 1 with fail
  obtain ⟨w0, hw0⟩ : ∃ w0, w0 = w.alloc (.cells #[.int .i64 x.t, .int .i64 x.len, .int .i64 x.flow, .int .i64 x.band, .int .i64 x.mark, .int .i64 x.n] 139) := ⟨_, rfl⟩
  obtain ⟨xb, hxb⟩ : ∃ xb, xb = w.heap.size := ⟨_, rfl⟩
  have HX0 : Hid (HelRes w0 xb x ∧ xb = w.heap.size) := Lib.hid (by rw [hw0]; exact ⟨helRes_new w x hxb, hxb⟩)
  have HA0 : Hid (RedAt w0 p v tv q a.l a.m a.c a.used) := Lib.hid (by rw [hw0]; exact HA.out.gr ((Gr.refl _).alloc _))
  have HG0 : Hid (Gr w w0) := Lib.hid (by rw [hw0]; exact (Gr.refl _).alloc _)
  rw [← hw0, ← hxb]
  clear hw0 hxb
  have CS := Lib.hid (show IntKind.i64.wrap (sumLen a.l - mean q.slow a.m) = sumLen a.l - mean q.slow a.m from by have := HSU.out; have := HMB.out; rw [IntKind.wrap_i64]; omega)
  have CT := Lib.hid (show IntKind.i64.wrap (a.m + (sumLen a.l - mean q.slow a.m)) = redM q a from by
    have h1 := HNX.out
    have h2 := HP2.out
    have h3 : redM q a = a.m + (sumLen a.l - mean q.slow a.m) := rfl
    rw [IntKind.wrap_i64, ← h3]
    generalize (2 : Int) ^ q.slow = N at *
    omega)
  refine wp_region_gg (n := 15) [Fg.eq (.pointer (some ⟨p, 0, none⟩)), Fg.eq (.pointer (some ⟨p, 0, none⟩)), Fg.eq (.pointer (some ⟨p, 11, none⟩)), Fg.eq (.int .i64 a.m), Fg.eq (.pointer (some ⟨p, 0, none⟩)), Fg.eq (.pointer (some ⟨p, 0, none⟩)), Fg.eq (.pointer (some ⟨p, 0, none⟩)), Fg.eq (.pointer (some ⟨p, 0, none⟩)), Fg.eq ((.int .i64 (sumLen a.l))), Fg.eq (.pointer (some ⟨p, 0, none⟩)), Fg.eq ((.int .i64 (mean q.slow a.m))), Fg.eq (.int .i64 (sumLen a.l - mean q.slow a.m)), Fg.eq (.int .i64 (redM q a)), Fg.eq (.pointer (some ⟨p, 0, none⟩)), Fg.eq (.pointer (some ⟨p, 11, none⟩))] [12, 13, 14, 15, 16, 17, 18, 19, 20, 21, 22, 23, 24, 25, 26] (by kernel_rfl) (by kernel_rfl) (by kernel_rfl) ?_ ?_
  · intro L i o' ac w1 hi ho hA
    have hgr : Gr w0 w1 := (Gr.refl w0).drew.trans hA.gr
    match i, hi with
    | 0, _ =>
      obtain rfl := Option.some.inj ho
      exact gg_plain rfl (gstep_val (q_move rfl (show ac.eval (.tmp 0) = .pointer (some ⟨p, 0, none⟩) from hA.other 0 (by decide))) rfl)
    | 1, _ =>
      obtain rfl := Option.some.inj ho
      exact gg_plain rfl (gstep_val (q_nil rfl (hA.fact 0 (hA.dep 0 (by kernel_rfl) (by decide)))) rfl)
    | 2, _ =>
      obtain rfl := Option.some.inj ho
      exact gg_plain rfl (gstep_val (rdp_fa_early_Red_3 rfl (hA.fact 1 (hA.dep 1 (by kernel_rfl) (by decide)))) rfl)
    | 3, _ =>
      obtain rfl := Option.some.inj ho
      exact gg_plain rfl (gstep_val (q_loadI rfl (hA.fact 2 (hA.dep 2 (by kernel_rfl) (by decide))) (hgr.cell HA0.out.m)) rfl)
    | 4, _ =>
      obtain rfl := Option.some.inj ho
      exact gg_plain rfl (gstep_val (q_move rfl (show ac.eval (.tmp 0) = .pointer (some ⟨p, 0, none⟩) from hA.other 0 (by decide))) rfl)
    | 5, _ =>
      obtain rfl := Option.some.inj ho
      exact gg_plain rfl (gstep_val (q_nil rfl (hA.fact 4 (hA.dep 4 (by kernel_rfl) (by decide)))) rfl)
    | 6, _ =>
      obtain rfl := Option.some.inj ho
      exact gg_plain rfl (gstep_val (rdp_fa_early_Red_0 rfl (hA.fact 5 (hA.dep 5 (by kernel_rfl) (by decide)))) rfl)
    | 7, _ =>
      obtain rfl := Option.some.inj ho
      exact gg_plain rfl (gstep_val (rdp_fa_queue_Fifo_0 rfl (hA.fact 6 (hA.dep 6 (by kernel_rfl) (by decide)))) rfl)
    | 8, _ =>
      obtain rfl := Option.some.inj ho
      exact gg_plain rfl (gstep_call (rdp_call___millrace_queue_List__Bytes rfl rfl (hA.fact 7 (hA.dep 7 (by kernel_rfl) (by decide)))) ((lbytes_g p 0 _ a.l w1 (HA0.out.f.l.gr hgr)).mono (fun e w' ⟨h1, h2⟩ => ⟨_, h1, h2, rfl⟩)))
    | 9, _ =>
      obtain rfl := Option.some.inj ho
      exact gg_plain rfl (gstep_val (q_move rfl (show ac.eval (.tmp 0) = .pointer (some ⟨p, 0, none⟩) from hA.other 0 (by decide))) rfl)
    | 10, _ =>
      obtain rfl := Option.some.inj ho
      exact gg_plain rfl (gstep_call (rdp_call___millrace_early_Red__Mean rfl rfl (hA.fact 9 (hA.dep 9 (by kernel_rfl) (by decide)))) ((redmean_any p a.m q.slow w1 (hgr.cell HA0.out.m) (hgr.cell HA0.out.s3) HQ.out.slow).mono (fun e w' ⟨h1, h2⟩ => ⟨_, h1, h2, rfl⟩)))
    | 11, _ =>
      obtain rfl := Option.some.inj ho
      exact gg_plain rfl (gstep_val (rdp_sub rfl (hA.fact 8 (hA.dep 8 (by kernel_rfl) (by decide))) (hA.fact 10 (hA.dep 10 (by kernel_rfl) (by decide))) (CS.out)) rfl)
    | 12, _ =>
      obtain rfl := Option.some.inj ho
      exact gg_plain rfl (gstep_val (rdp_add rfl (hA.fact 3 (hA.dep 3 (by kernel_rfl) (by decide))) (hA.fact 11 (hA.dep 11 (by kernel_rfl) (by decide))) (CT.out)) rfl)
    | 13, _ =>
      obtain rfl := Option.some.inj ho
      exact gg_plain rfl (gstep_val (q_nil rfl (hA.fact 0 (hA.dep 0 (by kernel_rfl) (by decide)))) rfl)
    | 14, _ =>
      obtain rfl := Option.some.inj ho
      exact gg_plain rfl (gstep_val (rdp_fa_early_Red_3 rfl (hA.fact 13 (hA.dep 13 (by kernel_rfl) (by decide)))) rfl)
    | k + 15, hk => exact absurd (show k + 15 < 15 from hk) (by omega)
  · intro vs w5 hg5 hv
    have HGX := Lib.hid ((Gr.refl w0).drew.trans hg5)
    have v24 : vs 12 = .int .i64 (redM q a) := hv 12 (by omega)
    have v26 : vs 14 = .pointer (some ⟨p, 11, none⟩) := hv 14 (by omega)
    clear hv hg5
    simp only [putN, List.drop_succ_cons, List.drop_zero, List.getElem?_cons_succ, List.getElem?_cons_zero]
    generalize vs 12 = z24 at *
    subst v24
    generalize vs 14 = z26 at *
    subst v26
    generalize vs 0 = z12 at *
    generalize vs 1 = z13 at *
    generalize vs 2 = z14 at *
    generalize vs 3 = z15 at *
    generalize vs 4 = z16 at *
    generalize vs 5 = z17 at *
    generalize vs 6 = z18 at *
    generalize vs 7 = z19 at *
    generalize vs 8 = z20 at *
    generalize vs 9 = z21 at *
    generalize vs 10 = z22 at *
    generalize vs 11 = z23 at *
    generalize vs 13 = z25 at *
    have HA5 := Lib.hid (HA0.out.gr HGX.out)
    have d11 := HA5.out.m
    have f11 := HA5.out.mf
    have HA6 := Lib.hid (HA5.out.set_m (redM q a))
    go_upto_block 0 with (go_at_call 17; refine (redmean_any p (redM q a) q.slow _ HA6.out.m HA6.out.s3 HQ.out.slow).mono ?_; rintro e w7 ⟨rfl, hg7⟩; have HA7 := Lib.hid (HA6.out.gr hg7); have HG7 := Lib.hid hg7; clear hg7)
    have HXN := Lib.hid (show ¬ xb = p from fun e => by have h1 := HX0.out.2; have h2 := HPL.out; omega)
    have HX7 := Lib.hid (((HX0.out.1.gr HGX.out).sav (.set p 11 (.int .i64 (redM q a))) HXN.out).gr HG7.out)
    have HS7 := Lib.hid (show Sav (fun g => g = p) w0 w7 from ((Sav.of_gr HGX.out).then (.set p 11 _)).then (.of_gr HG7.out))
    clear HA6 HA5 d11 f11
    have HMM := Lib.hid (mean_in HNX.out.1 HNX.out.2)
    generalize mean q.slow (redM q a) = mm at *
    obtain ⟨s0, s1, s2, t0, tf, m0, mf, c0, cf⟩ : w7.cell? ⟨p, 5, none⟩ = some (.int .i64 q.low) ∧ w7.cell? ⟨p, 6, none⟩ = some (.int .i64 q.high) ∧ w7.cell? ⟨p, 7, none⟩ = some (.int .i64 q.often) ∧ w7.cell? ⟨p, 10, none⟩ = some tv ∧ w7.frozen? ⟨p, 10, none⟩ = false ∧ w7.cell? ⟨p, 11, none⟩ = some (.int .i64 (redM q a)) ∧ w7.frozen? ⟨p, 11, none⟩ = false ∧ w7.cell? ⟨p, 12, none⟩ = some (.int .i64 a.c) ∧ w7.frozen? ⟨p, 12, none⟩ = false := ⟨HA7.out.s0, HA7.out.s1, HA7.out.s2, HA7.out.t, HA7.out.tf, HA7.out.m, HA7.out.mf, HA7.out.c, HA7.out.cf⟩
    go_cut [7] (fun s7 wx => s7 = .bool (redHit q a mm).1 ∧ ∃ tv', Hid (RedAt wx p v tv' q a.l (redM q a) (redHit q a mm).2.1 (redHit q a mm).2.2) ∧ Hid (Sav (fun g => g = p) w7 wx) ∧ Hid (∀ g, tv'.ownBlock = some g → tv.ownBlock = some g))
    case first =>
      by_cases c1 : mm < q.low
      · have HH := Lib.hid (redHit_lo (a := a) c1)
        go_wp2
        go_meet
        exact ⟨by rw [HH.out], tv, Lib.hid (by rw [HH.out]; exact HA7.out.set_c 0), Lib.hid (.set p 12 _), Lib.hid (fun _ => id)⟩
      · by_cases c2 : q.high ≤ mm
        · have HH := Lib.hid (redHit_hi (a := a) c1 c2)
          go_wp2
          go_meet
          exact ⟨by rw [HH.out], tv, Lib.hid (by rw [HH.out]; exact HA7.out), Lib.hid (.refl _ _), Lib.hid (fun _ => id)⟩
        · have HBB := Lib.hid (red_bounds HQ.out HOK.out (by have := HN2.out; omega) (show q.low ≤ mm from by omega) (show mm < q.high from by omega))
          have D1 := Lib.hid (show IntKind.i64.wrap (mm - q.low) = mm - q.low from by have := HBB.out.1; rw [IntKind.wrap_i64]; omega)
          have D2 := Lib.hid (show IntKind.i64.wrap (q.often * (mm - q.low)) = redO q mm from by have := HBB.out.2.1; rw [IntKind.wrap_i64]; unfold redO at *; omega)
          have D3 := Lib.hid (show IntKind.i64.wrap (q.high - q.low) = q.high - q.low from by have h1 := HQ.out.low; have h2 := HQ.out.lt; have h3 := HQ.out.high; rw [IntKind.wrap_i64]; omega)
          have D4 := Lib.hid (show wrap64 (wrap64 (1000 * (q.high - q.low)) - wrap64 (a.c * redO q mm)) = redRest q a.c mm from by
            have h1 := HQ.out.low
            have h2 := HQ.out.lt
            have h3 := HQ.out.high
            have h4 := HBB.out.2.2
            unfold redRest at *
            unfold wrap64
            omega)
          go_upto_region 4 with fail
          have d1 := D1.out
          have d2 := D2.out
          have d3 := D3.out
          go_quiet (fail)
          obtain ⟨w8, hw8⟩ : ∃ w8, w8 = w7.drewN nq := ⟨_, rfl⟩
          have HA8 : Hid (RedAt w8 p v tv q a.l (redM q a) a.c a.used) := Lib.hid (by rw [hw8]; exact HA7.out.gr ((Gr.refl _).drewN _))
          have HS8 : Hid (Sav (fun g => g = p) w7 w8) := Lib.hid (by rw [hw8]; exact .of_gr ((Gr.refl _).drewN _))
          rw [← hw8]
          clear hw8 d1 d2 d3 s0 s1 s2 t0 tf m0 mf c0 cf
          have hc0 := HA8.out.c
          have hcf := HA8.out.cf
          go_upto_region 6 with fail
          rw [D4.out]
          have D5 := Lib.hid (show wrap64 (a.c + 1) = a.c + 1 from by have h1 := HOK.out.c; have h2 := HN2.out; unfold wrap64; omega)
          by_cases c3 : redRest q a.c mm ≤ 0
          · have HH := Lib.hid (redHit_full c1 c2 c3)
            go_wp2
            rw [D5.out]
            go_meet
            exact ⟨by rw [HH.out], tv, Lib.hid (by rw [HH.out]; exact HA8.out.set_c _), Lib.hid (HS8.out.then (.set p 12 _)), Lib.hid (fun _ => id)⟩
          · have HH := Lib.hid (redHit_draw c1 c2 c3)
            have HDB := Lib.hid (q.draw_in a.used)
            have HDR := Lib.hid (redraw_any HA8.out HQ.out.tape)
            generalize q.draw a.used = d at *
            have D6 := Lib.hid (show wrap64 (d * redRest q a.c mm) = d * redRest q a.c mm from by
              have h1 := HDB.out
              have h2 := HBB.out.2.2.2
              have h3 : 0 ≤ d * redRest q a.c mm := Int.mul_nonneg h1.1 (by omega)
              have h4 : d * redRest q a.c mm ≤ 1000 * 1000000000 := Int.mul_le_mul (by omega) h2.2 (by omega) (by omega)
              unfold wrap64
              omega)
            have D7 := Lib.hid (show wrap64 (1000 * redO q mm) = 1000 * redO q mm from by have h1 := HBB.out.2.1; unfold wrap64; omega)
            have D8 := Lib.hid c3
            clear hc0 hcf
            go_upto_region 7 with (go_at_call 97; refine (HDR.out).mono ?_; rintro e w9 ⟨rfl, tv', ha, hs, ho⟩; have HA9 := Lib.hid ha; have HS9 := Lib.hid hs; have HO9 := Lib.hid ho; clear ha hs ho)
            have hc0 := HA9.out.c
            have hcf := HA9.out.cf
            rw [D6.out, D7.out]
            go_wp2
            rw [D5.out]
            go_meet
            exact ⟨by rw [HH.out], tv', Lib.hid (by rw [HH.out]; exact HA9.out.set_c _), Lib.hid ((HS8.out.then HS9.out).then (.set p 12 _)), HO9⟩
    case rest =>
      obtain ⟨rfl, tv', HA9, HS9, HO9⟩ := hcut
      have HHB := Lib.hid (redHit_ok (mm := mm) HOK.out)
      generalize redHit q a mm = dd at *
      obtain ⟨hit, c', used'⟩ := dd
      simp only [] at HPUT HA9 HHB ⊢
      have HX9 := Lib.hid (HX7.out.sav HS9.out HXN.out)
      have HS0 := Lib.hid (show Sav (LFoot p v) w wc from (Sav.of_gr HG0.out).then ((HS7.out.then HS9.out).mono fun g e => .inl e))
      have HXW := Lib.hid HX0.out.2
      clear s0 s1 s2 t0 tf m0 mf c0 cf HS7 HX7 HA7 HG7 HX0
      cases hit with
      | false =>
        have HPB := Lib.hid (show redPut q a now x (redM q a) (false, c', used') = (⟨((fifo q.P q.R false).put a.l now x).1, redM q a, c', used'⟩, ((fifo q.P q.R false).put a.l now x).2) from rfl)
        obtain ⟨⟨x0, x1, x2, x3, x4, x5⟩, _⟩ := HX9.out
        go_upto_region 17 with fail
        go_region_with (go_at_call 76; refine (fput_any p v a.l q.P q.R false now x _ (HA9.out.f.gr (Gr.refl wc).drew) HQ.out.P HQ.out.R (by have h1 := HOK.out.l.few; have h2 := HOK.out.l.n; omega) HOK.out.l.lens (by have h1 := HGP.out.len; omega)).mono ?_; rintro e w10 ⟨r, v', rfl, hrow, hd⟩; have HRR := Lib.hid hrow; have HDD := Lib.hid hd; clear hrow hd)
        go_wp2
        go_ret
        rw [HPUT.out, HPB.out]
        have hsz := HS0.out.size
        exact ⟨_, v', tv', rfl, HRR.out, (HA9.out.gr (Gr.refl wc).drew).fifo HDD.out, HS0.out.then ((Sav.of_gr (Gr.refl wc).drew).then HDD.out.sav.sav), fun g hg => (HDD.out.own g hg).imp id (fun h1 => Nat.le_trans hsz h1), HO9.out⟩
      | true =>
        have HA10 := Lib.hid (HA9.out.set_c 0)
        have c12 := HA9.out.c
        have f12 := HA9.out.cf
        have s4 := HA9.out.s4
        have hxn := HXN.out
        have hxn2 : ¬ p = xb := fun e => hxn e.symm
        have hsv : Sav (fun g => g = p) wc (wc.setCell ⟨p, 12, none⟩ (.int .i64 0)) := .set p 12 _
        have HX10 := Lib.hid (HX9.out.sav hsv hxn)
        have HS10 := Lib.hid (HS0.out.then (hsv.mono fun g e => .inl e))
        clear hsv
        obtain ⟨⟨x0, x1, x2, x3, x4, x5⟩, f0, f1, f2, f3, f4, f5⟩ := HX9.out
        cases hmk : q.mark with
        | false =>
          rw [hmk] at s4
          have HPB := Lib.hid (show redPut q a now x (redM q a) (true, c', used') = (⟨a.l, redM q a, 0, used'⟩, [x]) from by unfold redPut; simp [hmk])
          clear hmk
          go_wp2
          go_ret
          rw [HPUT.out, HPB.out]
          exact ⟨_, v, tv', rfl, RowH.one _ (wc.setCell ⟨p, 12, none⟩ (.int .i64 0)) x (by simp), HA10.out.gr ((Gr.refl _).alloc _), HS10.out.then (.of_gr ((Gr.refl _).alloc _)), fun _ => .inl, HO9.out⟩
        | true =>
          rw [hmk] at s4
          have HPB := Lib.hid (show redPut q a now x (redM q a) (true, c', used') = (⟨((fifo q.P q.R false).put a.l now (marked x)).1, redM q a, 0, used'⟩, ((fifo q.P q.R false).put a.l now (marked x)).2) from by unfold redPut; simp [hmk])
          clear hmk
          go_upto_region 17 with fail
          obtain ⟨w11, hw11⟩ : ∃ w11, w11 = (wc.setCell ⟨p, 12, none⟩ (.int .i64 0)).setCell ⟨xb, 4, none⟩ (.int .i64 255) := ⟨_, rfl⟩
          have hs11 : Sav (fun g => g = xb) (wc.setCell ⟨p, 12, none⟩ (.int .i64 0)) w11 := by rw [hw11]; exact .set xb 4 _
          have HX11 : Hid (HelAt w11 xb 0 (marked x)) := Lib.hid (by
            rw [hw11]
            obtain ⟨⟨y0, y1, y2, y3, y4, y5⟩, _⟩ := HX10.out
            exact ⟨cell_so y0 (by simp), cell_so y1 (by simp), cell_so y2 (by simp), cell_so y3 (by simp), cell_ss y4, cell_so y5 (by simp)⟩)
          have HA11 := Lib.hid (HA10.out.sav hs11 hxn2 (fun g hg e => by have h1 := HA.out.f.l.row.lt hg; have h2 := HXW.out; omega) (fun g hg e => by have h1 := (HA.out.ap g (HO9.out g hg)).2.2; have h2 := HXW.out; omega))
          have HS11 := Lib.hid (show Sav (LFoot p v) w w11 from HS10.out.trans hs11 (fun g e => .inr (by have h2 := HXW.out; omega)))
          rw [← hw11]
          clear hw11 hs11 x0 x1 x2 x3 x4 x5 f0 f1 f2 f3 f4 f5 c12 f12 s4
          obtain ⟨x0, x1, x2, x3, x4, x5⟩ := HX11.out
          go_region_with (go_at_call 76; refine (fput_any p v a.l q.P q.R false now (marked x) _ (HA11.out.f.gr (Gr.refl w11).drew) HQ.out.P HQ.out.R (by have h1 := HOK.out.l.few; have h2 := HOK.out.l.n; omega) HOK.out.l.lens (by have h1 := HGP.out.marked.len; omega)).mono ?_; rintro e w10 ⟨r, v', rfl, hrow, hd⟩; have HRR := Lib.hid hrow; have HDD := Lib.hid hd; clear hrow hd)
          go_wp2
          go_ret
          rw [HPUT.out, HPB.out]
          have hsz := HS11.out.size
          exact ⟨_, v', tv', rfl, HRR.out, (HA11.out.gr (Gr.refl w11).drew).fifo HDD.out, HS11.out.then ((Sav.of_gr (Gr.refl w11).drew).then HDD.out.sav.sav), fun g hg => (HDD.out.own g hg).imp id (fun h1 => Nat.le_trans hsz h1), HO9.out⟩
end Go.Proofs.YtbpofdfehcbppaaDoor

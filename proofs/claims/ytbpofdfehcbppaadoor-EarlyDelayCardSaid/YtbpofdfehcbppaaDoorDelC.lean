/-
  The program's Delay: pull. (Printed by gendel.py.)
-/
import Derived.Test.YtbpofdfehcbppaaDoorDelB
import Derived.BigGuardPart
import Derived.BigRegion
import Derived.Deep.RegionWith
import Derived.Deep.DeepCutAuto
import Derived.Deep.CutBlock
namespace Go.Proofs.YtbpofdfehcbppaaDoor
open Go.RowKit Go.Extern.Stop Go.Stop Go.Extern

section
variable {ev : Operand → Value} {o : Oper} {w : World} {x y z : Operand} {u : Value}
theorem dlp_fa_queue_Held_0 {p o' : Nat} (ho : o.op = .fieldAddr 139 x 0) (h : ev x = .pointer (some ⟨p, o', none⟩)) : (execOp ev o).run Tryd.prog w = .ok (.value (.pointer (some ⟨p, o', none⟩))) w := by
  simp [execOp, ho, h, go_sem]
theorem dlp_fa_api_Item_0 {p o' : Nat} (ho : o.op = .fieldAddr 103 x 0) (h : ev x = .pointer (some ⟨p, o', none⟩)) : (execOp ev o).run Tryd.prog w = .ok (.value (.pointer (some ⟨p, o', none⟩))) w := by
  simp [execOp, ho, h, go_sem]
theorem dlp_sub {m n r : Int} (ho : o.op = .binOp .sub 3 x y 3) (h : ev x = .int .i64 m) (k : ev y = .int .i64 n) (hb : IntKind.i64.wrap (m - n) = r) : (execOp ev o).run Tryd.prog w = .ok (.value (.int .i64 r)) w := by
  subst hb
  simp [execOp, ho, h, k, go_sem]
theorem dlp_fa_early_Delay_1 {p o' : Nat} (ho : o.op = .fieldAddr 71 x 1) (h : ev x = .pointer (some ⟨p, o', none⟩)) : (execOp ev o).run Tryd.prog w = .ok (.value (.pointer (some ⟨p, o' + 5, none⟩))) w := by
  simp [execOp, ho, h, go_sem]
theorem dlp_lss {m n : Int} {b : Bool} (ho : o.op = .binOp .lss 3 x y 3) (h : ev x = .int .i64 m) (k : ev y = .int .i64 n) (hb : decide (m < n) = b) : (execOp ev o).run Tryd.prog w = .ok (.value (.bool b)) w := by
  subst hb
  simp [execOp, ho, h, k, go_sem]
theorem dlp_fa_early_Delay_0 {p o' : Nat} (ho : o.op = .fieldAddr 71 x 0) (h : ev x = .pointer (some ⟨p, o', none⟩)) : (execOp ev o).run Tryd.prog w = .ok (.value (.pointer (some ⟨p, o', none⟩))) w := by
  simp [execOp, ho, h, go_sem]
theorem dlp_fa_queue_Fifo_0 {p o' : Nat} (ho : o.op = .fieldAddr 35 x 0) (h : ev x = .pointer (some ⟨p, o', none⟩)) : (execOp ev o).run Tryd.prog w = .ok (.value (.pointer (some ⟨p, o', none⟩))) w := by
  simp [execOp, ho, h, go_sem]
theorem dlp_call___millrace_queue_List__Len {x0 : Operand} {v0 : Value} (ho : o.op = .call { callee := .value (.func 75), args := #[x0], argTypes := #[33] }) (hf : ev (.func 75) = .func (.func 75) #[] #[]) (h0 : ev x0 = v0) : (execOp ev o).run Tryd.prog w = .ok (.enter 75 #[v0]) w := by
  simp [execOp, ho, hf, h0, resolve, invoke, go_sem]
theorem dlp_eql {m n : Int} {b : Bool} (ho : o.op = .binOp .eql 3 x y 3) (h : ev x = .int .i64 m) (k : ev y = .int .i64 n) (hb : decide (m = n) = b) : (execOp ev o).run Tryd.prog w = .ok (.value (.bool b)) w := by
  subst hb
  simp [execOp, ho, h, k, go_sem]
  rfl
end

theorem dnext_nil (x : Hel) (hx : x = Hel.zero) (p : Nat) (v : Value) (P : Int) (w : World) (h : FifoAt w p v [] P 1000000 false) :
    Calls Tryd.prog 81 #[.pointer (some ⟨p, 0, none⟩)] w fun e w' => ∃ v', e = .returned (.tuple #[.agg #[.int .i64 x.t, .int .i64 x.len, .int .i64 x.flow, .int .i64 x.band, .int .i64 x.mark, .int .i64 x.n], .bool false]) ∧ FifoDid w w' p v v' [] P 1000000 false := by
  subst hx
  exact fnext_any p v [] P 1000000 false 0 w h (Nat.zero_le _) (fun _ h => by cases h)
theorem dnext_cons (p : Nat) (v : Value) (x : Hel) (r : List Hel) (P : Int) (w : World) (h : FifoAt w p v (x :: r) P 1000000 false) (hn : (x :: r).length ≤ 900) (hl : Lens (x :: r)) :
    Calls Tryd.prog 81 #[.pointer (some ⟨p, 0, none⟩)] w fun e w' => ∃ v', e = .returned (.tuple #[.agg #[.int .i64 x.t, .int .i64 x.len, .int .i64 x.flow, .int .i64 x.band, .int .i64 x.mark, .int .i64 x.n], .bool true]) ∧ FifoDid w w' p v v' r P 1000000 false :=
  fnext_any p v (x :: r) P 1000000 false 0 w h hn hl
/-- What a pull leaves. -/
def DelDid (w w' : World) (p : Nat) (v : Value) (q : DelP) (a : DelS) : Prop := ∃ v', DelAt w' p v' q a.l a.ab a.d a.nx a.ct ∧ Sav (LFoot p v) w w' ∧ ∀ g, v'.ownBlock = some g → v.ownBlock = some g ∨ w.heap.size ≤ g
set_option maxRecDepth 100000 in
set_option maxHeartbeats 4000000 in
theorem delpull_nil (p : Nat) (v : Value) (q : DelP) (a : DelS) (now : Int) (w : World) (h : DelAt w p v q [] a.ab a.d a.nx a.ct) :
    Calls Tryd.prog 100 #[.pointer (some ⟨p, 0, none⟩), .int .i64 now] w fun e w' => e = .returned (.tuple #[Hel.zero.val, .bool false, .bool false]) ∧ DelDid w w' p v q ⟨[], -1, a.d, a.nx, a.ct⟩ := by
  obtain ⟨x, hx⟩ : ∃ x, x = Hel.zero := ⟨_, rfl⟩
  rw [← hx]
  have HNX := Lib.hid (fun w h => dnext_nil x hx p v q.P w h)
  clear hx
  have HA := Lib.hid h
  have HPL := Lib.hid h.lt
  have HVL := Lib.hid (fun g hg => h.f.l.row.lt (g := g) hg)
  clear h
  go_enter Tryd.func100, Tryd.ntmps100
  go_upto_region 1 with fail
  obtain ⟨w0, hw0⟩ : ∃ w0, w0 = w.alloc (.cells #[.int .i64 0, .int .i64 0, .int .i64 0, .int .i64 0, .int .i64 0, .int .i64 0] 139) := ⟨_, rfl⟩
  obtain ⟨rb, hrb⟩ : ∃ rb, rb = w.heap.size := ⟨_, rfl⟩
  have HR0 : Hid (HelRes w0 rb .zero ∧ rb = w.heap.size) := Lib.hid (by rw [hw0]; exact ⟨helRes_new w .zero hrb, hrb⟩)
  have HG0 : Hid (Gr w w0) := Lib.hid (by rw [hw0]; exact (Gr.refl _).alloc _)
  have HA0 := Lib.hid (HA.out.gr HG0.out)
  rw [← hw0, ← hrb]
  clear hw0 hrb
  go_upto_region 2 with (go_at_call 81; refine (HNX.out _ HA0.out.f).mono ?_; rintro e w1 ⟨v', rfl, hd⟩; have HD := Lib.hid hd; clear hd)
  obtain ⟨w2, hw2⟩ : ∃ w2, w2 = w1.alloc (.cells #[.int .i64 x.t, .int .i64 x.len, .int .i64 x.flow, .int .i64 x.band, .int .i64 x.mark, .int .i64 x.n] 139) := ⟨_, rfl⟩
  obtain ⟨xb, hxb⟩ : ∃ xb, xb = w1.heap.size := ⟨_, rfl⟩
  have HG2 : Hid (Gr w1 w2) := Lib.hid (by rw [hw2]; exact (Gr.refl _).alloc _)
  have HX2 : Hid (HelAt w2 xb 0 x ∧ xb = w1.heap.size) := Lib.hid (by rw [hw2]; exact ⟨held_new w1 x hxb, hxb⟩)
  have HA2 := Lib.hid ((HA0.out.fifo HD.out).gr HG2.out)
  have HRP := Lib.hid (show ¬ rb = p from fun e => by have := HR0.out.2; have := HPL.out; omega)
  have HXP := Lib.hid (show ¬ xb = p from fun e => by have h1 := HX2.out.2; have h2 := HPL.out; have h3 := HG0.out.size; have h4 := HD.out.sav.sav.size; omega)
  have HXR := Lib.hid (show rb < xb from by have h1 := HX2.out.2; have h2 := HR0.out.1.at_.c0; have h3 : rb < w0.heap.size := cell_lt h2; have h4 := HD.out.sav.sav.size; omega)
  have HR2 := Lib.hid ((HR0.out.1.sav HD.out.sav.sav (fun e => e.elim HRP.out (fun e => by have h1 := HVL.out rb e; have h2 := HR0.out.2; omega))).gr HG2.out)
  have HS2 := Lib.hid (show Sav (LFoot p v) w w2 from ((Sav.of_gr HG0.out).then HD.out.sav.sav).then (.of_gr HG2.out))
  have HO2 := Lib.hid (show ∀ g, v'.ownBlock = some g → v.ownBlock = some g ∨ w.heap.size ≤ g from fun g hg => (HD.out.own g hg).imp id (Nat.le_trans HG0.out.size))
  have HVR := Lib.hid (show ∀ g, v'.ownBlock = some g → ¬ g = rb from fun g hg e => (HD.out.own g hg).elim (fun h1 => by have h2 := HVL.out g h1; have h3 := HR0.out.2; omega) (fun h1 => by have h2 := HR0.out.1.at_.c0; have h3 : rb < w0.heap.size := cell_lt h2; omega))
  rw [← hw2, ← hxb]
  clear hw2 hxb
  obtain ⟨ab0, abf, sp0⟩ := And.intro HA2.out.ab (And.intro HA2.out.abf HA2.out.s1)
  obtain ⟨x0, x1, x2, x3, x4, x5⟩ := HX2.out.1
  go_upto_region 4 with fail
  obtain ⟨w3, hw3⟩ : ∃ w3, w3 = w2.setCell ⟨p, 7, none⟩ (.int .i64 (-1)) := ⟨_, rfl⟩
  have HS3 : Hid (Sav (fun g => g = p) w2 w3) := Lib.hid (by rw [hw3]; exact .set p 7 _)
  have HA3 : Hid (DelAt w3 p v' q [] (-1) a.d a.nx a.ct) := Lib.hid (by rw [hw3]; exact HA2.out.set_ab _)
  rw [← hw3]
  clear hw3 ab0 abf sp0 x0 x1 x2 x3 x4 x5
  have HR3 := Lib.hid (HR2.out.sav HS3.out HRP.out)
  have HX3 := Lib.hid (HX2.out.1.sav HS3.out HXP.out)
  have HSW := Lib.hid (show Sav (LFoot p v) w w3 from HS2.out.then (HS3.out.mono fun g e => .inl e))
  obtain ⟨⟨r0, r1, r2, r3, r4, r5⟩, s0, s1, s2, s3, s4, s5⟩ := HR3.out
  obtain ⟨x0, x1, x2, x3, x4, x5⟩ := HX3.out
  go_wp2
  obtain ⟨w9, hw9⟩ : ∃ w9, w9 = ((((((w3.setCell ⟨rb, 0, none⟩ (.int .i64 x.t)).setCell ⟨rb, 1, none⟩ (.int .i64 x.len)).setCell ⟨rb, 2, none⟩ (.int .i64 x.flow)).setCell ⟨rb, 3, none⟩ (.int .i64 x.band)).setCell ⟨rb, 4, none⟩ (.int .i64 x.mark)).setCell ⟨rb, 5, none⟩ (.int .i64 x.n)) := ⟨_, rfl⟩
  have HR9 := Lib.hid (show HelRes w9 rb x ∧ Sav (fun q => q = rb) w3 w9 from by rw [hw9]; exact hel_set6 HR3.out x)
  rw [← hw9]
  clear hw9 r0 r1 r2 r3 r4 r5 s0 s1 s2 s3 s4 s5 x0 x1 x2 x3 x4 x5
  obtain ⟨⟨q0, q1, q2, q3, q4, q5⟩, _⟩ := HR9.out.1
  exact bodyPost_ret (v := .tuple #[.agg #[.int .i64 x.t, .int .i64 x.len, .int .i64 x.flow, .int .i64 x.band, .int .i64 x.mark, .int .i64 x.n], .bool false, .bool false]) (by simp [results, Tryd.results100, go_sem, q0, q1, q2, q3, q4, q5]) rfl
    ⟨rfl, v', HA3.out.sav HR9.out.2 (fun e => HRP.out e.symm) HVR.out, HSW.out.trans HR9.out.2 (fun g e => .inr (by have := HR0.out.2; omega)), HO2.out⟩
set_option maxRecDepth 100000 in
set_option maxHeartbeats 4000000 in
theorem delpull_cons (p : Nat) (v : Value) (q : DelP) (hq : q.Ok) (a : DelS) (n : Nat) (x : Hel) (r : List Hel) (hl : a.l = x :: r) (ok : DelOk q a n) (now : Int) (hnow : Now now) (w : World) (h : DelAt w p v q (x :: r) a.ab a.d a.nx a.ct) :
    Calls Tryd.prog 100 #[.pointer (some ⟨p, 0, none⟩), .int .i64 now] w fun e w' => e = .returned (.tuple #[(delPull q a now).2.1.val, .bool (delPull q a now).2.2.1, .bool (delPull q a now).2.2.2]) ∧ DelDid w w' p v q (delPull q a now).1 := by
  have hok := ok.l
  rw [hl] at hok
  have HNX := Lib.hid (fun w h => dnext_cons p v x r q.P w h (by have := hok.few; have := hok.n; omega) hok.lens)
  have hxt := ok.t x (by rw [hl]; exact List.mem_cons_self ..)
  have hn1 := hnow.1
  have hn2 := hnow.2
  have ht1 := hq.target
  have ht2 := hq.span
  have CS := Lib.hid (show IntKind.i64.wrap (now - x.t) = now - x.t from by rw [IntKind.wrap_i64]; omega)
  have CT := Lib.hid (show wrap64 (now + q.span) = now + q.span from by unfold wrap64; omega)
  have HRN := Lib.hid (show r.length ≤ 900 from by have h1 := hok.few; have h2 := hok.n; simp at h1; omega)
  clear hok
  by_cases c1 : now - x.t < q.target
  · rw [delPull_low hl (.inl c1)]
    have C1 := Lib.hid (decide_eq_true c1)
    clear hxt hn1 hn2 ht1 ht2 c1 hl ok hnow hq
    have HA := Lib.hid h
    have HPL := Lib.hid h.lt
    have HVL := Lib.hid (fun g hg => h.f.l.row.lt (g := g) hg)
    clear h
    go_enter Tryd.func100, Tryd.ntmps100
    go_upto_region 1 with fail
    obtain ⟨w0, hw0⟩ : ∃ w0, w0 = w.alloc (.cells #[.int .i64 0, .int .i64 0, .int .i64 0, .int .i64 0, .int .i64 0, .int .i64 0] 139) := ⟨_, rfl⟩
    obtain ⟨rb, hrb⟩ : ∃ rb, rb = w.heap.size := ⟨_, rfl⟩
    have HR0 : Hid (HelRes w0 rb .zero ∧ rb = w.heap.size) := Lib.hid (by rw [hw0]; exact ⟨helRes_new w .zero hrb, hrb⟩)
    have HG0 : Hid (Gr w w0) := Lib.hid (by rw [hw0]; exact (Gr.refl _).alloc _)
    have HA0 := Lib.hid (HA.out.gr HG0.out)
    rw [← hw0, ← hrb]
    clear hw0 hrb
    go_upto_region 2 with (go_at_call 81; refine (HNX.out _ HA0.out.f).mono ?_; rintro e w1 ⟨v', rfl, hd⟩; have HD := Lib.hid hd; clear hd)
    obtain ⟨w2, hw2⟩ : ∃ w2, w2 = w1.alloc (.cells #[.int .i64 x.t, .int .i64 x.len, .int .i64 x.flow, .int .i64 x.band, .int .i64 x.mark, .int .i64 x.n] 139) := ⟨_, rfl⟩
    obtain ⟨xb, hxb⟩ : ∃ xb, xb = w1.heap.size := ⟨_, rfl⟩
    have HG2 : Hid (Gr w1 w2) := Lib.hid (by rw [hw2]; exact (Gr.refl _).alloc _)
    have HX2 : Hid (HelAt w2 xb 0 x ∧ xb = w1.heap.size) := Lib.hid (by rw [hw2]; exact ⟨held_new w1 x hxb, hxb⟩)
    have HA2 := Lib.hid ((HA0.out.fifo HD.out).gr HG2.out)
    have HRP := Lib.hid (show ¬ rb = p from fun e => by have := HR0.out.2; have := HPL.out; omega)
    have HXP := Lib.hid (show ¬ xb = p from fun e => by have h1 := HX2.out.2; have h2 := HPL.out; have h3 := HG0.out.size; have h4 := HD.out.sav.sav.size; omega)
    have HXR := Lib.hid (show rb < xb from by have h1 := HX2.out.2; have h2 := HR0.out.1.at_.c0; have h3 : rb < w0.heap.size := cell_lt h2; have h4 := HD.out.sav.sav.size; omega)
    have HR2 := Lib.hid ((HR0.out.1.sav HD.out.sav.sav (fun e => e.elim HRP.out (fun e => by have h1 := HVL.out rb e; have h2 := HR0.out.2; omega))).gr HG2.out)
    have HS2 := Lib.hid (show Sav (LFoot p v) w w2 from ((Sav.of_gr HG0.out).then HD.out.sav.sav).then (.of_gr HG2.out))
    have HO2 := Lib.hid (show ∀ g, v'.ownBlock = some g → v.ownBlock = some g ∨ w.heap.size ≤ g from fun g hg => (HD.out.own g hg).imp id (Nat.le_trans HG0.out.size))
    have HVR := Lib.hid (show ∀ g, v'.ownBlock = some g → ¬ g = rb from fun g hg e => (HD.out.own g hg).elim (fun h1 => by have h2 := HVL.out g h1; have h3 := HR0.out.2; omega) (fun h1 => by have h2 := HR0.out.1.at_.c0; have h3 : rb < w0.heap.size := cell_lt h2; omega))
    rw [← hw2, ← hxb]
    clear hw2 hxb
    obtain ⟨ab0, abf, sp0⟩ := And.intro HA2.out.ab (And.intro HA2.out.abf HA2.out.s1)
    obtain ⟨x0, x1, x2, x3, x4, x5⟩ := HX2.out.1
    go_upto_region 5 with fail
    refine wp_region_gg (n := 17) [Fg.eq (.int .i64 now), Fg.eq (.pointer (some ⟨xb, 0, none⟩)), Fg.eq (.pointer (some ⟨xb, 0, none⟩)), Fg.eq (.int .i64 x.t), Fg.eq (.int .i64 (now - x.t)), Fg.eq (.pointer (some ⟨p, 0, none⟩)), Fg.eq (.pointer (some ⟨p, 0, none⟩)), Fg.eq (.pointer (some ⟨p, 5, none⟩)), Fg.eq (.int .i64 q.target), Fg.eq (.bool true), Fg.eq (.bool true), Fg.eq undef, Fg.eq undef, Fg.eq undef, Fg.eq undef, Fg.eq undef, Fg.eq undef] [23, 24, 25, 26, 27, 28, 29, 30, 31, 32, 33, 34, 35, 36, 37, 38, 39] (by kernel_rfl) (by kernel_rfl) (by kernel_rfl) ?_ ?_
    · intro L i o' ac w1 hi ho hA
      have hgr : Gr w2 w1 := (Gr.refl w2).drew.trans hA.gr
      clear ab0 abf sp0 x0 x1 x2 x3 x4 x5
      match i, hi with
      | 0, _ =>
        obtain rfl := Option.some.inj ho
        exact gg_plain rfl (gstep_val (q_move rfl (show ac.eval (.tmp 1) = .int .i64 now from hA.other 1 (by decide))) rfl)
      | 1, _ =>
        obtain rfl := Option.some.inj ho
        exact gg_plain rfl (gstep_val (dlp_fa_queue_Held_0 rfl (show ac.eval (.tmp 7) = .pointer (some ⟨xb, 0, none⟩) from hA.other 7 (by decide))) rfl)
      | 2, _ =>
        obtain rfl := Option.some.inj ho
        exact gg_plain rfl (gstep_val (dlp_fa_api_Item_0 rfl (hA.fact 1 (hA.dep 1 (by kernel_rfl) (by decide)))) rfl)
      | 3, _ =>
        obtain rfl := Option.some.inj ho
        exact gg_plain rfl (gstep_val (q_loadI rfl (hA.fact 2 (hA.dep 2 (by kernel_rfl) (by decide))) (hgr.cell HX2.out.1.c0)) rfl)
      | 4, _ =>
        obtain rfl := Option.some.inj ho
        exact gg_plain rfl (gstep_val (dlp_sub rfl (hA.fact 0 (hA.dep 0 (by kernel_rfl) (by decide))) (hA.fact 3 (hA.dep 3 (by kernel_rfl) (by decide))) (CS.out)) rfl)
      | 5, _ =>
        obtain rfl := Option.some.inj ho
        exact gg_plain rfl (gstep_val (q_move rfl (show ac.eval (.tmp 0) = .pointer (some ⟨p, 0, none⟩) from hA.other 0 (by decide))) rfl)
      | 6, _ =>
        obtain rfl := Option.some.inj ho
        exact gg_plain rfl (gstep_val (q_nil rfl (hA.fact 5 (hA.dep 5 (by kernel_rfl) (by decide)))) rfl)
      | 7, _ =>
        obtain rfl := Option.some.inj ho
        exact gg_plain rfl (gstep_val (dlp_fa_early_Delay_1 rfl (hA.fact 6 (hA.dep 6 (by kernel_rfl) (by decide)))) rfl)
      | 8, _ =>
        obtain rfl := Option.some.inj ho
        exact gg_plain rfl (gstep_val (q_loadI rfl (hA.fact 7 (hA.dep 7 (by kernel_rfl) (by decide))) (hgr.cell HA2.out.s0)) rfl)
      | 9, _ =>
        obtain rfl := Option.some.inj ho
        exact gg_plain rfl (gstep_val (dlp_lss rfl (hA.fact 4 (hA.dep 4 (by kernel_rfl) (by decide))) (hA.fact 8 (hA.dep 8 (by kernel_rfl) (by decide))) (C1.out)) rfl)
      | 10, _ =>
        obtain rfl := Option.some.inj ho
        exact gg_plain rfl (gstep_val (q_move rfl (hA.fact 9 (hA.dep 9 (by kernel_rfl) (by decide)))) rfl)
      | 11, _ =>
        obtain rfl := Option.some.inj ho
        exact gg_no (b := false) rfl (hA.fact 10 (hA.dep 10 (by kernel_rfl) (by decide))) rfl
      | 12, _ =>
        obtain rfl := Option.some.inj ho
        exact gg_no (b := false) rfl (hA.fact 10 (hA.dep 10 (by kernel_rfl) (by decide))) rfl
      | 13, _ =>
        obtain rfl := Option.some.inj ho
        exact gg_no (b := false) rfl (hA.fact 10 (hA.dep 10 (by kernel_rfl) (by decide))) rfl
      | 14, _ =>
        obtain rfl := Option.some.inj ho
        exact gg_no (b := false) rfl (hA.fact 10 (hA.dep 10 (by kernel_rfl) (by decide))) rfl
      | 15, _ =>
        obtain rfl := Option.some.inj ho
        exact gg_no (b := false) rfl (hA.fact 10 (hA.dep 10 (by kernel_rfl) (by decide))) rfl
      | 16, _ =>
        obtain rfl := Option.some.inj ho
        exact gg_no (b := false) rfl (hA.fact 10 (hA.dep 10 (by kernel_rfl) (by decide))) rfl
      | k + 17, hk => exact absurd (show k + 17 < 17 from hk) (by omega)
    · intro vs w5 hg5 hv
      have HGX := Lib.hid ((Gr.refl w2).drew.trans hg5)
      have v33 : vs 10 = .bool true := hv 10 (by omega)
      have v39 : vs 16 = undef := hv 16 (by omega)
      clear hv hg5
      simp only [putN, List.drop_succ_cons, List.drop_zero, List.getElem?_cons_succ, List.getElem?_cons_zero]
      generalize vs 10 = z33 at *
      subst v33
      generalize vs 16 = z39 at *
      subst v39
      generalize vs 0 = z23 at *
      generalize vs 1 = z24 at *
      generalize vs 2 = z25 at *
      generalize vs 3 = z26 at *
      generalize vs 4 = z27 at *
      generalize vs 5 = z28 at *
      generalize vs 6 = z29 at *
      generalize vs 7 = z30 at *
      generalize vs 8 = z31 at *
      generalize vs 9 = z32 at *
      generalize vs 11 = z34 at *
      generalize vs 12 = z35 at *
      generalize vs 13 = z36 at *
      generalize vs 14 = z37 at *
      generalize vs 15 = z38 at *
      have HAX := Lib.hid (HA2.out.gr HGX.out)
      have HRX := Lib.hid (HR2.out.gr HGX.out)
      have HXX := Lib.hid (HX2.out.1.gr HGX.out)
      have HSX := Lib.hid (HS2.out.then (.of_gr HGX.out))
      clear ab0 abf sp0 x0 x1 x2 x3 x4 x5
      obtain ⟨ab0, abf, sp0⟩ := And.intro HAX.out.ab (And.intro HAX.out.abf HAX.out.s1)
      obtain ⟨x0, x1, x2, x3, x4, x5⟩ := HXX.out
      go_upto_region 7 with fail
      obtain ⟨w3, hw3⟩ : ∃ w3, w3 = w5.setCell ⟨p, 7, none⟩ (.int .i64 (-1)) := ⟨_, rfl⟩
      have HS3 : Hid (Sav (fun g => g = p) w5 w3) := Lib.hid (by rw [hw3]; exact .set p 7 _)
      have HA3 : Hid (DelAt w3 p v' q r (-1) a.d a.nx a.ct) := Lib.hid (by rw [hw3]; exact HAX.out.set_ab _)
      rw [← hw3]
      clear hw3 ab0 abf sp0 x0 x1 x2 x3 x4 x5
      have HR3 := Lib.hid (HRX.out.sav HS3.out HRP.out)
      have HX3 := Lib.hid (HXX.out.sav HS3.out HXP.out)
      have HSW := Lib.hid (show Sav (LFoot p v) w w3 from HSX.out.then (HS3.out.mono fun g e => .inl e))
      obtain ⟨⟨r0, r1, r2, r3, r4, r5⟩, s0, s1, s2, s3, s4, s5⟩ := HR3.out
      obtain ⟨x0, x1, x2, x3, x4, x5⟩ := HX3.out
      go_wp2
      obtain ⟨w9, hw9⟩ : ∃ w9, w9 = ((((((w3.setCell ⟨rb, 0, none⟩ (.int .i64 x.t)).setCell ⟨rb, 1, none⟩ (.int .i64 x.len)).setCell ⟨rb, 2, none⟩ (.int .i64 x.flow)).setCell ⟨rb, 3, none⟩ (.int .i64 x.band)).setCell ⟨rb, 4, none⟩ (.int .i64 x.mark)).setCell ⟨rb, 5, none⟩ (.int .i64 x.n)) := ⟨_, rfl⟩
      have HR9 := Lib.hid (show HelRes w9 rb x ∧ Sav (fun q => q = rb) w3 w9 from by rw [hw9]; exact hel_set6 HR3.out x)
      rw [← hw9]
      clear hw9 r0 r1 r2 r3 r4 r5 s0 s1 s2 s3 s4 s5 x0 x1 x2 x3 x4 x5
      obtain ⟨⟨q0, q1, q2, q3, q4, q5⟩, _⟩ := HR9.out.1
      exact bodyPost_ret (v := .tuple #[.agg #[.int .i64 x.t, .int .i64 x.len, .int .i64 x.flow, .int .i64 x.band, .int .i64 x.mark, .int .i64 x.n], .bool true, .bool false]) (by simp [results, Tryd.results100, go_sem, q0, q1, q2, q3, q4, q5]) rfl
        ⟨rfl, v', HA3.out.sav HR9.out.2 (fun e => HRP.out e.symm) HVR.out, HSW.out.trans HR9.out.2 (fun g e => .inr (by have := HR0.out.2; omega)), HO2.out⟩
  · have C1 := Lib.hid (decide_eq_false c1)
    by_cases c2 : r = []
    · rw [delPull_low hl (.inr c2)]
      have C2 := Lib.hid (decide_eq_true (show (r.length : Int) = 0 from by rw [c2]; rfl))
      clear hxt hn1 hn2 ht1 ht2 c1 c2 hl ok hnow hq
      have HA := Lib.hid h
      have HPL := Lib.hid h.lt
      have HVL := Lib.hid (fun g hg => h.f.l.row.lt (g := g) hg)
      clear h
      go_enter Tryd.func100, Tryd.ntmps100
      go_upto_region 1 with fail
      obtain ⟨w0, hw0⟩ : ∃ w0, w0 = w.alloc (.cells #[.int .i64 0, .int .i64 0, .int .i64 0, .int .i64 0, .int .i64 0, .int .i64 0] 139) := ⟨_, rfl⟩
      obtain ⟨rb, hrb⟩ : ∃ rb, rb = w.heap.size := ⟨_, rfl⟩
      have HR0 : Hid (HelRes w0 rb .zero ∧ rb = w.heap.size) := Lib.hid (by rw [hw0]; exact ⟨helRes_new w .zero hrb, hrb⟩)
      have HG0 : Hid (Gr w w0) := Lib.hid (by rw [hw0]; exact (Gr.refl _).alloc _)
      have HA0 := Lib.hid (HA.out.gr HG0.out)
      rw [← hw0, ← hrb]
      clear hw0 hrb
      go_upto_region 2 with (go_at_call 81; refine (HNX.out _ HA0.out.f).mono ?_; rintro e w1 ⟨v', rfl, hd⟩; have HD := Lib.hid hd; clear hd)
      obtain ⟨w2, hw2⟩ : ∃ w2, w2 = w1.alloc (.cells #[.int .i64 x.t, .int .i64 x.len, .int .i64 x.flow, .int .i64 x.band, .int .i64 x.mark, .int .i64 x.n] 139) := ⟨_, rfl⟩
      obtain ⟨xb, hxb⟩ : ∃ xb, xb = w1.heap.size := ⟨_, rfl⟩
      have HG2 : Hid (Gr w1 w2) := Lib.hid (by rw [hw2]; exact (Gr.refl _).alloc _)
      have HX2 : Hid (HelAt w2 xb 0 x ∧ xb = w1.heap.size) := Lib.hid (by rw [hw2]; exact ⟨held_new w1 x hxb, hxb⟩)
      have HA2 := Lib.hid ((HA0.out.fifo HD.out).gr HG2.out)
      have HRP := Lib.hid (show ¬ rb = p from fun e => by have := HR0.out.2; have := HPL.out; omega)
      have HXP := Lib.hid (show ¬ xb = p from fun e => by have h1 := HX2.out.2; have h2 := HPL.out; have h3 := HG0.out.size; have h4 := HD.out.sav.sav.size; omega)
      have HXR := Lib.hid (show rb < xb from by have h1 := HX2.out.2; have h2 := HR0.out.1.at_.c0; have h3 : rb < w0.heap.size := cell_lt h2; have h4 := HD.out.sav.sav.size; omega)
      have HR2 := Lib.hid ((HR0.out.1.sav HD.out.sav.sav (fun e => e.elim HRP.out (fun e => by have h1 := HVL.out rb e; have h2 := HR0.out.2; omega))).gr HG2.out)
      have HS2 := Lib.hid (show Sav (LFoot p v) w w2 from ((Sav.of_gr HG0.out).then HD.out.sav.sav).then (.of_gr HG2.out))
      have HO2 := Lib.hid (show ∀ g, v'.ownBlock = some g → v.ownBlock = some g ∨ w.heap.size ≤ g from fun g hg => (HD.out.own g hg).imp id (Nat.le_trans HG0.out.size))
      have HVR := Lib.hid (show ∀ g, v'.ownBlock = some g → ¬ g = rb from fun g hg e => (HD.out.own g hg).elim (fun h1 => by have h2 := HVL.out g h1; have h3 := HR0.out.2; omega) (fun h1 => by have h2 := HR0.out.1.at_.c0; have h3 : rb < w0.heap.size := cell_lt h2; omega))
      rw [← hw2, ← hxb]
      clear hw2 hxb
      obtain ⟨ab0, abf, sp0⟩ := And.intro HA2.out.ab (And.intro HA2.out.abf HA2.out.s1)
      obtain ⟨x0, x1, x2, x3, x4, x5⟩ := HX2.out.1
      go_upto_region 5 with fail
      refine wp_region_gg (n := 17) [Fg.eq (.int .i64 now), Fg.eq (.pointer (some ⟨xb, 0, none⟩)), Fg.eq (.pointer (some ⟨xb, 0, none⟩)), Fg.eq (.int .i64 x.t), Fg.eq (.int .i64 (now - x.t)), Fg.eq (.pointer (some ⟨p, 0, none⟩)), Fg.eq (.pointer (some ⟨p, 0, none⟩)), Fg.eq (.pointer (some ⟨p, 5, none⟩)), Fg.eq (.int .i64 q.target), Fg.eq (.bool false), Fg.eq (.bool false), Fg.eq (.pointer (some ⟨p, 0, none⟩)), Fg.eq (.pointer (some ⟨p, 0, none⟩)), Fg.eq (.pointer (some ⟨p, 0, none⟩)), Fg.eq (.pointer (some ⟨p, 0, none⟩)), Fg.eq ((.int .i64 (r.length : Int))), Fg.eq (.bool true)] [23, 24, 25, 26, 27, 28, 29, 30, 31, 32, 33, 34, 35, 36, 37, 38, 39] (by kernel_rfl) (by kernel_rfl) (by kernel_rfl) ?_ ?_
      · intro L i o' ac w1 hi ho hA
        have hgr : Gr w2 w1 := (Gr.refl w2).drew.trans hA.gr
        clear ab0 abf sp0 x0 x1 x2 x3 x4 x5
        match i, hi with
        | 0, _ =>
          obtain rfl := Option.some.inj ho
          exact gg_plain rfl (gstep_val (q_move rfl (show ac.eval (.tmp 1) = .int .i64 now from hA.other 1 (by decide))) rfl)
        | 1, _ =>
          obtain rfl := Option.some.inj ho
          exact gg_plain rfl (gstep_val (dlp_fa_queue_Held_0 rfl (show ac.eval (.tmp 7) = .pointer (some ⟨xb, 0, none⟩) from hA.other 7 (by decide))) rfl)
        | 2, _ =>
          obtain rfl := Option.some.inj ho
          exact gg_plain rfl (gstep_val (dlp_fa_api_Item_0 rfl (hA.fact 1 (hA.dep 1 (by kernel_rfl) (by decide)))) rfl)
        | 3, _ =>
          obtain rfl := Option.some.inj ho
          exact gg_plain rfl (gstep_val (q_loadI rfl (hA.fact 2 (hA.dep 2 (by kernel_rfl) (by decide))) (hgr.cell HX2.out.1.c0)) rfl)
        | 4, _ =>
          obtain rfl := Option.some.inj ho
          exact gg_plain rfl (gstep_val (dlp_sub rfl (hA.fact 0 (hA.dep 0 (by kernel_rfl) (by decide))) (hA.fact 3 (hA.dep 3 (by kernel_rfl) (by decide))) (CS.out)) rfl)
        | 5, _ =>
          obtain rfl := Option.some.inj ho
          exact gg_plain rfl (gstep_val (q_move rfl (show ac.eval (.tmp 0) = .pointer (some ⟨p, 0, none⟩) from hA.other 0 (by decide))) rfl)
        | 6, _ =>
          obtain rfl := Option.some.inj ho
          exact gg_plain rfl (gstep_val (q_nil rfl (hA.fact 5 (hA.dep 5 (by kernel_rfl) (by decide)))) rfl)
        | 7, _ =>
          obtain rfl := Option.some.inj ho
          exact gg_plain rfl (gstep_val (dlp_fa_early_Delay_1 rfl (hA.fact 6 (hA.dep 6 (by kernel_rfl) (by decide)))) rfl)
        | 8, _ =>
          obtain rfl := Option.some.inj ho
          exact gg_plain rfl (gstep_val (q_loadI rfl (hA.fact 7 (hA.dep 7 (by kernel_rfl) (by decide))) (hgr.cell HA2.out.s0)) rfl)
        | 9, _ =>
          obtain rfl := Option.some.inj ho
          exact gg_plain rfl (gstep_val (dlp_lss rfl (hA.fact 4 (hA.dep 4 (by kernel_rfl) (by decide))) (hA.fact 8 (hA.dep 8 (by kernel_rfl) (by decide))) (C1.out)) rfl)
        | 10, _ =>
          obtain rfl := Option.some.inj ho
          exact gg_plain rfl (gstep_val (q_move rfl (hA.fact 9 (hA.dep 9 (by kernel_rfl) (by decide)))) rfl)
        | 11, _ =>
          obtain rfl := Option.some.inj ho
          exact gg_yes (b := false) rfl (hA.fact 10 (hA.dep 10 (by kernel_rfl) (by decide))) (gstep_val (q_move rfl (show ac.eval (.tmp 0) = .pointer (some ⟨p, 0, none⟩) from hA.other 0 (by decide))) rfl)
        | 12, _ =>
          obtain rfl := Option.some.inj ho
          exact gg_yes (b := false) rfl (hA.fact 10 (hA.dep 10 (by kernel_rfl) (by decide))) (gstep_val (q_nil rfl (hA.fact 11 (hA.dep 11 (by kernel_rfl) (by decide)))) rfl)
        | 13, _ =>
          obtain rfl := Option.some.inj ho
          exact gg_yes (b := false) rfl (hA.fact 10 (hA.dep 10 (by kernel_rfl) (by decide))) (gstep_val (dlp_fa_early_Delay_0 rfl (hA.fact 12 (hA.dep 12 (by kernel_rfl) (by decide)))) rfl)
        | 14, _ =>
          obtain rfl := Option.some.inj ho
          exact gg_yes (b := false) rfl (hA.fact 10 (hA.dep 10 (by kernel_rfl) (by decide))) (gstep_val (dlp_fa_queue_Fifo_0 rfl (hA.fact 13 (hA.dep 13 (by kernel_rfl) (by decide)))) rfl)
        | 15, _ =>
          obtain rfl := Option.some.inj ho
          exact gg_yes (b := false) rfl (hA.fact 10 (hA.dep 10 (by kernel_rfl) (by decide))) (gstep_call (dlp_call___millrace_queue_List__Len rfl rfl (hA.fact 14 (hA.dep 14 (by kernel_rfl) (by decide)))) ((llen_g p 0 _ r w1 (HA2.out.f.l.gr hgr)).mono (fun e w' ⟨h1, h2⟩ => ⟨_, h1, h2, rfl⟩)))
        | 16, _ =>
          obtain rfl := Option.some.inj ho
          exact gg_yes (b := false) rfl (hA.fact 10 (hA.dep 10 (by kernel_rfl) (by decide))) (gstep_val (dlp_eql rfl (hA.fact 15 (hA.dep 15 (by kernel_rfl) (by decide))) rfl (C2.out)) rfl)
        | k + 17, hk => exact absurd (show k + 17 < 17 from hk) (by omega)
      · intro vs w5 hg5 hv
        have HGX := Lib.hid ((Gr.refl w2).drew.trans hg5)
        have v33 : vs 10 = .bool false := hv 10 (by omega)
        have v39 : vs 16 = .bool true := hv 16 (by omega)
        clear hv hg5
        simp only [putN, List.drop_succ_cons, List.drop_zero, List.getElem?_cons_succ, List.getElem?_cons_zero]
        generalize vs 10 = z33 at *
        subst v33
        generalize vs 16 = z39 at *
        subst v39
        generalize vs 0 = z23 at *
        generalize vs 1 = z24 at *
        generalize vs 2 = z25 at *
        generalize vs 3 = z26 at *
        generalize vs 4 = z27 at *
        generalize vs 5 = z28 at *
        generalize vs 6 = z29 at *
        generalize vs 7 = z30 at *
        generalize vs 8 = z31 at *
        generalize vs 9 = z32 at *
        generalize vs 11 = z34 at *
        generalize vs 12 = z35 at *
        generalize vs 13 = z36 at *
        generalize vs 14 = z37 at *
        generalize vs 15 = z38 at *
        have HAX := Lib.hid (HA2.out.gr HGX.out)
        have HRX := Lib.hid (HR2.out.gr HGX.out)
        have HXX := Lib.hid (HX2.out.1.gr HGX.out)
        have HSX := Lib.hid (HS2.out.then (.of_gr HGX.out))
        clear ab0 abf sp0 x0 x1 x2 x3 x4 x5
        obtain ⟨ab0, abf, sp0⟩ := And.intro HAX.out.ab (And.intro HAX.out.abf HAX.out.s1)
        obtain ⟨x0, x1, x2, x3, x4, x5⟩ := HXX.out
        go_upto_region 7 with fail
        obtain ⟨w3, hw3⟩ : ∃ w3, w3 = w5.setCell ⟨p, 7, none⟩ (.int .i64 (-1)) := ⟨_, rfl⟩
        have HS3 : Hid (Sav (fun g => g = p) w5 w3) := Lib.hid (by rw [hw3]; exact .set p 7 _)
        have HA3 : Hid (DelAt w3 p v' q r (-1) a.d a.nx a.ct) := Lib.hid (by rw [hw3]; exact HAX.out.set_ab _)
        rw [← hw3]
        clear hw3 ab0 abf sp0 x0 x1 x2 x3 x4 x5
        have HR3 := Lib.hid (HRX.out.sav HS3.out HRP.out)
        have HX3 := Lib.hid (HXX.out.sav HS3.out HXP.out)
        have HSW := Lib.hid (show Sav (LFoot p v) w w3 from HSX.out.then (HS3.out.mono fun g e => .inl e))
        obtain ⟨⟨r0, r1, r2, r3, r4, r5⟩, s0, s1, s2, s3, s4, s5⟩ := HR3.out
        obtain ⟨x0, x1, x2, x3, x4, x5⟩ := HX3.out
        go_wp2
        obtain ⟨w9, hw9⟩ : ∃ w9, w9 = ((((((w3.setCell ⟨rb, 0, none⟩ (.int .i64 x.t)).setCell ⟨rb, 1, none⟩ (.int .i64 x.len)).setCell ⟨rb, 2, none⟩ (.int .i64 x.flow)).setCell ⟨rb, 3, none⟩ (.int .i64 x.band)).setCell ⟨rb, 4, none⟩ (.int .i64 x.mark)).setCell ⟨rb, 5, none⟩ (.int .i64 x.n)) := ⟨_, rfl⟩
        have HR9 := Lib.hid (show HelRes w9 rb x ∧ Sav (fun q => q = rb) w3 w9 from by rw [hw9]; exact hel_set6 HR3.out x)
        rw [← hw9]
        clear hw9 r0 r1 r2 r3 r4 r5 s0 s1 s2 s3 s4 s5 x0 x1 x2 x3 x4 x5
        obtain ⟨⟨q0, q1, q2, q3, q4, q5⟩, _⟩ := HR9.out.1
        exact bodyPost_ret (v := .tuple #[.agg #[.int .i64 x.t, .int .i64 x.len, .int .i64 x.flow, .int .i64 x.band, .int .i64 x.mark, .int .i64 x.n], .bool true, .bool false]) (by simp [results, Tryd.results100, go_sem, q0, q1, q2, q3, q4, q5]) rfl
          ⟨rfl, v', HA3.out.sav HR9.out.2 (fun e => HRP.out e.symm) HVR.out, HSW.out.trans HR9.out.2 (fun g e => .inr (by have := HR0.out.2; omega)), HO2.out⟩
    · have C2 := Lib.hid (decide_eq_false (show ¬ (r.length : Int) = 0 from fun e => c2 (List.eq_nil_of_length_eq_zero (by omega))))
      by_cases c3 : a.ab < 0
      · rw [delPull_new hl (fun e => e.elim c1 c2) c3]
        clear hxt hn1 hn2 ht1 ht2 c1 c2 hl ok hnow hq
        have HA := Lib.hid h
        have HPL := Lib.hid h.lt
        have HVL := Lib.hid (fun g hg => h.f.l.row.lt (g := g) hg)
        clear h
        go_enter Tryd.func100, Tryd.ntmps100
        go_upto_region 1 with fail
        obtain ⟨w0, hw0⟩ : ∃ w0, w0 = w.alloc (.cells #[.int .i64 0, .int .i64 0, .int .i64 0, .int .i64 0, .int .i64 0, .int .i64 0] 139) := ⟨_, rfl⟩
        obtain ⟨rb, hrb⟩ : ∃ rb, rb = w.heap.size := ⟨_, rfl⟩
        have HR0 : Hid (HelRes w0 rb .zero ∧ rb = w.heap.size) := Lib.hid (by rw [hw0]; exact ⟨helRes_new w .zero hrb, hrb⟩)
        have HG0 : Hid (Gr w w0) := Lib.hid (by rw [hw0]; exact (Gr.refl _).alloc _)
        have HA0 := Lib.hid (HA.out.gr HG0.out)
        rw [← hw0, ← hrb]
        clear hw0 hrb
        go_upto_region 2 with (go_at_call 81; refine (HNX.out _ HA0.out.f).mono ?_; rintro e w1 ⟨v', rfl, hd⟩; have HD := Lib.hid hd; clear hd)
        obtain ⟨w2, hw2⟩ : ∃ w2, w2 = w1.alloc (.cells #[.int .i64 x.t, .int .i64 x.len, .int .i64 x.flow, .int .i64 x.band, .int .i64 x.mark, .int .i64 x.n] 139) := ⟨_, rfl⟩
        obtain ⟨xb, hxb⟩ : ∃ xb, xb = w1.heap.size := ⟨_, rfl⟩
        have HG2 : Hid (Gr w1 w2) := Lib.hid (by rw [hw2]; exact (Gr.refl _).alloc _)
        have HX2 : Hid (HelAt w2 xb 0 x ∧ xb = w1.heap.size) := Lib.hid (by rw [hw2]; exact ⟨held_new w1 x hxb, hxb⟩)
        have HA2 := Lib.hid ((HA0.out.fifo HD.out).gr HG2.out)
        have HRP := Lib.hid (show ¬ rb = p from fun e => by have := HR0.out.2; have := HPL.out; omega)
        have HXP := Lib.hid (show ¬ xb = p from fun e => by have h1 := HX2.out.2; have h2 := HPL.out; have h3 := HG0.out.size; have h4 := HD.out.sav.sav.size; omega)
        have HXR := Lib.hid (show rb < xb from by have h1 := HX2.out.2; have h2 := HR0.out.1.at_.c0; have h3 : rb < w0.heap.size := cell_lt h2; have h4 := HD.out.sav.sav.size; omega)
        have HR2 := Lib.hid ((HR0.out.1.sav HD.out.sav.sav (fun e => e.elim HRP.out (fun e => by have h1 := HVL.out rb e; have h2 := HR0.out.2; omega))).gr HG2.out)
        have HS2 := Lib.hid (show Sav (LFoot p v) w w2 from ((Sav.of_gr HG0.out).then HD.out.sav.sav).then (.of_gr HG2.out))
        have HO2 := Lib.hid (show ∀ g, v'.ownBlock = some g → v.ownBlock = some g ∨ w.heap.size ≤ g from fun g hg => (HD.out.own g hg).imp id (Nat.le_trans HG0.out.size))
        have HVR := Lib.hid (show ∀ g, v'.ownBlock = some g → ¬ g = rb from fun g hg e => (HD.out.own g hg).elim (fun h1 => by have h2 := HVL.out g h1; have h3 := HR0.out.2; omega) (fun h1 => by have h2 := HR0.out.1.at_.c0; have h3 : rb < w0.heap.size := cell_lt h2; omega))
        rw [← hw2, ← hxb]
        clear hw2 hxb
        obtain ⟨ab0, abf, sp0⟩ := And.intro HA2.out.ab (And.intro HA2.out.abf HA2.out.s1)
        obtain ⟨x0, x1, x2, x3, x4, x5⟩ := HX2.out.1
        go_upto_region 5 with fail
        refine wp_region_gg (n := 17) [Fg.eq (.int .i64 now), Fg.eq (.pointer (some ⟨xb, 0, none⟩)), Fg.eq (.pointer (some ⟨xb, 0, none⟩)), Fg.eq (.int .i64 x.t), Fg.eq (.int .i64 (now - x.t)), Fg.eq (.pointer (some ⟨p, 0, none⟩)), Fg.eq (.pointer (some ⟨p, 0, none⟩)), Fg.eq (.pointer (some ⟨p, 5, none⟩)), Fg.eq (.int .i64 q.target), Fg.eq (.bool false), Fg.eq (.bool false), Fg.eq (.pointer (some ⟨p, 0, none⟩)), Fg.eq (.pointer (some ⟨p, 0, none⟩)), Fg.eq (.pointer (some ⟨p, 0, none⟩)), Fg.eq (.pointer (some ⟨p, 0, none⟩)), Fg.eq ((.int .i64 (r.length : Int))), Fg.eq (.bool false)] [23, 24, 25, 26, 27, 28, 29, 30, 31, 32, 33, 34, 35, 36, 37, 38, 39] (by kernel_rfl) (by kernel_rfl) (by kernel_rfl) ?_ ?_
        · intro L i o' ac w1 hi ho hA
          have hgr : Gr w2 w1 := (Gr.refl w2).drew.trans hA.gr
          clear ab0 abf sp0 x0 x1 x2 x3 x4 x5
          match i, hi with
          | 0, _ =>
            obtain rfl := Option.some.inj ho
            exact gg_plain rfl (gstep_val (q_move rfl (show ac.eval (.tmp 1) = .int .i64 now from hA.other 1 (by decide))) rfl)
          | 1, _ =>
            obtain rfl := Option.some.inj ho
            exact gg_plain rfl (gstep_val (dlp_fa_queue_Held_0 rfl (show ac.eval (.tmp 7) = .pointer (some ⟨xb, 0, none⟩) from hA.other 7 (by decide))) rfl)
          | 2, _ =>
            obtain rfl := Option.some.inj ho
            exact gg_plain rfl (gstep_val (dlp_fa_api_Item_0 rfl (hA.fact 1 (hA.dep 1 (by kernel_rfl) (by decide)))) rfl)
          | 3, _ =>
            obtain rfl := Option.some.inj ho
            exact gg_plain rfl (gstep_val (q_loadI rfl (hA.fact 2 (hA.dep 2 (by kernel_rfl) (by decide))) (hgr.cell HX2.out.1.c0)) rfl)
          | 4, _ =>
            obtain rfl := Option.some.inj ho
            exact gg_plain rfl (gstep_val (dlp_sub rfl (hA.fact 0 (hA.dep 0 (by kernel_rfl) (by decide))) (hA.fact 3 (hA.dep 3 (by kernel_rfl) (by decide))) (CS.out)) rfl)
          | 5, _ =>
            obtain rfl := Option.some.inj ho
            exact gg_plain rfl (gstep_val (q_move rfl (show ac.eval (.tmp 0) = .pointer (some ⟨p, 0, none⟩) from hA.other 0 (by decide))) rfl)
          | 6, _ =>
            obtain rfl := Option.some.inj ho
            exact gg_plain rfl (gstep_val (q_nil rfl (hA.fact 5 (hA.dep 5 (by kernel_rfl) (by decide)))) rfl)
          | 7, _ =>
            obtain rfl := Option.some.inj ho
            exact gg_plain rfl (gstep_val (dlp_fa_early_Delay_1 rfl (hA.fact 6 (hA.dep 6 (by kernel_rfl) (by decide)))) rfl)
          | 8, _ =>
            obtain rfl := Option.some.inj ho
            exact gg_plain rfl (gstep_val (q_loadI rfl (hA.fact 7 (hA.dep 7 (by kernel_rfl) (by decide))) (hgr.cell HA2.out.s0)) rfl)
          | 9, _ =>
            obtain rfl := Option.some.inj ho
            exact gg_plain rfl (gstep_val (dlp_lss rfl (hA.fact 4 (hA.dep 4 (by kernel_rfl) (by decide))) (hA.fact 8 (hA.dep 8 (by kernel_rfl) (by decide))) (C1.out)) rfl)
          | 10, _ =>
            obtain rfl := Option.some.inj ho
            exact gg_plain rfl (gstep_val (q_move rfl (hA.fact 9 (hA.dep 9 (by kernel_rfl) (by decide)))) rfl)
          | 11, _ =>
            obtain rfl := Option.some.inj ho
            exact gg_yes (b := false) rfl (hA.fact 10 (hA.dep 10 (by kernel_rfl) (by decide))) (gstep_val (q_move rfl (show ac.eval (.tmp 0) = .pointer (some ⟨p, 0, none⟩) from hA.other 0 (by decide))) rfl)
          | 12, _ =>
            obtain rfl := Option.some.inj ho
            exact gg_yes (b := false) rfl (hA.fact 10 (hA.dep 10 (by kernel_rfl) (by decide))) (gstep_val (q_nil rfl (hA.fact 11 (hA.dep 11 (by kernel_rfl) (by decide)))) rfl)
          | 13, _ =>
            obtain rfl := Option.some.inj ho
            exact gg_yes (b := false) rfl (hA.fact 10 (hA.dep 10 (by kernel_rfl) (by decide))) (gstep_val (dlp_fa_early_Delay_0 rfl (hA.fact 12 (hA.dep 12 (by kernel_rfl) (by decide)))) rfl)
          | 14, _ =>
            obtain rfl := Option.some.inj ho
            exact gg_yes (b := false) rfl (hA.fact 10 (hA.dep 10 (by kernel_rfl) (by decide))) (gstep_val (dlp_fa_queue_Fifo_0 rfl (hA.fact 13 (hA.dep 13 (by kernel_rfl) (by decide)))) rfl)
          | 15, _ =>
            obtain rfl := Option.some.inj ho
            exact gg_yes (b := false) rfl (hA.fact 10 (hA.dep 10 (by kernel_rfl) (by decide))) (gstep_call (dlp_call___millrace_queue_List__Len rfl rfl (hA.fact 14 (hA.dep 14 (by kernel_rfl) (by decide)))) ((llen_g p 0 _ r w1 (HA2.out.f.l.gr hgr)).mono (fun e w' ⟨h1, h2⟩ => ⟨_, h1, h2, rfl⟩)))
          | 16, _ =>
            obtain rfl := Option.some.inj ho
            exact gg_yes (b := false) rfl (hA.fact 10 (hA.dep 10 (by kernel_rfl) (by decide))) (gstep_val (dlp_eql rfl (hA.fact 15 (hA.dep 15 (by kernel_rfl) (by decide))) rfl (C2.out)) rfl)
          | k + 17, hk => exact absurd (show k + 17 < 17 from hk) (by omega)
        · intro vs w5 hg5 hv
          have HGX := Lib.hid ((Gr.refl w2).drew.trans hg5)
          have v33 : vs 10 = .bool false := hv 10 (by omega)
          have v39 : vs 16 = .bool false := hv 16 (by omega)
          clear hv hg5
          simp only [putN, List.drop_succ_cons, List.drop_zero, List.getElem?_cons_succ, List.getElem?_cons_zero]
          generalize vs 10 = z33 at *
          subst v33
          generalize vs 16 = z39 at *
          subst v39
          generalize vs 0 = z23 at *
          generalize vs 1 = z24 at *
          generalize vs 2 = z25 at *
          generalize vs 3 = z26 at *
          generalize vs 4 = z27 at *
          generalize vs 5 = z28 at *
          generalize vs 6 = z29 at *
          generalize vs 7 = z30 at *
          generalize vs 8 = z31 at *
          generalize vs 9 = z32 at *
          generalize vs 11 = z34 at *
          generalize vs 12 = z35 at *
          generalize vs 13 = z36 at *
          generalize vs 14 = z37 at *
          generalize vs 15 = z38 at *
          have HAX := Lib.hid (HA2.out.gr HGX.out)
          have HRX := Lib.hid (HR2.out.gr HGX.out)
          have HXX := Lib.hid (HX2.out.1.gr HGX.out)
          have HSX := Lib.hid (HS2.out.then (.of_gr HGX.out))
          clear ab0 abf sp0 x0 x1 x2 x3 x4 x5
          obtain ⟨ab0, abf, sp0⟩ := And.intro HAX.out.ab (And.intro HAX.out.abf HAX.out.s1)
          obtain ⟨x0, x1, x2, x3, x4, x5⟩ := HXX.out
          go_upto_region 10 with fail
          rw [CT.out]
          obtain ⟨w3, hw3⟩ : ∃ w3, w3 = w5.setCell ⟨p, 7, none⟩ (.int .i64 (now + q.span)) := ⟨_, rfl⟩
          have HS3 : Hid (Sav (fun g => g = p) w5 w3) := Lib.hid (by rw [hw3]; exact .set p 7 _)
          have HA3 : Hid (DelAt w3 p v' q r (now + q.span) a.d a.nx a.ct) := Lib.hid (by rw [hw3]; exact HAX.out.set_ab _)
          rw [← hw3]
          clear hw3 ab0 abf sp0 x0 x1 x2 x3 x4 x5
          have HR3 := Lib.hid (HRX.out.sav HS3.out HRP.out)
          have HX3 := Lib.hid (HXX.out.sav HS3.out HXP.out)
          have HSW := Lib.hid (show Sav (LFoot p v) w w3 from HSX.out.then (HS3.out.mono fun g e => .inl e))
          obtain ⟨⟨r0, r1, r2, r3, r4, r5⟩, s0, s1, s2, s3, s4, s5⟩ := HR3.out
          obtain ⟨x0, x1, x2, x3, x4, x5⟩ := HX3.out
          go_wp2
          obtain ⟨w9, hw9⟩ : ∃ w9, w9 = ((((((w3.setCell ⟨rb, 0, none⟩ (.int .i64 x.t)).setCell ⟨rb, 1, none⟩ (.int .i64 x.len)).setCell ⟨rb, 2, none⟩ (.int .i64 x.flow)).setCell ⟨rb, 3, none⟩ (.int .i64 x.band)).setCell ⟨rb, 4, none⟩ (.int .i64 x.mark)).setCell ⟨rb, 5, none⟩ (.int .i64 x.n)) := ⟨_, rfl⟩
          have HR9 := Lib.hid (show HelRes w9 rb x ∧ Sav (fun q => q = rb) w3 w9 from by rw [hw9]; exact hel_set6 HR3.out x)
          rw [← hw9]
          clear hw9 r0 r1 r2 r3 r4 r5 s0 s1 s2 s3 s4 s5 x0 x1 x2 x3 x4 x5
          obtain ⟨⟨q0, q1, q2, q3, q4, q5⟩, _⟩ := HR9.out.1
          exact bodyPost_ret (v := .tuple #[.agg #[.int .i64 x.t, .int .i64 x.len, .int .i64 x.flow, .int .i64 x.band, .int .i64 x.mark, .int .i64 x.n], .bool true, .bool false]) (by simp [results, Tryd.results100, go_sem, q0, q1, q2, q3, q4, q5]) rfl
            ⟨rfl, v', HA3.out.sav HR9.out.2 (fun e => HRP.out e.symm) HVR.out, HSW.out.trans HR9.out.2 (fun g e => .inr (by have := HR0.out.2; omega)), HO2.out⟩
      · rw [delPull_old hl (fun e => e.elim c1 c2) c3]
        clear hxt hn1 hn2 ht1 ht2 c1 c2 hl ok hnow hq
        have HA := Lib.hid h
        have HPL := Lib.hid h.lt
        have HVL := Lib.hid (fun g hg => h.f.l.row.lt (g := g) hg)
        clear h
        go_enter Tryd.func100, Tryd.ntmps100
        go_upto_region 1 with fail
        obtain ⟨w0, hw0⟩ : ∃ w0, w0 = w.alloc (.cells #[.int .i64 0, .int .i64 0, .int .i64 0, .int .i64 0, .int .i64 0, .int .i64 0] 139) := ⟨_, rfl⟩
        obtain ⟨rb, hrb⟩ : ∃ rb, rb = w.heap.size := ⟨_, rfl⟩
        have HR0 : Hid (HelRes w0 rb .zero ∧ rb = w.heap.size) := Lib.hid (by rw [hw0]; exact ⟨helRes_new w .zero hrb, hrb⟩)
        have HG0 : Hid (Gr w w0) := Lib.hid (by rw [hw0]; exact (Gr.refl _).alloc _)
        have HA0 := Lib.hid (HA.out.gr HG0.out)
        rw [← hw0, ← hrb]
        clear hw0 hrb
        go_upto_region 2 with (go_at_call 81; refine (HNX.out _ HA0.out.f).mono ?_; rintro e w1 ⟨v', rfl, hd⟩; have HD := Lib.hid hd; clear hd)
        obtain ⟨w2, hw2⟩ : ∃ w2, w2 = w1.alloc (.cells #[.int .i64 x.t, .int .i64 x.len, .int .i64 x.flow, .int .i64 x.band, .int .i64 x.mark, .int .i64 x.n] 139) := ⟨_, rfl⟩
        obtain ⟨xb, hxb⟩ : ∃ xb, xb = w1.heap.size := ⟨_, rfl⟩
        have HG2 : Hid (Gr w1 w2) := Lib.hid (by rw [hw2]; exact (Gr.refl _).alloc _)
        have HX2 : Hid (HelAt w2 xb 0 x ∧ xb = w1.heap.size) := Lib.hid (by rw [hw2]; exact ⟨held_new w1 x hxb, hxb⟩)
        have HA2 := Lib.hid ((HA0.out.fifo HD.out).gr HG2.out)
        have HRP := Lib.hid (show ¬ rb = p from fun e => by have := HR0.out.2; have := HPL.out; omega)
        have HXP := Lib.hid (show ¬ xb = p from fun e => by have h1 := HX2.out.2; have h2 := HPL.out; have h3 := HG0.out.size; have h4 := HD.out.sav.sav.size; omega)
        have HXR := Lib.hid (show rb < xb from by have h1 := HX2.out.2; have h2 := HR0.out.1.at_.c0; have h3 : rb < w0.heap.size := cell_lt h2; have h4 := HD.out.sav.sav.size; omega)
        have HR2 := Lib.hid ((HR0.out.1.sav HD.out.sav.sav (fun e => e.elim HRP.out (fun e => by have h1 := HVL.out rb e; have h2 := HR0.out.2; omega))).gr HG2.out)
        have HS2 := Lib.hid (show Sav (LFoot p v) w w2 from ((Sav.of_gr HG0.out).then HD.out.sav.sav).then (.of_gr HG2.out))
        have HO2 := Lib.hid (show ∀ g, v'.ownBlock = some g → v.ownBlock = some g ∨ w.heap.size ≤ g from fun g hg => (HD.out.own g hg).imp id (Nat.le_trans HG0.out.size))
        have HVR := Lib.hid (show ∀ g, v'.ownBlock = some g → ¬ g = rb from fun g hg e => (HD.out.own g hg).elim (fun h1 => by have h2 := HVL.out g h1; have h3 := HR0.out.2; omega) (fun h1 => by have h2 := HR0.out.1.at_.c0; have h3 : rb < w0.heap.size := cell_lt h2; omega))
        rw [← hw2, ← hxb]
        clear hw2 hxb
        obtain ⟨ab0, abf, sp0⟩ := And.intro HA2.out.ab (And.intro HA2.out.abf HA2.out.s1)
        obtain ⟨x0, x1, x2, x3, x4, x5⟩ := HX2.out.1
        go_upto_region 5 with fail
        refine wp_region_gg (n := 17) [Fg.eq (.int .i64 now), Fg.eq (.pointer (some ⟨xb, 0, none⟩)), Fg.eq (.pointer (some ⟨xb, 0, none⟩)), Fg.eq (.int .i64 x.t), Fg.eq (.int .i64 (now - x.t)), Fg.eq (.pointer (some ⟨p, 0, none⟩)), Fg.eq (.pointer (some ⟨p, 0, none⟩)), Fg.eq (.pointer (some ⟨p, 5, none⟩)), Fg.eq (.int .i64 q.target), Fg.eq (.bool false), Fg.eq (.bool false), Fg.eq (.pointer (some ⟨p, 0, none⟩)), Fg.eq (.pointer (some ⟨p, 0, none⟩)), Fg.eq (.pointer (some ⟨p, 0, none⟩)), Fg.eq (.pointer (some ⟨p, 0, none⟩)), Fg.eq ((.int .i64 (r.length : Int))), Fg.eq (.bool false)] [23, 24, 25, 26, 27, 28, 29, 30, 31, 32, 33, 34, 35, 36, 37, 38, 39] (by kernel_rfl) (by kernel_rfl) (by kernel_rfl) ?_ ?_
        · intro L i o' ac w1 hi ho hA
          have hgr : Gr w2 w1 := (Gr.refl w2).drew.trans hA.gr
          clear ab0 abf sp0 x0 x1 x2 x3 x4 x5
          match i, hi with
          | 0, _ =>
            obtain rfl := Option.some.inj ho
            exact gg_plain rfl (gstep_val (q_move rfl (show ac.eval (.tmp 1) = .int .i64 now from hA.other 1 (by decide))) rfl)
          | 1, _ =>
            obtain rfl := Option.some.inj ho
            exact gg_plain rfl (gstep_val (dlp_fa_queue_Held_0 rfl (show ac.eval (.tmp 7) = .pointer (some ⟨xb, 0, none⟩) from hA.other 7 (by decide))) rfl)
          | 2, _ =>
            obtain rfl := Option.some.inj ho
            exact gg_plain rfl (gstep_val (dlp_fa_api_Item_0 rfl (hA.fact 1 (hA.dep 1 (by kernel_rfl) (by decide)))) rfl)
          | 3, _ =>
            obtain rfl := Option.some.inj ho
            exact gg_plain rfl (gstep_val (q_loadI rfl (hA.fact 2 (hA.dep 2 (by kernel_rfl) (by decide))) (hgr.cell HX2.out.1.c0)) rfl)
          | 4, _ =>
            obtain rfl := Option.some.inj ho
            exact gg_plain rfl (gstep_val (dlp_sub rfl (hA.fact 0 (hA.dep 0 (by kernel_rfl) (by decide))) (hA.fact 3 (hA.dep 3 (by kernel_rfl) (by decide))) (CS.out)) rfl)
          | 5, _ =>
            obtain rfl := Option.some.inj ho
            exact gg_plain rfl (gstep_val (q_move rfl (show ac.eval (.tmp 0) = .pointer (some ⟨p, 0, none⟩) from hA.other 0 (by decide))) rfl)
          | 6, _ =>
            obtain rfl := Option.some.inj ho
            exact gg_plain rfl (gstep_val (q_nil rfl (hA.fact 5 (hA.dep 5 (by kernel_rfl) (by decide)))) rfl)
          | 7, _ =>
            obtain rfl := Option.some.inj ho
            exact gg_plain rfl (gstep_val (dlp_fa_early_Delay_1 rfl (hA.fact 6 (hA.dep 6 (by kernel_rfl) (by decide)))) rfl)
          | 8, _ =>
            obtain rfl := Option.some.inj ho
            exact gg_plain rfl (gstep_val (q_loadI rfl (hA.fact 7 (hA.dep 7 (by kernel_rfl) (by decide))) (hgr.cell HA2.out.s0)) rfl)
          | 9, _ =>
            obtain rfl := Option.some.inj ho
            exact gg_plain rfl (gstep_val (dlp_lss rfl (hA.fact 4 (hA.dep 4 (by kernel_rfl) (by decide))) (hA.fact 8 (hA.dep 8 (by kernel_rfl) (by decide))) (C1.out)) rfl)
          | 10, _ =>
            obtain rfl := Option.some.inj ho
            exact gg_plain rfl (gstep_val (q_move rfl (hA.fact 9 (hA.dep 9 (by kernel_rfl) (by decide)))) rfl)
          | 11, _ =>
            obtain rfl := Option.some.inj ho
            exact gg_yes (b := false) rfl (hA.fact 10 (hA.dep 10 (by kernel_rfl) (by decide))) (gstep_val (q_move rfl (show ac.eval (.tmp 0) = .pointer (some ⟨p, 0, none⟩) from hA.other 0 (by decide))) rfl)
          | 12, _ =>
            obtain rfl := Option.some.inj ho
            exact gg_yes (b := false) rfl (hA.fact 10 (hA.dep 10 (by kernel_rfl) (by decide))) (gstep_val (q_nil rfl (hA.fact 11 (hA.dep 11 (by kernel_rfl) (by decide)))) rfl)
          | 13, _ =>
            obtain rfl := Option.some.inj ho
            exact gg_yes (b := false) rfl (hA.fact 10 (hA.dep 10 (by kernel_rfl) (by decide))) (gstep_val (dlp_fa_early_Delay_0 rfl (hA.fact 12 (hA.dep 12 (by kernel_rfl) (by decide)))) rfl)
          | 14, _ =>
            obtain rfl := Option.some.inj ho
            exact gg_yes (b := false) rfl (hA.fact 10 (hA.dep 10 (by kernel_rfl) (by decide))) (gstep_val (dlp_fa_queue_Fifo_0 rfl (hA.fact 13 (hA.dep 13 (by kernel_rfl) (by decide)))) rfl)
          | 15, _ =>
            obtain rfl := Option.some.inj ho
            exact gg_yes (b := false) rfl (hA.fact 10 (hA.dep 10 (by kernel_rfl) (by decide))) (gstep_call (dlp_call___millrace_queue_List__Len rfl rfl (hA.fact 14 (hA.dep 14 (by kernel_rfl) (by decide)))) ((llen_g p 0 _ r w1 (HA2.out.f.l.gr hgr)).mono (fun e w' ⟨h1, h2⟩ => ⟨_, h1, h2, rfl⟩)))
          | 16, _ =>
            obtain rfl := Option.some.inj ho
            exact gg_yes (b := false) rfl (hA.fact 10 (hA.dep 10 (by kernel_rfl) (by decide))) (gstep_val (dlp_eql rfl (hA.fact 15 (hA.dep 15 (by kernel_rfl) (by decide))) rfl (C2.out)) rfl)
          | k + 17, hk => exact absurd (show k + 17 < 17 from hk) (by omega)
        · intro vs w5 hg5 hv
          have HGX := Lib.hid ((Gr.refl w2).drew.trans hg5)
          have v33 : vs 10 = .bool false := hv 10 (by omega)
          have v39 : vs 16 = .bool false := hv 16 (by omega)
          clear hv hg5
          simp only [putN, List.drop_succ_cons, List.drop_zero, List.getElem?_cons_succ, List.getElem?_cons_zero]
          generalize vs 10 = z33 at *
          subst v33
          generalize vs 16 = z39 at *
          subst v39
          generalize vs 0 = z23 at *
          generalize vs 1 = z24 at *
          generalize vs 2 = z25 at *
          generalize vs 3 = z26 at *
          generalize vs 4 = z27 at *
          generalize vs 5 = z28 at *
          generalize vs 6 = z29 at *
          generalize vs 7 = z30 at *
          generalize vs 8 = z31 at *
          generalize vs 9 = z32 at *
          generalize vs 11 = z34 at *
          generalize vs 12 = z35 at *
          generalize vs 13 = z36 at *
          generalize vs 14 = z37 at *
          generalize vs 15 = z38 at *
          have HAX := Lib.hid (HA2.out.gr HGX.out)
          have HRX := Lib.hid (HR2.out.gr HGX.out)
          have HXX := Lib.hid (HX2.out.1.gr HGX.out)
          have HSX := Lib.hid (HS2.out.then (.of_gr HGX.out))
          clear ab0 abf sp0 x0 x1 x2 x3 x4 x5
          obtain ⟨ab0, abf, sp0⟩ := And.intro HAX.out.ab (And.intro HAX.out.abf HAX.out.s1)
          obtain ⟨x0, x1, x2, x3, x4, x5⟩ := HXX.out
          go_upto_region 11 with fail
          obtain ⟨⟨r0, r1, r2, r3, r4, r5⟩, s0, s1, s2, s3, s4, s5⟩ := HRX.out
          go_region
          obtain ⟨w9, hw9⟩ : ∃ w9, w9 = (((((((w5.setCell ⟨rb, 0, none⟩ (.int .i64 x.t)).setCell ⟨rb, 1, none⟩ (.int .i64 x.len)).setCell ⟨rb, 2, none⟩ (.int .i64 x.flow)).setCell ⟨rb, 3, none⟩ (.int .i64 x.band)).setCell ⟨rb, 4, none⟩ (.int .i64 x.mark)).setCell ⟨rb, 5, none⟩ (.int .i64 x.n))).drew := ⟨_, rfl⟩
          have HR9 := Lib.hid (show HelRes w9 rb x ∧ Sav (fun q => q = rb) w5 w9 from by
            rw [hw9]
            have h1 := hel_set6 HRX.out x
            exact ⟨h1.1.gr (Gr.refl _).drew, h1.2.then (.of_gr (Gr.refl _).drew)⟩)
          rw [← hw9]
          clear hw9 r0 r1 r2 r3 r4 r5 s0 s1 s2 s3 s4 s5 x0 x1 x2 x3 x4 x5 ab0 abf sp0
          obtain ⟨⟨q0, q1, q2, q3, q4, q5⟩, _⟩ := HR9.out.1
          go_wp2
          exact bodyPost_ret (v := .tuple #[.agg #[.int .i64 x.t, .int .i64 x.len, .int .i64 x.flow, .int .i64 x.band, .int .i64 x.mark, .int .i64 x.n], .bool true, .bool (decide (a.ab ≤ now))]) (by simp [results, Tryd.results100, go_sem, q0, q1, q2, q3, q4, q5]) rfl
            ⟨rfl, v', HAX.out.sav HR9.out.2 (fun e => HRP.out e.symm) HVR.out, HSX.out.trans HR9.out.2 (fun g e => .inr (by have := HR0.out.2; omega)), HO2.out⟩
end Go.Proofs.YtbpofdfehcbppaaDoor

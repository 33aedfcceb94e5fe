/-
  The program's queue that lets no more go than a bucket has, walked. (Printed by genshp.py.)
-/
import Derived.Test.YtgifghbnpdanhaaGreatDoorShpC
import Derived.Test.YtgifghbnpdanhaaGreatDoorAppH
import Derived.Test.YtgifghbnpdanhaaGreatDoorPlayB
import Derived.Test.YtgifghbnpdanhaaGreatDoorRegG
import Derived.Test.YtgifghbnpdanhaaGreatDoorRegL
import Derived.Test.YtgifghbnpdanhaaGreatDoorShaperPlaysPart2
import Derived.Test.YtgifghbnpdanhaaGreatDoorBktR
import Derived.Test.YtgifghbnpdanhaaGreatDoorShaperPlaysPart11
import Derived.BigQuiet
import Derived.BigRegion
import Derived.Deep.RegionWith
import Derived.Deep.DeepCutAuto
import Derived.Deep.CutBlock
import Derived.Deep.LoopGhost
namespace Go.Proofs.YtgifghbnpdanhaaGreatDoor
open Go.RowKit Go.Extern.Stop Go.Stop Go.Extern

section
variable {ev : Operand → Value} {o : Oper} {w : World} {x y : Operand}
theorem sh_loadQ {ad : Addr} {t : TypeId} {v : Value} (ho : o.op = .load 80 x) (h : ev x = .pointer (some ad)) (hc : w.cell? ad = some (.iface t v)) : (execOp ev o).run Tryz.prog w = .ok (.value (.iface t v)) w := by
  simp [execOp, ho, h, hc, go_sem]
end
section
variable {ev : Operand → Value} {o : Oper} {w : World} {x y z : Operand} {u : Value}
theorem sph_fa_shaper_Shaper_0 {p o' : Nat} (ho : o.op = .fieldAddr 86 x 0) (h : ev x = .pointer (some ⟨p, o', none⟩)) : (execOp ev o).run Tryz.prog w = .ok (.value (.pointer (some ⟨p, o', none⟩))) w := by
  simp [execOp, ho, h, go_sem]
theorem sph_fa_shaper_Shaper_1 {p o' : Nat} (ho : o.op = .fieldAddr 86 x 1) (h : ev x = .pointer (some ⟨p, o', none⟩)) : (execOp ev o).run Tryz.prog w = .ok (.value (.pointer (some ⟨p, o' + 1, none⟩))) w := by
  simp [execOp, ho, h, go_sem]
theorem sph_loadP__bucket_State {ad : Addr} {v : Option Addr} (ho : o.op = .load 81 x) (h : ev x = .pointer (some ad)) (hc : w.cell? ad = some (.pointer v)) : (execOp ev o).run Tryz.prog w = .ok (.value (.pointer v)) w := by
  simp [execOp, ho, h, hc, go_sem]
theorem sph_fa_shaper_Shaper_2 {p o' : Nat} (ho : o.op = .fieldAddr 86 x 2) (h : ev x = .pointer (some ⟨p, o', none⟩)) : (execOp ev o).run Tryz.prog w = .ok (.value (.pointer (some ⟨p, o' + 2, none⟩))) w := by
  simp [execOp, ho, h, go_sem]
theorem sph_loadP__queue_Held {ad : Addr} {v : Option Addr} (ho : o.op = .load 84 x) (h : ev x = .pointer (some ad)) (hc : w.cell? ad = some (.pointer v)) : (execOp ev o).run Tryz.prog w = .ok (.value (.pointer v)) w := by
  simp [execOp, ho, h, hc, go_sem]
theorem sph_fa_queue_Held_0 {p o' : Nat} (ho : o.op = .fieldAddr 134 x 0) (h : ev x = .pointer (some ⟨p, o', none⟩)) : (execOp ev o).run Tryz.prog w = .ok (.value (.pointer (some ⟨p, o', none⟩))) w := by
  simp [execOp, ho, h, go_sem]
theorem sph_fa_api_Item_1 {p o' : Nat} (ho : o.op = .fieldAddr 90 x 1) (h : ev x = .pointer (some ⟨p, o', none⟩)) : (execOp ev o).run Tryz.prog w = .ok (.value (.pointer (some ⟨p, o' + 1, none⟩))) w := by
  simp [execOp, ho, h, go_sem]
theorem sph_call___millrace_bucket_State__When {x0 x1 x2 : Operand} {v0 v1 v2 : Value} (ho : o.op = .call { callee := .value (.func 98), args := #[x0, x1, x2], argTypes := #[81, 3, 3] }) (hf : ev (.func 98) = .func (.func 98) #[] #[]) (h0 : ev x0 = v0) (h1 : ev x1 = v1) (h2 : ev x2 = v2) : (execOp ev o).run Tryz.prog w = .ok (.enter 98 #[v0, v1, v2]) w := by
  simp [execOp, ho, hf, h0, h1, h2, resolve, invoke, go_sem]
theorem sph_ext0 {a b : Value} (ho : o.op = .extract x 0) (h : ev x = .tuple #[a, b]) : (execOp ev o).run Tryz.prog w = .ok (.value a) w := by
  simp [execOp, ho, h, go_sem]
theorem sph_ext1 {a b : Value} (ho : o.op = .extract x 1) (h : ev x = .tuple #[a, b]) : (execOp ev o).run Tryz.prog w = .ok (.value b) w := by
  simp [execOp, ho, h, go_sem]
theorem sph_inv0 {q r : Value} {name : String} {f : FuncId} (hm : Meth q name f r) (ho : o.op = .call { callee := .invoke x name, args := #[], argTypes := #[] }) (h : ev x = q) : (execOp ev o).run Tryz.prog w = .ok (.enter f #[r]) w := by
  have hh := hm #[] w
  simpa [execOp, ho, h, resolve, invoke] using hh
theorem sph_add {m n r : Int} (ho : o.op = .binOp .add 3 x y 3) (h : ev x = .int .i64 m) (k : ev y = .int .i64 n) (hb : IntKind.i64.wrap (m + n) = r) : (execOp ev o).run Tryz.prog w = .ok (.value (.int .i64 r)) w := by
  subst hb
  simp [execOp, ho, h, k, go_sem]
theorem sph_pnil_eql_queue_Held (ho : o.op = .binOp .eql 84 x y 84) (h : ev x = .pointer none) (k : ev y = .pointer none) : (execOp ev o).run Tryz.prog w = .ok (.value (.bool true)) w := by
  simp [execOp, ho, h, k, go_sem]
theorem sph_pptr_eql_queue_Held {ad : Addr} (ho : o.op = .binOp .eql 84 x y 84) (h : ev x = .pointer (some ad)) (k : ev y = .pointer none) : (execOp ev o).run Tryz.prog w = .ok (.value (.bool false)) w := by
  simp [execOp, ho, h, k, go_sem]
end
section
variable {α : Type} {U : Mach α} {N0 : Nat} {S : Side U N0 (Nat → Prop)} {q : Value} {B : Bkt} {mu : α → Nat} {p tp : Nat}
set_option maxRecDepth 100000 in
set_option maxHeartbeats 1200000 in
theorem splook_any (hq : ∃ t v, q = .iface t v) (hF : ∀ b g, S.F b g ↔ b g) (A : Acts S 134 q) (hU : More S mu) (w : World) (lv nv : Value) (F : Nat → Prop) (s : Shp α) (n : Nat) (now : Int) (hn : Now now) (h : ShpAt stP nkP 134 S q B mu p tp w lv nv F s n) :
    Calls Tryz.prog 96 #[.pointer (some ⟨p, 0, none⟩), .int .i64 now] w fun e w' => e = .returned (.tuple #[]) ∧ ∃ lv' nv' F', ShpM stP nkP 134 S q B mu p tp w lv nv F w' lv' nv' F' (shLook U s now) n := by
  obtain ⟨tq, vq, rfl⟩ := hq
  have HQ : Hid (∃ t v, (Value.iface tq vq) = .iface t v) := Lib.hid ⟨_, _, rfl⟩
  have HA := Lib.hid h
  have HFF := Lib.hid hF
  have HNN : Hid (N0 ≤ w.heap.size) := Lib.hid (by have := h.n0.1; have := h.plt; omega)
  have c0 := h.c0
  have c2 := h.c2
  cases hd : s.held with
  | some x =>
    have HS := Lib.hid (shLook_some (U := U) (now := now) hd)
    obtain ⟨hp, rfl, hx⟩ : ∃ g, nv = .pointer (some ⟨g, 0, none⟩) ∧ HelAt w g 0 x := by have := h.nx; rw [hd] at this; exact this
    clear h hF A hU hn c0
    go_enter Tryz.func96, Tryz.ntmps96
    go_wp2
    go_end0
    exact ⟨rfl, lv, _, F, by rw [HS.out]; exact .start HA.out⟩
  | none =>
    obtain rfl : nv = .pointer none := by have := h.nx; rw [hd] at this; exact this
    obtain ⟨fm, rv, hm, hc⟩ := A.take
    have HPC := Lib.hid (hc w F s.a n now h.sub hn)
    have HS := Lib.hid (shLook_none (U := U) (now := now) hd)
    have hmass := hU.take h.sub hn
    have HTK := Lib.hid (hU.took h.sub hn)
    have HMS : Hid (mu s.a + s.lost.length ≤ n ∧ n ≤ 200) := Lib.hid (by have := h.mass; unfold muS at this; rw [hd] at this; simp only [Option.toList, List.length_nil] at this; omega)
    have HHD := Lib.hid hd
    generalize U.take s.a now = res at *
    obtain ⟨a1, x, L, ok⟩ := res
    have HMA := Lib.hid hmass
    simp only [] at HPC HS HMA HTK
    unfold Hel.val at HPC
    obtain ⟨i0, hi0, hz0, hz1, hz2⟩ := info_parts heldInfo
    clear hmass hc h hF A hU hn hd
    go_enter Tryz.func96, Tryz.ntmps96
    go_upto_region 2 with ((with_reducible refine wpList_here "Take" ?_); refine wpList_invoke hm rfl _ _ _ rfl rfl (ys := [.int .i64 now]) rfl HPC.out ?_; rintro e w1 ⟨v1, F1, rfl, hrow, hmv⟩; have HM1 := Lib.hid ((ShpM.start HA.out).sub HFF.out hmv (by have h1 := HMS.out; have h2 := HMA.out; unfold muS; rw [HHD.out]; simp only [Option.toList, List.length_nil]; omega)); have HL1 := Lib.hid hrow; obtain ⟨lra, lrc, rfl⟩ := hrow.shape; clear hrow hmv; refine ⟨_, rfl, ?_⟩)
    obtain ⟨w2, hw2⟩ : ∃ w2, w2 = w1.alloc (.cells #[.int .i64 x.t, .int .i64 x.len, .int .i64 x.flow, .int .i64 x.band, .int .i64 x.mark, .int .i64 x.n] 134) := ⟨_, rfl⟩
    obtain ⟨xb, hxb⟩ : ∃ xb, xb = w1.heap.size := ⟨_, rfl⟩
    have HG2 : Hid (Gr w1 w2) := Lib.hid (by rw [hw2]; exact (Gr.refl _).alloc _)
    have HX2 : Hid (HelAt w2 xb 0 x ∧ ¬ SPF nkP p tp lv (.pointer none) F1 xb ∧ w.heap.size ≤ xb) := Lib.hid ⟨by rw [hw2]; exact held_new w1 x hxb, fun e => by have := HM1.out.at_.flt HFF.out e; omega, by have := HM1.out.sav.size; omega⟩
    have HM2 := Lib.hid (HM1.out.gr HFF.out HG2.out)
    have HL2 := Lib.hid (HL1.out.gr HG2.out)
    rw [← hw2, ← hxb]
    clear hw2 hxb c0 c2
    have d0 := HM2.out.at_.c3
    go_upto_region 3 with (at_builtin; refine wpList_append_any rfl _ _ _ (by rfl) i0 Hel.zero.val Tryz.underlying72 hi0 hz0 hz1 hz2 rfl ?c1 (by rfl) HM2.out.at_.row (by rfl) HL2.out ?c2 ?_; (case c1 => (intro u hu; exact (cells_int Hel.zero u (by simpa [Hel.val, Value.cells, Hel.cells] using hu)).2)); (case c2 => (have h1 := HMS.out; have h2 := HMA.out; simp only []; omega)); intro v4 w4 hrow hgr hown; obtain ⟨ra, rc, er⟩ := hrow.shape; rw [List.length_append] at er; subst er; have HX4 := Lib.hid (HX2.out.1.sav (B := fun g => lv.ownBlock = some g) (.of_grown hgr fun _ h => h) (fun e => HX2.out.2.1 (.inr (.inr (.inl e))))); have HO4 := Lib.hid (fun g (e : (Value.slice ra (s.lost.length + L.length) rc).ownBlock = some g) => hown g e); obtain ⟨d3, e3, hm4⟩ := HM2.out.lost HFF.out HQ.out HNN.out (.of_grown hgr fun _ h => h) hrow hown (by have h1 := HMS.out; have h2 := HMA.out; unfold muS; simp only [HHD.out, Option.toList, List.length_nil, List.length_append]; omega); have HM4 := Lib.hid hm4; clear hrow hgr hown hm4)
    obtain ⟨w5, hw5⟩ : ∃ w5, w5 = w4.setCell ⟨p, 3, none⟩ (.slice ra (s.lost.length + L.length) rc) := ⟨_, rfl⟩
    have HS5 : Hid (Sav (fun g => g = p) w4 w5) := Lib.hid (by rw [hw5]; exact .set p 3 (.slice ra (s.lost.length + L.length) rc))
    rw [← hw5] at HM4 ⊢
    have HX5 : Hid (HelAt w5 xb 0 x ∧ ¬ SPF nkP p tp (.slice ra (s.lost.length + L.length) rc) (.pointer none) F1 xb ∧ w.heap.size ≤ xb) := Lib.hid ⟨HX4.out.sav HS5.out (fun e => HX2.out.2.1 (.inl e)), fun e => by
      rcases e with e | e | e | e | e
      · exact HX2.out.2.1 (.inl e)
      · exact HX2.out.2.1 (.inr (.inl e))
      · rcases HO4.out xb e with h | h
        · exact HX2.out.2.1 (.inr (.inr (.inl h)))
        · have := cell_lt HX2.out.1.c0; simp at this; omega
      · exact HX2.out.2.1 (.inr (.inr (.inr (.inl e))))
      · exact HX2.out.2.1 (.inr (.inr (.inr (.inr e)))), HX2.out.2.2⟩
    clear hw5 d0 d3 e3
    cases ok with
    | false =>
      go_wp2
      go_end0
      exact ⟨rfl, _, _, F1, by rw [HS.out]; rw [HHD.out] at HM4; exact HM4.out⟩
    | true =>
      have d2 := HM4.out.at_.c2
      have e2 := HM4.out.at_.f2
      have HML : Hid (muS mu ⟨a1, s.t, some x, s.lost ++ L⟩ ≤ n ∧ ∀ y, some x = some y → 0 ≤ y.len ∧ y.len ≤ 10000) := Lib.hid ⟨by have h1 := HMS.out; have h2 := HMA.out; unfold muS; simp only [if_true, Option.toList, List.length_nil, List.length_cons, List.length_append] at h2 ⊢; omega, fun y e => by cases e; exact HTK.out rfl⟩
      go_wp2
      go_end0
      exact ⟨rfl, _, _, F1, by rw [HS.out]; exact HM4.out.next HFF.out HQ.out HNN.out (nv' := .pointer (some ⟨xb, 0, none⟩)) (hd := some x) ⟨xb, rfl, HX5.out.1⟩ (fun g e => by cases e; exact ⟨HX5.out.2.2, HX5.out.2.1⟩) HML.out.1 HML.out.2⟩
set_option maxRecDepth 100000 in
set_option maxHeartbeats 1200000 in
theorem spput_any (hq : ∃ t v, q = .iface t v) (hF : ∀ b g, S.F b g ↔ b g) (A : Acts S 134 q) (hU : More S mu) (w : World) (lv nv : Value) (F : Nat → Prop) (s : Shp α) (n : Nat) (now : Int) (y : Hel) (hg : GoodPut now y n) (h : ShpAt stP nkP 134 S q B mu p tp w lv nv F s n) :
    Calls Tryz.prog 93 #[.pointer (some ⟨p, 0, none⟩), .int .i64 now, y.val] w fun e w' => ∃ v, e = .returned v ∧ RowH 134 w' v ((shaper U B).put s now y).2 ∧ ∃ lv' nv' F', ShpM stP nkP 134 S q B mu p tp w lv nv F w' lv' nv' F' ((shaper U B).put s now y).1 (n + 1) := by
  obtain ⟨tq, vq, rfl⟩ := hq
  have HFF := Lib.hid hF
  have HPT : Hid ((shaper U B).put s now y = if (B.r : Int) < y.len then (s, [y]) else (⟨(U.put s.a now y).1, s.t, s.held, s.lost⟩, (U.put s.a now y).2)) := Lib.hid rfl
  have hm1 : muS mu s ≤ n + 1 ∧ n + 1 ≤ 200 := ⟨Nat.le_succ_of_le h.mass.1, by have := hg.few; omega⟩
  have HM1 := Lib.hid hm1
  have HUP : Hid (ShpAt stP nkP 134 S (.iface tq vq) B mu p tp w lv nv F s (n + 1)) := Lib.hid ⟨h.c0, h.c1, h.c2, h.c3, h.f2, h.f3, h.nx, h.row, h.st, h.t0, h.t2, h.ok, hU.up h.sub hg.few, h.ap, h.pF, h.tF, h.lo, h.no, h.n0, hm1, h.lens⟩
  obtain ⟨fm, rv, hm, hc⟩ := A.put
  have HPC := Lib.hid (fun u (g : Gr w u) => hc u F s.a n now y (S.gr h.sub g) hg)
  have HST := Lib.hid (fun u (g : Gr w u) => h.gr hF g)
  have HPM := Lib.hid (hU.put h.sub hg)
  have HMS := Lib.hid h.mass
  have c0 := h.c0
  have c1 := h.c1
  have t2 := h.t2
  have hpl := h.plt
  have htl := (stP.mine h.st).lt
  generalize U.put s.a now y = res at *
  obtain ⟨a1, L⟩ := res
  simp only [] at HPT HPC HPM
  rw [HPT.out]
  unfold Hel.val at HPC ⊢
  clear hm1 hc h hF A hU hg
  by_cases hr : (B.r : Int) < y.len
  · rw [if_pos hr]
    go_enter Tryz.func93, Tryz.ntmps93
    go_upto_region 1 with fail
    obtain ⟨w0, hw0⟩ : ∃ w0, w0 = w.alloc (.cells #[.int .i64 y.t, .int .i64 y.len, .int .i64 y.flow, .int .i64 y.band, .int .i64 y.mark, .int .i64 y.n] 134) := ⟨_, rfl⟩
    obtain ⟨yb, hyb⟩ : ∃ yb, yb = w.heap.size := ⟨_, rfl⟩
    have HG0 : Hid (Gr w w0) := Lib.hid (by rw [hw0]; exact (Gr.refl _).alloc _)
    have HY0 : Hid (HelAt w0 yb 0 y) := Lib.hid (by rw [hw0]; exact held_new w y hyb)
    rw [← hw0, ← hyb]
    clear hw0 hyb
    replace c0 := HG0.out.cell c0
    replace c1 := HG0.out.cell c1
    replace t2 := HG0.out.cell t2
    obtain ⟨y0, y1, y2, y3, y4, y5⟩ := HY0.out
    go_quiet (fail)
    go_wp2
    have hgf : Gr w ((w0.drewN nq).alloc (.cells #[.int .i64 y.t, .int .i64 y.len, .int .i64 y.flow, .int .i64 y.band, .int .i64 y.mark, .int .i64 y.n] 134)) := (HG0.out.drewN nq).alloc _
    exact bodyPost_ret (v := .slice (some ⟨w0.heap.size, 0, none⟩) 1 1) (by simp [results, Tryz.results93, go_sem]) rfl
      ⟨_, rfl, RowH.one _ (w0.drewN nq) y rfl, lv, nv, F, (ShpM.start HUP.out).gr HFF.out hgf⟩
  · rw [if_neg hr]
    go_enter Tryz.func93, Tryz.ntmps93
    go_upto_region 1 with fail
    obtain ⟨w0, hw0⟩ : ∃ w0, w0 = w.alloc (.cells #[.int .i64 y.t, .int .i64 y.len, .int .i64 y.flow, .int .i64 y.band, .int .i64 y.mark, .int .i64 y.n] 134) := ⟨_, rfl⟩
    obtain ⟨yb, hyb⟩ : ∃ yb, yb = w.heap.size := ⟨_, rfl⟩
    have HG0 : Hid (Gr w w0) := Lib.hid (by rw [hw0]; exact (Gr.refl _).alloc _)
    have HY0 : Hid (HelAt w0 yb 0 y) := Lib.hid (by rw [hw0]; exact held_new w y hyb)
    rw [← hw0, ← hyb]
    clear hw0 hyb
    replace c0 := HG0.out.cell c0
    replace c1 := HG0.out.cell c1
    replace t2 := HG0.out.cell t2
    obtain ⟨y0, y1, y2, y3, y4, y5⟩ := HY0.out
    go_quiet (fail)
    go_upto_region 3 with fail
    obtain ⟨wq, hwq⟩ : ∃ wq, wq = w0.drewN nq := ⟨_, rfl⟩
    have HGQ : Hid (Gr w0 wq) := Lib.hid (by rw [hwq]; exact (Gr.refl _).drewN nq)
    rw [← hwq]
    clear hwq
    have C0 := Lib.hid (HGQ.out.cell c0)
    have HYQ := Lib.hid (HY0.out.gr HGQ.out)
    clear c0 c1 t2 y0 y1 y2 y3 y4 y5
    refine wp_region_gg (n := 6) [Fg.eq (.pointer (some ⟨p, 0, none⟩)), Fg.eq (.pointer (some ⟨p, 0, none⟩)), Fg.eq (.pointer (some ⟨p, 0, none⟩)), Fg.eq (.iface tq vq), Fg.eq (.int .i64 now), Fg.eq (y.val)] [21, 22, 23, 24, 25, 26] (by kernel_rfl) (by kernel_rfl) (by kernel_rfl) ?_ ?_
    · intro L i o' ac w1 hi ho hA
      have hgr : Gr wq w1 := (Gr.refl wq).drew.trans hA.gr
      match i, hi with
      | 0, _ =>
        obtain rfl := Option.some.inj ho
        exact gg_plain rfl (gstep_val (q_move rfl (show ac.eval (.tmp 0) = .pointer (some ⟨p, 0, none⟩) from hA.other 0 (by decide))) rfl)
      | 1, _ =>
        obtain rfl := Option.some.inj ho
        exact gg_plain rfl (gstep_val (q_nil rfl (hA.fact 0 (hA.dep 0 (by kernel_rfl) (by decide)))) rfl)
      | 2, _ =>
        obtain rfl := Option.some.inj ho
        exact gg_plain rfl (gstep_val (sph_fa_shaper_Shaper_0 rfl (hA.fact 1 (hA.dep 1 (by kernel_rfl) (by decide)))) rfl)
      | 3, _ =>
        obtain rfl := Option.some.inj ho
        exact gg_plain rfl (gstep_val (sh_loadQ rfl (hA.fact 2 (hA.dep 2 (by kernel_rfl) (by decide))) (hgr.cell C0.out)) rfl)
      | 4, _ =>
        obtain rfl := Option.some.inj ho
        exact gg_plain rfl (gstep_val (q_move rfl (show ac.eval (.tmp 1) = .int .i64 now from hA.other 1 (by decide))) rfl)
      | 5, _ =>
        obtain rfl := Option.some.inj ho
        exact gg_plain rfl (gstep_val (q_loadH rfl (show ac.eval (.tmp 5) = .pointer (some ⟨yb, 0, none⟩) from hA.other 5 (by decide)) (HYQ.out.gr hgr)) rfl)
      | k + 6, hk => exact absurd (show k + 6 < 6 from hk) (by omega)
    · intro vs w5 hg5 hv
      have HGX := Lib.hid ((Gr.refl wq).drew.trans hg5)
      have v24 : vs 3 = .iface tq vq := hv 3 (by omega)
      have v25 : vs 4 = .int .i64 now := hv 4 (by omega)
      have v26 : vs 5 = y.val := hv 5 (by omega)
      clear hv hg5
      simp only [putN, List.drop_succ_cons, List.drop_zero, List.getElem?_cons_succ, List.getElem?_cons_zero]
      generalize vs 3 = z24 at *
      subst v24
      generalize vs 4 = z25 at *
      subst v25
      generalize vs 5 = z26 at *
      subst v26
      generalize vs 0 = z21 at *
      generalize vs 1 = z22 at *
      generalize vs 2 = z23 at *
      have HG5 := Lib.hid (HG0.out.trans (HGQ.out.trans HGX.out))
      unfold Hel.val
      refine wpList_invoke hm rfl _ _ _ rfl (by simp [go_sem]) (ys := [.int .i64 now, .agg #[.int .i64 y.t, .int .i64 y.len, .int .i64 y.flow, .int .i64 y.band, .int .i64 y.mark, .int .i64 y.n]]) (by simp [go_sem]) (HPC.out w5 HG5.out) ?_
      rintro e w6 ⟨v1, F1, rfl, hrow, hmv⟩
      have HM6 := Lib.hid (((ShpM.start HUP.out).gr HFF.out HG5.out).sub HFF.out hmv (by have h1 := HMS.out; have h2 := HPM.out; have h3 := HM1.out; unfold muS at *; simp only [] at *; omega))
      have HL6 := Lib.hid hrow
      obtain ⟨lra, lrc, rfl⟩ := hrow.shape
      clear hrow hmv
      refine ⟨_, rfl, ?_⟩
      go_wp2
      go_ret
      exact ⟨_, rfl, HL6.out, lv, nv, F1, HM6.out⟩
set_option maxRecDepth 100000 in
set_option maxHeartbeats 1200000 in
theorem sptake_any (hq : ∃ t v, q = .iface t v) (hF : ∀ b g, S.F b g ↔ b g) (A : Acts S 134 q) (hU : More S mu) (w : World) (lv nv : Value) (F : Nat → Prop) (s : Shp α) (n : Nat) (now : Int) (hn : Now now) (h : ShpAt stP nkP 134 S q B mu p tp w lv nv F s n) :
    Calls Tryz.prog 94 #[.pointer (some ⟨p, 0, none⟩), .int .i64 now] w fun e w' => ∃ v, e = .returned (.tuple #[((shaper U B).take s now).2.1.val, v, .bool ((shaper U B).take s now).2.2.2]) ∧ RowH 134 w' v ((shaper U B).take s now).2.2.1 ∧ ∃ lv' nv' F', ShpM stP nkP 134 S q B mu p tp w lv nv F w' lv' nv' F' ((shaper U B).take s now).1 n := by
  have HQ := Lib.hid hq
  have HFF := Lib.hid hF
  have HNN : Hid (N0 ≤ w.heap.size) := Lib.hid (by have := h.n0.1; have := h.plt; omega)
  have HPT : Hid ((shaper U B).take s now = shGo B (shLook U s now) now) := Lib.hid rfl
  have HLK := Lib.hid (fun u (g : Gr w u) => splook_any hq hF A hU u lv nv F s n now hn (h.gr hF g))
  have HN0 : Hid (-9223372036854775808 ≤ now) := Lib.hid (by have := hn.1; omega)
  have HSZ : Hid (∀ g, SPF nkP p tp lv nv F g → g < w.heap.size) := Lib.hid (fun g e => h.flt hF e)
  have HST := Lib.hid (ShpM.start h)
  rw [HPT.out]
  generalize shLook U s now = s1 at *
  clear h hF A hU hn hq
  go_enter Tryz.func94, Tryz.ntmps94
  go_upto_region 1 with fail
  obtain ⟨w0, hw0⟩ : ∃ w0, w0 = w.alloc (.cells #[.int .i64 0, .int .i64 0, .int .i64 0, .int .i64 0, .int .i64 0, .int .i64 0] 134) := ⟨_, rfl⟩
  obtain ⟨rb, hrb⟩ : ∃ rb, rb = w.heap.size := ⟨_, rfl⟩
  have HR0 : Hid (HelRes w0 rb .zero ∧ rb = w.heap.size) := Lib.hid (by rw [hw0]; exact ⟨helRes_new w .zero hrb, hrb⟩)
  have HG0 : Hid (Gr w w0) := Lib.hid (by rw [hw0]; exact (Gr.refl _).alloc _)
  rw [← hw0, ← hrb]
  clear hw0 hrb
  have HS0 := Lib.hid (HST.out.gr HFF.out HG0.out)
  go_upto_region 2 with (go_at_call 96; refine (HLK.out w0 HG0.out).mono ?_; rintro e w1 ⟨rfl, lv1, nv1, F1, hm1⟩; have HM1 := Lib.hid hm1; obtain ⟨la, lc, rfl⟩ := hm1.at_.row.shape; have d3 := hm1.at_.c3; have e3 := hm1.at_.f3; have HR1 := Lib.hid (HR0.out.1.sav hm1.sav (fun e => by have h1 := HSZ.out rb e; have h2 := HR0.out.2; omega)); clear hm1)
  have HN1 : Hid (N0 ≤ w0.heap.size) := Lib.hid (Nat.le_trans HNN.out HG0.out.size)
  have HB1 : Hid (¬ SPF nkP p tp (.slice la s1.lost.length lc) nv1 F1 rb ∧ w.heap.size ≤ rb ∧ rb < w0.heap.size) := Lib.hid ⟨fun e => (HM1.out.new rb e).elim (fun e => by have h1 := HSZ.out rb e; have h2 := HR0.out.2; omega) (fun e => by have h1 := cell_lt HR0.out.1.at_.c0; simp at h1; omega), Nat.le_of_eq HR0.out.2.symm, cell_lt HR0.out.1.at_.c0⟩
  go_upto_region 3 with fail
  obtain ⟨w2, hw2⟩ : ∃ w2, w2 = w1.setCell ⟨p, 3, none⟩ (.slice none 0 0) := ⟨_, rfl⟩
  have HS2 : Hid (Sav (fun g => g = p) w1 w2) := Lib.hid (by rw [hw2]; exact .set p 3 (.slice none 0 0))
  have HM2 : Hid (ShpM stP nkP 134 S q B mu p tp w0 lv nv F w2 (.slice none 0 0) nv1 F1 ⟨s1.a, s1.t, s1.held, []⟩ n) := Lib.hid (by
    rw [hw2]
    exact (HM1.out.lost HFF.out HQ.out HN1.out (.refl _ _) (RowH.nil _ _) (fun g e => by cases e) (by have := HM1.out.at_.mass.1; unfold muS at *; simp only [List.length_nil]; omega)).2.2)
  have HL2 : Hid (RowH 134 w2 (.slice la s1.lost.length lc) s1.lost ∧ ∀ g, (Value.slice la s1.lost.length lc).ownBlock = some g → (g ≠ p ∧ g ≠ tp) ∧ g ≠ rb) := Lib.hid ⟨HM1.out.at_.row.sav HS2.out (fun g e => (HM1.out.at_.lo g e).1.2.1), fun g e => ⟨(HM1.out.at_.lo g e).1.2, fun e2 => HB1.out.1 (.inr (.inr (.inl (by rw [← e2]; exact e))))⟩⟩
  have HR2 := Lib.hid (HR1.out.sav HS2.out (fun e => HB1.out.1 (.inl e)))
  have HB2 : Hid (¬ SPF nkP p tp (.slice none 0 0) nv1 F1 rb) := Lib.hid (fun e => HB1.out.1 (e.imp id (fun e => e.imp id (fun e => .inr (e.elim (fun e => by cases e) id)))))
  rw [← hw2]
  clear hw2 d3 e3
  cases hd : s1.held with
  | none =>
    have HGO := Lib.hid (shGo_none (B := B) (now := now) hd)
    obtain rfl : nv1 = .pointer none := by have h9 := HM1.out.at_.nx; rw [hd] at h9; exact h9
    have C2 := Lib.hid HM2.out.at_.c2
    refine wp_region_gg (n := 21) [Fg.eq (.pointer (some ⟨p, 0, none⟩)), Fg.eq (.pointer (some ⟨p, 0, none⟩)), Fg.eq (.pointer (some ⟨p, 2, none⟩)), Fg.eq (.pointer none), Fg.eq (.bool true), Fg.eq (.bool true), Fg.eq undef, Fg.eq undef, Fg.eq undef, Fg.eq undef, Fg.eq undef, Fg.eq undef, Fg.eq undef, Fg.eq undef, Fg.eq undef, Fg.eq undef, Fg.eq undef, Fg.eq undef, Fg.eq undef, Fg.eq undef, Fg.eq undef] [17, 18, 19, 20, 21, 22, 23, 24, 25, 26, 27, 28, 29, 30, 31, 32, 33, 34, 35, 36, 37] (by kernel_rfl) (by kernel_rfl) (by kernel_rfl) ?_ ?_
    · intro L i o' ac w1 hi ho hA
      have hgr : Gr w2 w1 := (Gr.refl w2).drew.trans hA.gr
      match i, hi with
      | 0, _ =>
        obtain rfl := Option.some.inj ho
        exact gg_plain rfl (gstep_val (q_move rfl (show ac.eval (.tmp 0) = .pointer (some ⟨p, 0, none⟩) from hA.other 0 (by decide))) rfl)
      | 1, _ =>
        obtain rfl := Option.some.inj ho
        exact gg_plain rfl (gstep_val (q_nil rfl (hA.fact 0 (hA.dep 0 (by kernel_rfl) (by decide)))) rfl)
      | 2, _ =>
        obtain rfl := Option.some.inj ho
        exact gg_plain rfl (gstep_val (sph_fa_shaper_Shaper_2 rfl (hA.fact 1 (hA.dep 1 (by kernel_rfl) (by decide)))) rfl)
      | 3, _ =>
        obtain rfl := Option.some.inj ho
        exact gg_plain rfl (gstep_val (sph_loadP__queue_Held rfl (hA.fact 2 (hA.dep 2 (by kernel_rfl) (by decide))) (hgr.cell C2.out)) rfl)
      | 4, _ =>
        obtain rfl := Option.some.inj ho
        exact gg_plain rfl (gstep_val (sph_pnil_eql_queue_Held rfl (hA.fact 3 (hA.dep 3 (by kernel_rfl) (by decide))) rfl) rfl)
      | 5, _ =>
        obtain rfl := Option.some.inj ho
        exact gg_plain rfl (gstep_val (q_move rfl (hA.fact 4 (hA.dep 4 (by kernel_rfl) (by decide)))) rfl)
      | 6, _ =>
        obtain rfl := Option.some.inj ho
        exact gg_no (b := false) rfl (hA.fact 5 (hA.dep 5 (by kernel_rfl) (by decide))) rfl
      | 7, _ =>
        obtain rfl := Option.some.inj ho
        exact gg_no (b := false) rfl (hA.fact 5 (hA.dep 5 (by kernel_rfl) (by decide))) rfl
      | 8, _ =>
        obtain rfl := Option.some.inj ho
        exact gg_no (b := false) rfl (hA.fact 5 (hA.dep 5 (by kernel_rfl) (by decide))) rfl
      | 9, _ =>
        obtain rfl := Option.some.inj ho
        exact gg_no (b := false) rfl (hA.fact 5 (hA.dep 5 (by kernel_rfl) (by decide))) rfl
      | 10, _ =>
        obtain rfl := Option.some.inj ho
        exact gg_no (b := false) rfl (hA.fact 5 (hA.dep 5 (by kernel_rfl) (by decide))) rfl
      | 11, _ =>
        obtain rfl := Option.some.inj ho
        exact gg_no (b := false) rfl (hA.fact 5 (hA.dep 5 (by kernel_rfl) (by decide))) rfl
      | 12, _ =>
        obtain rfl := Option.some.inj ho
        exact gg_no (b := false) rfl (hA.fact 5 (hA.dep 5 (by kernel_rfl) (by decide))) rfl
      | 13, _ =>
        obtain rfl := Option.some.inj ho
        exact gg_no (b := false) rfl (hA.fact 5 (hA.dep 5 (by kernel_rfl) (by decide))) rfl
      | 14, _ =>
        obtain rfl := Option.some.inj ho
        exact gg_no (b := false) rfl (hA.fact 5 (hA.dep 5 (by kernel_rfl) (by decide))) rfl
      | 15, _ =>
        obtain rfl := Option.some.inj ho
        exact gg_no (b := false) rfl (hA.fact 5 (hA.dep 5 (by kernel_rfl) (by decide))) rfl
      | 16, _ =>
        obtain rfl := Option.some.inj ho
        exact gg_no (b := false) rfl (hA.fact 5 (hA.dep 5 (by kernel_rfl) (by decide))) rfl
      | 17, _ =>
        obtain rfl := Option.some.inj ho
        exact gg_no (b := false) rfl (hA.fact 5 (hA.dep 5 (by kernel_rfl) (by decide))) rfl
      | 18, _ =>
        obtain rfl := Option.some.inj ho
        exact gg_no (b := false) rfl (hA.fact 5 (hA.dep 5 (by kernel_rfl) (by decide))) rfl
      | 19, _ =>
        obtain rfl := Option.some.inj ho
        exact gg_no (b := false) rfl (hA.fact 5 (hA.dep 5 (by kernel_rfl) (by decide))) rfl
      | 20, _ =>
        obtain rfl := Option.some.inj ho
        exact gg_no (b := false) rfl (hA.fact 5 (hA.dep 5 (by kernel_rfl) (by decide))) rfl
      | k + 21, hk => exact absurd (show k + 21 < 21 from hk) (by omega)
    · intro vs w5 hg5 hv
      have HGX := Lib.hid ((Gr.refl w2).drew.trans hg5)
      have v22 : vs 5 = .bool true := hv 5 (by omega)
      have v37 : vs 20 = undef := hv 20 (by omega)
      clear hv hg5
      simp only [putN, List.drop_succ_cons, List.drop_zero, List.getElem?_cons_succ, List.getElem?_cons_zero]
      generalize vs 5 = z22 at *
      subst v22
      generalize vs 20 = z37 at *
      subst v37
      generalize vs 0 = z17 at *
      generalize vs 1 = z18 at *
      generalize vs 2 = z19 at *
      generalize vs 3 = z20 at *
      generalize vs 4 = z21 at *
      generalize vs 6 = z23 at *
      generalize vs 7 = z24 at *
      generalize vs 8 = z25 at *
      generalize vs 9 = z26 at *
      generalize vs 10 = z27 at *
      generalize vs 11 = z28 at *
      generalize vs 12 = z29 at *
      generalize vs 13 = z30 at *
      generalize vs 14 = z31 at *
      generalize vs 15 = z32 at *
      generalize vs 16 = z33 at *
      generalize vs 17 = z34 at *
      generalize vs 18 = z35 at *
      generalize vs 19 = z36 at *
      have HR5 := Lib.hid (HR2.out.gr HGX.out)
      have HM5 : Hid (ShpM stP nkP 134 S q B mu p tp w lv nv F w5 (.slice none 0 0) _ F1 ⟨s1.a, s1.t, none, []⟩ n) := Lib.hid (by have h9 := HS0.out.trans (HM2.out.gr HFF.out HGX.out); rw [hd] at h9; exact h9)
      obtain ⟨⟨r0, r1, r2, r3, r4, r5⟩, s0, s1', s2, s3, s4, s5⟩ := HR5.out
      go_wp2
      obtain ⟨w6, hw6⟩ : ∃ u, u = ((((((w5.setCell ⟨rb, 0, none⟩ (.int .i64 0)).setCell ⟨rb, 1, none⟩ (.int .i64 0)).setCell ⟨rb, 2, none⟩ (.int .i64 0)).setCell ⟨rb, 3, none⟩ (.int .i64 0)).setCell ⟨rb, 4, none⟩ (.int .i64 0)).setCell ⟨rb, 5, none⟩ (.int .i64 0)) := ⟨_, rfl⟩
      have HRL := Lib.hid (show HelRes w6 rb .zero ∧ Sav (fun q => q = rb) w5 w6 from by rw [hw6]; exact hel_set6 HR5.out .zero)
      rw [← hw6]
      clear hw6 r0 r1 r2 r3 r4 r5 s0 s1' s2 s3 s4 s5
      obtain ⟨⟨q0, q1, q2, q3, q4, q5⟩, _⟩ := HRL.out.1
      have HMF := Lib.hid (ShpM.own HFF.out HM5.out HNN.out HRL.out.2 (.of_sav HRL.out.2 fun g e => by rw [e]; exact .of_cell (HR5.out).at_.c0 (fun b e => by cases e) (fun x e => by cases e)) (fun g e => by rw [e]; exact ⟨HB1.out.2.1, HB2.out⟩))
      exact bodyPost_ret (v := .tuple #[.agg #[.int .i64 0, .int .i64 0, .int .i64 0, .int .i64 0, .int .i64 0, .int .i64 0], .slice la s1.lost.length lc, .bool false]) (by simp [results, Tryz.results94, go_sem, q0, q1, q2, q3, q4, q5, Hel.zero]) rfl
        ⟨.slice la s1.lost.length lc, by rw [HGO.out]; rfl, by rw [HGO.out]; exact RowH.sav (HL2.out.1.gr HGX.out) HRL.out.2 (fun g e => (HL2.out.2 g e).2), _, _, F1, by rw [HGO.out]; exact HMF.out⟩
  | some y =>
    obtain ⟨hp, rfl, hx⟩ : ∃ g, nv1 = .pointer (some ⟨g, 0, none⟩) ∧ HelAt w1 g 0 y := by have h9 := HM1.out.at_.nx; rw [hd] at h9; exact h9
    have HX2 : Hid (HelAt w2 hp 0 y ∧ ¬ hp = tp ∧ ¬ hp = rb) := Lib.hid ⟨hx.sav HS2.out (HM1.out.at_.no hp rfl).1.2.1, (HM1.out.at_.no hp rfl).1.2.2, fun e => HB1.out.1 (.inr (.inr (.inr (.inl (by rw [← e]; rfl)))))⟩
    clear hx
    have C1 := Lib.hid HM2.out.at_.c1
    have C2 := Lib.hid HM2.out.at_.c2
    have HST2 := Lib.hid (fun u (g : Gr w2 u) => HM2.out.gr HFF.out g)
    obtain ⟨bb, hbb⟩ : ∃ bb, bb = (B.take s1.t now y.len).1 := ⟨_, rfl⟩
    have HBB := Lib.hid hbb
    clear hbb
    refine wp_region_gg (n := 19) [Fg.eq (.pointer (some ⟨p, 0, none⟩)), Fg.eq (.pointer (some ⟨p, 0, none⟩)), Fg.eq (.pointer (some ⟨p, 2, none⟩)), Fg.eq (.pointer (some ⟨hp, 0, none⟩)), Fg.eq (.bool false), Fg.eq (.bool false), Fg.eq (.pointer (some ⟨p, 0, none⟩)), Fg.eq (.pointer (some ⟨p, 0, none⟩)), Fg.eq (.pointer (some ⟨p, 1, none⟩)), Fg.eq (.pointer (some ⟨tp, 0, none⟩)), Fg.eq (.int .i64 now), Fg.eq (.pointer (some ⟨p, 0, none⟩)), Fg.eq (.pointer (some ⟨p, 0, none⟩)), Fg.eq (.pointer (some ⟨p, 2, none⟩)), Fg.eq (.pointer (some ⟨hp, 0, none⟩)), Fg.eq (.pointer (some ⟨hp, 0, none⟩)), Fg.eq (.pointer (some ⟨hp, 0, none⟩)), Fg.eq (.pointer (some ⟨hp, 1, none⟩)), Fg.eq (.int .i64 y.len)] [17, 18, 19, 20, 21, 22, 23, 24, 25, 26, 27, 28, 29, 30, 31, 32, 33, 34, 35] (by kernel_rfl) (by kernel_rfl) (by kernel_rfl) ?_ ?_
    · intro L i o' ac w1 hi ho hA
      have hgr : Gr w2 w1 := (Gr.refl w2).drew.trans hA.gr
      match i, hi with
      | 0, _ =>
        obtain rfl := Option.some.inj ho
        exact gg_plain rfl (gstep_val (q_move rfl (show ac.eval (.tmp 0) = .pointer (some ⟨p, 0, none⟩) from hA.other 0 (by decide))) rfl)
      | 1, _ =>
        obtain rfl := Option.some.inj ho
        exact gg_plain rfl (gstep_val (q_nil rfl (hA.fact 0 (hA.dep 0 (by kernel_rfl) (by decide)))) rfl)
      | 2, _ =>
        obtain rfl := Option.some.inj ho
        exact gg_plain rfl (gstep_val (sph_fa_shaper_Shaper_2 rfl (hA.fact 1 (hA.dep 1 (by kernel_rfl) (by decide)))) rfl)
      | 3, _ =>
        obtain rfl := Option.some.inj ho
        exact gg_plain rfl (gstep_val (sph_loadP__queue_Held rfl (hA.fact 2 (hA.dep 2 (by kernel_rfl) (by decide))) (hgr.cell C2.out)) rfl)
      | 4, _ =>
        obtain rfl := Option.some.inj ho
        exact gg_plain rfl (gstep_val (sph_pptr_eql_queue_Held rfl (hA.fact 3 (hA.dep 3 (by kernel_rfl) (by decide))) rfl) rfl)
      | 5, _ =>
        obtain rfl := Option.some.inj ho
        exact gg_plain rfl (gstep_val (q_move rfl (hA.fact 4 (hA.dep 4 (by kernel_rfl) (by decide)))) rfl)
      | 6, _ =>
        obtain rfl := Option.some.inj ho
        exact gg_yes (b := false) rfl (hA.fact 5 (hA.dep 5 (by kernel_rfl) (by decide))) (gstep_val (q_move rfl (show ac.eval (.tmp 0) = .pointer (some ⟨p, 0, none⟩) from hA.other 0 (by decide))) rfl)
      | 7, _ =>
        obtain rfl := Option.some.inj ho
        exact gg_yes (b := false) rfl (hA.fact 5 (hA.dep 5 (by kernel_rfl) (by decide))) (gstep_val (q_nil rfl (hA.fact 6 (hA.dep 6 (by kernel_rfl) (by decide)))) rfl)
      | 8, _ =>
        obtain rfl := Option.some.inj ho
        exact gg_yes (b := false) rfl (hA.fact 5 (hA.dep 5 (by kernel_rfl) (by decide))) (gstep_val (sph_fa_shaper_Shaper_1 rfl (hA.fact 7 (hA.dep 7 (by kernel_rfl) (by decide)))) rfl)
      | 9, _ =>
        obtain rfl := Option.some.inj ho
        exact gg_yes (b := false) rfl (hA.fact 5 (hA.dep 5 (by kernel_rfl) (by decide))) (gstep_val (sph_loadP__bucket_State rfl (hA.fact 8 (hA.dep 8 (by kernel_rfl) (by decide))) (hgr.cell C1.out)) rfl)
      | 10, _ =>
        obtain rfl := Option.some.inj ho
        exact gg_yes (b := false) rfl (hA.fact 5 (hA.dep 5 (by kernel_rfl) (by decide))) (gstep_val (q_move rfl (show ac.eval (.tmp 1) = .int .i64 now from hA.other 1 (by decide))) rfl)
      | 11, _ =>
        obtain rfl := Option.some.inj ho
        exact gg_yes (b := false) rfl (hA.fact 5 (hA.dep 5 (by kernel_rfl) (by decide))) (gstep_val (q_move rfl (show ac.eval (.tmp 0) = .pointer (some ⟨p, 0, none⟩) from hA.other 0 (by decide))) rfl)
      | 12, _ =>
        obtain rfl := Option.some.inj ho
        exact gg_yes (b := false) rfl (hA.fact 5 (hA.dep 5 (by kernel_rfl) (by decide))) (gstep_val (q_nil rfl (hA.fact 11 (hA.dep 11 (by kernel_rfl) (by decide)))) rfl)
      | 13, _ =>
        obtain rfl := Option.some.inj ho
        exact gg_yes (b := false) rfl (hA.fact 5 (hA.dep 5 (by kernel_rfl) (by decide))) (gstep_val (sph_fa_shaper_Shaper_2 rfl (hA.fact 12 (hA.dep 12 (by kernel_rfl) (by decide)))) rfl)
      | 14, _ =>
        obtain rfl := Option.some.inj ho
        exact gg_yes (b := false) rfl (hA.fact 5 (hA.dep 5 (by kernel_rfl) (by decide))) (gstep_val (sph_loadP__queue_Held rfl (hA.fact 13 (hA.dep 13 (by kernel_rfl) (by decide))) (hgr.cell C2.out)) rfl)
      | 15, _ =>
        obtain rfl := Option.some.inj ho
        exact gg_yes (b := false) rfl (hA.fact 5 (hA.dep 5 (by kernel_rfl) (by decide))) (gstep_val (q_nil rfl (hA.fact 14 (hA.dep 14 (by kernel_rfl) (by decide)))) rfl)
      | 16, _ =>
        obtain rfl := Option.some.inj ho
        exact gg_yes (b := false) rfl (hA.fact 5 (hA.dep 5 (by kernel_rfl) (by decide))) (gstep_val (sph_fa_queue_Held_0 rfl (hA.fact 15 (hA.dep 15 (by kernel_rfl) (by decide)))) rfl)
      | 17, _ =>
        obtain rfl := Option.some.inj ho
        exact gg_yes (b := false) rfl (hA.fact 5 (hA.dep 5 (by kernel_rfl) (by decide))) (gstep_val (sph_fa_api_Item_1 rfl (hA.fact 16 (hA.dep 16 (by kernel_rfl) (by decide)))) rfl)
      | 18, _ =>
        obtain rfl := Option.some.inj ho
        exact gg_yes (b := false) rfl (hA.fact 5 (hA.dep 5 (by kernel_rfl) (by decide))) (gstep_val (q_loadI rfl (hA.fact 17 (hA.dep 17 (by kernel_rfl) (by decide))) (hgr.cell HX2.out.1.c1)) rfl)
      | k + 19, hk => exact absurd (show k + 19 < 19 from hk) (by omega)
    · intro vs w5 hg5 hv
      have HGX := Lib.hid ((Gr.refl w2).drew.trans hg5)
      have v22 : vs 5 = .bool false := hv 5 (by omega)
      have v26 : vs 9 = .pointer (some ⟨tp, 0, none⟩) := hv 9 (by omega)
      have v27 : vs 10 = .int .i64 now := hv 10 (by omega)
      have v35 : vs 18 = .int .i64 y.len := hv 18 (by omega)
      clear hv hg5
      simp only [putN, List.drop_succ_cons, List.drop_zero, List.getElem?_cons_succ, List.getElem?_cons_zero]
      generalize vs 5 = z22 at *
      subst v22
      generalize vs 9 = z26 at *
      subst v26
      generalize vs 10 = z27 at *
      subst v27
      generalize vs 18 = z35 at *
      subst v35
      generalize vs 0 = z17 at *
      generalize vs 1 = z18 at *
      generalize vs 2 = z19 at *
      generalize vs 3 = z20 at *
      generalize vs 4 = z21 at *
      generalize vs 6 = z23 at *
      generalize vs 7 = z24 at *
      generalize vs 8 = z25 at *
      generalize vs 11 = z28 at *
      generalize vs 12 = z29 at *
      generalize vs 13 = z30 at *
      generalize vs 14 = z31 at *
      generalize vs 15 = z32 at *
      generalize vs 16 = z33 at *
      generalize vs 17 = z34 at *
      have HM5 := Lib.hid (HST2.out w5 HGX.out)
      have HR5 := Lib.hid (HR2.out.gr HGX.out)
      have HL5 := Lib.hid (HL2.out.1.gr HGX.out)
      cases bb with
      | false =>
        have HGO := Lib.hid (shGo_no (B := B) (now := now) hd (by rw [← HBB.out]; decide))
        go_upto_region 4 with (go_at_call 97; refine (take_any tp B s1.t now y.len w5 HM5.out.at_.st HM5.out.at_.ok HN0.out).mono ?_; rw [← HBB.out]; rintro e w6 ⟨rfl, hst, ho6⟩; have HM6 := Lib.hid (HM5.out.tok HFF.out hst ho6 (B.take_ok HM5.out.at_.ok now y.len)); have HO6 := Lib.hid (Sav.of_only ho6); clear hst ho6)
        have HR6 := Lib.hid (HR5.out.sav HO6.out (fun e => HB1.out.1 (.inr (.inl e))))
        have HL6 := Lib.hid (HL5.out.sav HO6.out (fun g e => (HL2.out.2 g e).1.2))
        have HM7 : Hid (ShpM stP nkP 134 S q B mu p tp w lv nv F w6 (.slice none 0 0) _ F1 ⟨s1.a, (B.take s1.t now y.len).2, some y, []⟩ n) := Lib.hid (by have h9 := HS0.out.trans HM6.out; rw [hd] at h9; exact h9)
        obtain ⟨⟨r0, r1, r2, r3, r4, r5⟩, s0, s1', s2, s3, s4, s5⟩ := HR6.out
        go_wp2
        obtain ⟨w7, hw7⟩ : ∃ u, u = ((((((w6.setCell ⟨rb, 0, none⟩ (.int .i64 0)).setCell ⟨rb, 1, none⟩ (.int .i64 0)).setCell ⟨rb, 2, none⟩ (.int .i64 0)).setCell ⟨rb, 3, none⟩ (.int .i64 0)).setCell ⟨rb, 4, none⟩ (.int .i64 0)).setCell ⟨rb, 5, none⟩ (.int .i64 0)) := ⟨_, rfl⟩
        have HRL := Lib.hid (show HelRes w7 rb .zero ∧ Sav (fun q => q = rb) w6 w7 from by rw [hw7]; exact hel_set6 HR6.out .zero)
        rw [← hw7]
        clear hw7 r0 r1 r2 r3 r4 r5 s0 s1' s2 s3 s4 s5
        obtain ⟨⟨q0, q1, q2, q3, q4, q5⟩, _⟩ := HRL.out.1
        have HMF := Lib.hid (ShpM.own HFF.out HM7.out HNN.out HRL.out.2 (.of_sav HRL.out.2 fun g e => by rw [e]; exact .of_cell (HR6.out).at_.c0 (fun b e => by cases e) (fun x e => by cases e)) (fun g e => by rw [e]; exact ⟨HB1.out.2.1, HB2.out⟩))
        exact bodyPost_ret (v := .tuple #[.agg #[.int .i64 0, .int .i64 0, .int .i64 0, .int .i64 0, .int .i64 0, .int .i64 0], .slice la s1.lost.length lc, .bool false]) (by simp [results, Tryz.results94, go_sem, q0, q1, q2, q3, q4, q5, Hel.zero]) rfl
          ⟨.slice la s1.lost.length lc, by rw [HGO.out]; rfl, by rw [HGO.out]; exact RowH.sav HL6.out HRL.out.2 (fun g e => (HL2.out.2 g e).2), _, _, F1, by rw [HGO.out]; exact HMF.out⟩
      | true =>
        have HGO := Lib.hid (shGo_yes (B := B) (now := now) hd HBB.out.symm)
        go_upto_region 5 with (go_at_call 97; refine (take_any tp B s1.t now y.len w5 HM5.out.at_.st HM5.out.at_.ok HN0.out).mono ?_; rw [← HBB.out]; rintro e w6 ⟨rfl, hst, ho6⟩; have HM6 := Lib.hid (HM5.out.tok HFF.out hst ho6 (B.take_ok HM5.out.at_.ok now y.len)); have HO6 := Lib.hid (Sav.of_only ho6); clear hst ho6)
        have HR6 := Lib.hid (HR5.out.sav HO6.out (fun e => HB1.out.1 (.inr (.inl e))))
        have HL6 := Lib.hid (HL5.out.sav HO6.out (fun g e => (HL2.out.2 g e).1.2))
        have HX6 := Lib.hid ((HX2.out.1.gr HGX.out).sav HO6.out HX2.out.2.1)
        have HMA := Lib.hid (HS0.out.trans HM6.out)
        have d2 := HMA.out.at_.c2
        obtain ⟨x0, x1, x2, x3, x4, x5⟩ := HX6.out
        obtain ⟨⟨r0, r1, r2, r3, r4, r5⟩, s0, s1', s2, s3, s4, s5⟩ := HR6.out
        go_upto_region 6 with fail
        obtain ⟨w7, hw7⟩ : ∃ u, u = ((((((w6.setCell ⟨rb, 0, none⟩ (.int .i64 y.t)).setCell ⟨rb, 1, none⟩ (.int .i64 y.len)).setCell ⟨rb, 2, none⟩ (.int .i64 y.flow)).setCell ⟨rb, 3, none⟩ (.int .i64 y.band)).setCell ⟨rb, 4, none⟩ (.int .i64 y.mark)).setCell ⟨rb, 5, none⟩ (.int .i64 y.n)) := ⟨_, rfl⟩
        have HR7 := Lib.hid (show HelRes w7 rb y ∧ Sav (fun q => q = rb) w6 w7 from by rw [hw7]; exact hel_set6 HR6.out y)
        rw [← hw7]
        clear hw7 r0 r1 r2 r3 r4 r5 s0 s1' s2 s3 s4 s5 x0 x1 x2 x3 x4 x5 d2
        have HM7 := Lib.hid (ShpM.own HFF.out HMA.out HNN.out HR7.out.2 (.of_sav HR7.out.2 fun g e => by rw [e]; exact .of_cell HR6.out.at_.c0 (fun b e => by cases e) (fun x e => by cases e)) (fun g e => by rw [e]; exact ⟨HB1.out.2.1, HB2.out⟩))
        have HL7 := Lib.hid (HL6.out.sav HR7.out.2 (fun g e => (HL2.out.2 g e).2))
        have HR7' := Lib.hid HR7.out.1
        have d2 := HM7.out.at_.c2
        have e2 := HM7.out.at_.f2
        go_upto_region 7 with fail
        obtain ⟨w8, hw8⟩ : ∃ u, u = w7.setCell ⟨p, 2, none⟩ (.pointer none) := ⟨_, rfl⟩
        have HS8 : Hid (Sav (fun g => g = p) w7 w8) := Lib.hid (by rw [hw8]; exact .set p 2 (.pointer none))
        have HM8 : Hid (ShpM stP nkP 134 S q B mu p tp w lv nv F w8 (.slice none 0 0) (.pointer none) F1 ⟨s1.a, (B.take s1.t now y.len).2, none, []⟩ n) := Lib.hid (by
          rw [hw8]
          exact HM7.out.next HFF.out HQ.out HNN.out (nv' := .pointer none) (hd := none) rfl (fun g e => by cases e) (by have h9 := HM7.out.at_.mass.1; unfold muS at *; simp only [Option.toList, List.length_nil] at *; omega) (fun x e => by cases e))
        rw [← hw8]
        clear hw8 d2 e2
        have HR8 := Lib.hid (HR7'.out.sav HS8.out (fun e => HB1.out.1 (.inl e)))
        have HL8 := Lib.hid (HL7.out.sav HS8.out (fun g e => (HL2.out.2 g e).1.1))
        obtain ⟨⟨r0, r1, r2, r3, r4, r5⟩, s0, s1', s2, s3, s4, s5⟩ := HR8.out
        go_wp2
        obtain ⟨w9, hw9⟩ : ∃ u, u = ((((((w8.setCell ⟨rb, 0, none⟩ (.int .i64 y.t)).setCell ⟨rb, 1, none⟩ (.int .i64 y.len)).setCell ⟨rb, 2, none⟩ (.int .i64 y.flow)).setCell ⟨rb, 3, none⟩ (.int .i64 y.band)).setCell ⟨rb, 4, none⟩ (.int .i64 y.mark)).setCell ⟨rb, 5, none⟩ (.int .i64 y.n)) := ⟨_, rfl⟩
        have HRL := Lib.hid (show HelRes w9 rb y ∧ Sav (fun q => q = rb) w8 w9 from by rw [hw9]; exact hel_set6 HR8.out y)
        rw [← hw9]
        clear hw9 r0 r1 r2 r3 r4 r5 s0 s1' s2 s3 s4 s5
        obtain ⟨⟨q0, q1, q2, q3, q4, q5⟩, _⟩ := HRL.out.1
        have HMF := Lib.hid (ShpM.own HFF.out HM8.out HNN.out HRL.out.2 (.of_sav HRL.out.2 fun g e => by rw [e]; exact .of_cell (HR8.out).at_.c0 (fun b e => by cases e) (fun x e => by cases e)) (fun g e => by rw [e]; exact ⟨HB1.out.2.1, fun e => HB2.out (e.imp id (fun e => e.imp id (fun e => e.imp id (fun e => .inr (e.elim (fun e => by cases e) id)))))⟩))
        exact bodyPost_ret (v := .tuple #[.agg #[.int .i64 y.t, .int .i64 y.len, .int .i64 y.flow, .int .i64 y.band, .int .i64 y.mark, .int .i64 y.n], .slice la s1.lost.length lc, .bool true]) (by simp [results, Tryz.results94, go_sem, q0, q1, q2, q3, q4, q5]) rfl
          ⟨.slice la s1.lost.length lc, by rw [HGO.out]; rfl, by rw [HGO.out]; exact RowH.sav HL8.out HRL.out.2 (fun g e => (HL2.out.2 g e).2), _, _, F1, by rw [HGO.out]; exact HMF.out⟩
set_option maxRecDepth 100000 in
set_option maxHeartbeats 1200000 in
theorem spwhen_any (hq : ∃ t v, q = .iface t v) (hF : ∀ b g, S.F b g ↔ b g) (A : Acts S 134 q) (hU : More S mu) (w : World) (lv nv : Value) (F : Nat → Prop) (s : Shp α) (n : Nat) (now : Int) (hn : Now now) (h : ShpAt stP nkP 134 S q B mu p tp w lv nv F s n) :
    Calls Tryz.prog 95 #[.pointer (some ⟨p, 0, none⟩), .int .i64 now] w fun e w' => e = .returned (.tuple #[.int .i64 ((shaper U B).when_ s now).2.1, .bool ((shaper U B).when_ s now).2.2]) ∧ ∃ lv' nv' F', ShpM stP nkP 134 S q B mu p tp w lv nv F w' lv' nv' F' ((shaper U B).when_ s now).1 n := by
  have HLK := Lib.hid (splook_any hq hF A hU w lv nv F s n now hn h)
  obtain ⟨tq, vq, rfl⟩ := hq
  have HFF := Lib.hid hF
  have HPT : Hid ((shaper U B).when_ s now = shAsk U B (shLook U s now) now) := Lib.hid rfl
  have HN0 : Hid (-9223372036854775808 ≤ now) := Lib.hid (by have := hn.1; omega)
  obtain ⟨fm, rv, hm, hc⟩ := A.when_
  have HPC := Lib.hid (fun u F' (a : α) (hI : S.I u F' a n) => hc u F' a n now hI hn)
  have HUW := Lib.hid (fun u F' (a : α) (hI : S.I u F' a n) => hU.when_ hI hn)
  rw [HPT.out]
  generalize shLook U s now = s1 at *
  clear h hF A hU hn hc
  go_enter Tryz.func95, Tryz.ntmps95
  go_upto_region 2 with (go_at_call 96; refine HLK.out.mono ?_; rintro e wl ⟨rfl, lv1, nv1, F1, hm1⟩; have HM1 := Lib.hid hm1; have d2 := hm1.at_.c2; have d0 := hm1.at_.c0; clear hm1)
  cases hd : s1.held with
  | none =>
    obtain rfl : nv1 = .pointer none := by have h9 := HM1.out.at_.nx; rw [hd] at h9; exact h9
    have HAS := Lib.hid (shAsk_none (U := U) (B := B) (now := now) hd)
    have HPN := Lib.hid (HPC.out wl F1 s1.a HM1.out.at_.sub)
    have HWN := Lib.hid (HUW.out wl F1 s1.a HM1.out.at_.sub)
    generalize U.when_ s1.a now = res at *
    obtain ⟨a1, at1, ok1⟩ := res
    simp only [] at HPN HWN HAS
    go_wp2_with ((with_reducible refine wpList_here "When" ?_); refine wpList_invoke hm rfl _ _ _ rfl rfl (ys := [.int .i64 now]) rfl HPN.out ?_; rintro e w2 ⟨F2, rfl, hmv⟩; have HM2 := Lib.hid (HM1.out.sub HFF.out hmv (by have h1 := HM1.out.at_.mass; have h2 := HWN.out; unfold muS at *; simp only [] at *; omega)); clear hmv; refine ⟨_, rfl, ?_⟩)
    exact bodyPost_ret (v := .tuple #[.int .i64 at1, .bool ok1]) (by simp [results, Tryz.results95, go_sem]) rfl ⟨by rw [HAS.out], _, _, F2, by rw [HAS.out]; have h9 := HM2.out; rw [hd] at h9; exact h9⟩
  | some y =>
    obtain ⟨hp, rfl, hx⟩ : ∃ g, nv1 = .pointer (some ⟨g, 0, none⟩) ∧ HelAt wl g 0 y := by have h9 := HM1.out.at_.nx; rw [hd] at h9; exact h9
    have HX2 := Lib.hid hx
    clear hx
    have HAS := Lib.hid (shAsk_some (U := U) (B := B) (now := now) hd)
    have C1 := Lib.hid HM1.out.at_.c1
    have C2 := Lib.hid HM1.out.at_.c2
    have HPT' : Hid (p ≠ tp ∧ hp ≠ tp) := Lib.hid ⟨HM1.out.at_.ap, (HM1.out.at_.no hp rfl).1.2.2⟩
    have HOKT := Lib.hid (B.when_ok HM1.out.at_.ok now y.len)
    have HWC : Hid (∀ u, Gr wl u → Calls Tryz.prog 98 #[.pointer (some ⟨tp, 0, none⟩), .int .i64 now, .int .i64 y.len] u fun e w' => e = .returned (.tuple #[.int .i64 (B.when s1.t now y.len).1.1, .bool (B.when s1.t now y.len).1.2]) ∧ (stP.at_ w' tp B (B.when s1.t now y.len).2 ∧ Only tp 3 wl w')) := Lib.hid (fun u g => (when_any tp B s1.t now y.len u (HM1.out.gr HFF.out g).at_.st HM1.out.at_.ok HN0.out).mono fun e w' ⟨h1, h2, h3⟩ => ⟨h1, h2, (Only.of_gr g).trans h3⟩)
    generalize B.when s1.t now y.len = res at *
    obtain ⟨⟨at1, ok1⟩, t1⟩ := res
    simp only [] at HWC HAS HOKT
    go_upto_region 3 with fail
    clear d0 d2
    refine wp_region_l (n := 16) (fun b u => if b then stP.at_ u tp B t1 ∧ Only tp 3 wl u else Gr wl u) 13 [Fv.of 0 (Fg.eq (.pointer (some ⟨p, 0, none⟩))), Fv.of 1 (Fg.eq (.pointer (some ⟨p, 0, none⟩))), Fv.of 2 (Fg.eq (.pointer (some ⟨p, 1, none⟩))), Fv.of 3 (Fg.eq (.pointer (some ⟨tp, 0, none⟩))), Fv.of 4 (Fg.eq (.int .i64 now)), Fv.of 5 (Fg.eq (.pointer (some ⟨p, 0, none⟩))), Fv.of 6 (Fg.eq (.pointer (some ⟨p, 0, none⟩))), Fv.of 7 (Fg.eq (.pointer (some ⟨p, 2, none⟩))), Fv.of 8 (Fg.eq (.pointer (some ⟨hp, 0, none⟩))), Fv.of 9 (Fg.eq (.pointer (some ⟨hp, 0, none⟩))), Fv.of 10 (Fg.eq (.pointer (some ⟨hp, 0, none⟩))), Fv.of 11 (Fg.eq (.pointer (some ⟨hp, 1, none⟩))), Fv.of 12 (Fg.eq (.int .i64 y.len)), Fv.of 13 (Fg.eq (.tuple #[.int .i64 at1, .bool ok1])), Fv.of 14 (Fg.eq (.int .i64 at1)), Fv.of 15 (Fg.eq (.bool ok1))] [14, 15, 16, 17, 18, 19, 20, 21, 22, 23, 24, 25, 26, 27, 28, 29] ((Gr.refl wl).drew) (by decide) (by kernel_rfl) (by kernel_rfl) (by kernel_rfl) (by kernel_rfl) ?_ ?_
    · intro L i o ac w1 hi ho hA
      have hcell : ∀ {pa : Addr} {u : Value}, wl.cell? pa = some u → pa.block ≠ tp → w1.cell? pa = some u := fun {pa u} hc hp => HeadAtL.any (R := fun u' => u'.cell? pa = some u) hA (fun b u' h => by cases b with | false => exact Gr.cell h hc | true => exact (Sav.of_only h.2).cell hc hp)
      match i, hi with
      | 0, _ =>
        obtain rfl := Option.some.inj ho
        exact lstep_val hA (by decide) (q_move rfl (show ac.eval (.tmp 0) = .pointer (some ⟨p, 0, none⟩) from hA.other 0 (by decide))) (fun _ hf => hf)
      | 1, _ =>
        obtain rfl := Option.some.inj ho
        exact lstep_val hA (by decide) (q_nil rfl (hA.fact 0 (hA.dep 0 (by kernel_rfl) (by decide)))) (fun _ hf => hf)
      | 2, _ =>
        obtain rfl := Option.some.inj ho
        exact lstep_val hA (by decide) (sph_fa_shaper_Shaper_1 rfl (hA.fact 1 (hA.dep 1 (by kernel_rfl) (by decide)))) (fun _ hf => hf)
      | 3, _ =>
        obtain rfl := Option.some.inj ho
        exact lstep_val hA (by decide) (sph_loadP__bucket_State rfl (hA.fact 2 (hA.dep 2 (by kernel_rfl) (by decide))) (hcell C1.out HPT'.out.1)) (fun _ hf => hf)
      | 4, _ =>
        obtain rfl := Option.some.inj ho
        exact lstep_val hA (by decide) (q_move rfl (show ac.eval (.tmp 1) = .int .i64 now from hA.other 1 (by decide))) (fun _ hf => hf)
      | 5, _ =>
        obtain rfl := Option.some.inj ho
        exact lstep_val hA (by decide) (q_move rfl (show ac.eval (.tmp 0) = .pointer (some ⟨p, 0, none⟩) from hA.other 0 (by decide))) (fun _ hf => hf)
      | 6, _ =>
        obtain rfl := Option.some.inj ho
        exact lstep_val hA (by decide) (q_nil rfl (hA.fact 5 (hA.dep 5 (by kernel_rfl) (by decide)))) (fun _ hf => hf)
      | 7, _ =>
        obtain rfl := Option.some.inj ho
        exact lstep_val hA (by decide) (sph_fa_shaper_Shaper_2 rfl (hA.fact 6 (hA.dep 6 (by kernel_rfl) (by decide)))) (fun _ hf => hf)
      | 8, _ =>
        obtain rfl := Option.some.inj ho
        exact lstep_val hA (by decide) (sph_loadP__queue_Held rfl (hA.fact 7 (hA.dep 7 (by kernel_rfl) (by decide))) (hcell C2.out HPT'.out.1)) (fun _ hf => hf)
      | 9, _ =>
        obtain rfl := Option.some.inj ho
        exact lstep_val hA (by decide) (q_nil rfl (hA.fact 8 (hA.dep 8 (by kernel_rfl) (by decide)))) (fun _ hf => hf)
      | 10, _ =>
        obtain rfl := Option.some.inj ho
        exact lstep_val hA (by decide) (sph_fa_queue_Held_0 rfl (hA.fact 9 (hA.dep 9 (by kernel_rfl) (by decide)))) (fun _ hf => hf)
      | 11, _ =>
        obtain rfl := Option.some.inj ho
        exact lstep_val hA (by decide) (sph_fa_api_Item_1 rfl (hA.fact 10 (hA.dep 10 (by kernel_rfl) (by decide)))) (fun _ hf => hf)
      | 12, _ =>
        obtain rfl := Option.some.inj ho
        exact lstep_val hA (by decide) (q_loadI rfl (hA.fact 11 (hA.dep 11 (by kernel_rfl) (by decide))) (hcell HX2.out.c1 HPT'.out.2)) (fun _ hf => hf)
      | 13, _ =>
        obtain rfl := Option.some.inj ho
        refine lstep_call hA rfl (sph_call___millrace_bucket_State__When rfl rfl (hA.fact 3 (hA.dep 3 (by kernel_rfl) (by decide))) (hA.fact 4 (hA.dep 4 (by kernel_rfl) (by decide))) (hA.fact 12 (hA.dep 12 (by kernel_rfl) (by decide)))) (fun hF => (HWC.out w1 hF).mono (fun e w' ⟨h1, h2⟩ => ⟨_, h1, h2, fun _ hf => hf, fun j hj v hv => ?_⟩))
        match j, hv with
        | 0, hv => exact hv
        | 1, hv => exact hv
        | 2, hv => exact hv
        | 3, hv => exact hv
        | 4, hv => exact hv
        | 5, hv => exact hv
        | 6, hv => exact hv
        | 7, hv => exact hv
        | 8, hv => exact hv
        | 9, hv => exact hv
        | 10, hv => exact hv
        | 11, hv => exact hv
        | 12, hv => exact hv
        | 13, hv => exact hv
        | 14, hv => exact hv
        | 15, hv => exact hv
        | j + 16, _ => trivial
      | 14, _ =>
        obtain rfl := Option.some.inj ho
        exact lstep_val hA (by decide) (sph_ext0 rfl (hA.fact 13 (hA.dep 13 (by kernel_rfl) (by decide)))) (fun _ hf => hf)
      | 15, _ =>
        obtain rfl := Option.some.inj ho
        exact lstep_val hA (by decide) (sph_ext1 rfl (hA.fact 13 (hA.dep 13 (by kernel_rfl) (by decide)))) (fun _ hf => hf)
      | k + 16, hk => exact absurd (show k + 16 < 16 from hk) (by omega)
    · intro vs w5 hI5 hv
      have HTK := Lib.hid hI5
      have v28 : vs 14 = .int .i64 at1 := hv 14 (by omega)
      have v29 : vs 15 = .bool ok1 := hv 15 (by omega)
      clear hv hI5
      simp only [putN, List.drop_succ_cons, List.drop_zero, List.getElem?_cons_succ, List.getElem?_cons_zero]
      generalize vs 14 = z28 at *
      subst v28
      generalize vs 15 = z29 at *
      subst v29
      generalize vs 0 = z14 at *
      generalize vs 1 = z15 at *
      generalize vs 2 = z16 at *
      generalize vs 3 = z17 at *
      generalize vs 4 = z18 at *
      generalize vs 5 = z19 at *
      generalize vs 6 = z20 at *
      generalize vs 7 = z21 at *
      generalize vs 8 = z22 at *
      generalize vs 9 = z23 at *
      generalize vs 10 = z24 at *
      generalize vs 11 = z25 at *
      generalize vs 12 = z26 at *
      generalize vs 13 = z27 at *
      have HM6 := Lib.hid (HM1.out.tok HFF.out HTK.out.1 HTK.out.2 HOKT.out)
      go_wp2
      exact bodyPost_ret (v := .tuple #[.int .i64 at1, .bool ok1]) (by simp [results, Tryz.results95, go_sem]) rfl ⟨by rw [HAS.out], _, _, F1, by rw [HAS.out]; have h9 := HM6.out; rw [hd] at h9; exact h9⟩
set_option maxRecDepth 100000 in
set_option maxHeartbeats 1200000 in
theorem splen_any (hq : ∃ t v, q = .iface t v) (A : PSide S q) (w : World) (lv nv : Value) (F : Nat → Prop) (s : Shp α) (n : Nat) (h : ShpAt stP nkP 134 S q B mu p tp w lv nv F s n) :
    Calls Tryz.prog 92 #[.pointer (some ⟨p, 0, none⟩)] w fun e w' => e = .returned (.int .i64 (((shaper U B).all s).length : Int)) ∧ Gr w w' := by
  obtain ⟨tq, vq, rfl⟩ := hq
  obtain ⟨fm, rv, hm, hc⟩ := A.len
  have HPC := Lib.hid (hc w F s.a n h.sub)
  have hb := (A.few h.sub).1
  have c0 := h.c0
  have c2 := h.c2
  have HLN : Hid (((shaper U B).all s).length = s.held.toList.length + (U.all s.a).length) := Lib.hid (by show (s.held.toList ++ U.all s.a).length = _; rw [List.length_append])
  rw [HLN.out]
  have hx := h.nx
  generalize (U.all s.a).length = k at *
  have k0 : (0 : Int) ≤ (k : Int) := by omega
  have k1 : (k : Int) ≤ 1000 := by omega
  clear hb hc h A
  cases hd : s.held with
  | none =>
    obtain rfl : nv = .pointer none := by rw [hd] at hx; exact hx
    clear hx
    go_enter Tryz.func92, Tryz.ntmps92
    go_wp2_with ((with_reducible refine wpList_here "Len" ?_); refine wpList_invoke hm rfl _ _ _ rfl rfl (ys := []) rfl HPC.out ?_; rintro e w1 ⟨rfl, hg1⟩; have HG1 := Lib.hid hg1; clear hg1; refine ⟨_, rfl, ?_⟩)
    exact bodyPost_ret (v := .int .i64 (k : Int)) (by simp [results, Tryz.results92, go_sem]) rfl ⟨by simp, HG1.out⟩
  | some y =>
    obtain ⟨hp, rfl, _⟩ : ∃ g, nv = .pointer (some ⟨g, 0, none⟩) ∧ HelAt w g 0 y := by rw [hd] at hx; exact hx
    clear hx
    go_enter Tryz.func92, Tryz.ntmps92
    go_wp2_with ((with_reducible refine wpList_here "Len" ?_); refine wpList_invoke hm rfl _ _ _ rfl rfl (ys := []) rfl HPC.out ?_; rintro e w1 ⟨rfl, hg1⟩; have HG1 := Lib.hid hg1; clear hg1; refine ⟨_, rfl, ?_⟩)
    exact bodyPost_ret (v := .int .i64 ((k : Int) + 1)) (by simp [results, Tryz.results92, go_sem]) rfl ⟨by simp; omega, HG1.out⟩
set_option maxRecDepth 100000 in
set_option maxHeartbeats 1200000 in
theorem spbytes_any (hq : ∃ t v, q = .iface t v) (A : PSide S q) (w : World) (lv nv : Value) (F : Nat → Prop) (s : Shp α) (n : Nat) (h : ShpAt stP nkP 134 S q B mu p tp w lv nv F s n) :
    Calls Tryz.prog 91 #[.pointer (some ⟨p, 0, none⟩)] w fun e w' => e = .returned (.int .i64 (sumLen ((shaper U B).all s))) ∧ Gr w w' := by
  obtain ⟨tq, vq, rfl⟩ := hq
  obtain ⟨fm, rv, hm, hc⟩ := A.bytes
  have HPC := Lib.hid (fun u (g : Gr w u) => hc u F s.a n (S.gr h.sub g))
  have hb := A.few h.sub
  have hs := Lens.sum hb.2 hb.1
  have c0 := h.c0
  have c2 := h.c2
  have HLN : Hid (sumLen ((shaper U B).all s) = sumLen (s.held.toList ++ U.all s.a)) := Lib.hid rfl
  rw [HLN.out]
  have hx := h.nx
  have hl := h.lens
  cases hd : s.held with
  | none =>
    obtain rfl : nv = .pointer none := by rw [hd] at hx; exact hx
    have HE : Hid (sumLen ((none : Option Hel).toList ++ U.all s.a) = sumLen (U.all s.a)) := Lib.hid rfl
    rw [HE.out]
    generalize sumLen (U.all s.a) = k at *
    clear hx hl hs hb hc h A
    go_enter Tryz.func91, Tryz.ntmps91
    go_wp2_with ((with_reducible refine wpList_here "Bytes" ?_); refine wpList_invoke hm rfl _ _ _ rfl rfl (ys := []) rfl (HPC.out _ (Gr.refl _)) ?_; rintro e w1 ⟨rfl, hg1⟩; have HG1 := Lib.hid hg1; clear hg1; refine ⟨_, rfl, ?_⟩)
    exact bodyPost_ret (v := .int .i64 k) (by simp [results, Tryz.results91, go_sem]) rfl ⟨rfl, HG1.out⟩
  | some y =>
    obtain ⟨hp, rfl, hy⟩ : ∃ g, nv = .pointer (some ⟨g, 0, none⟩) ∧ HelAt w g 0 y := by rw [hd] at hx; exact hx
    have HY := Lib.hid hy
    have hly := hl y hd
    have HE : Hid (sumLen ((some y : Option Hel).toList ++ U.all s.a) = sumLen (U.all s.a) + y.len ∧ IntKind.i64.wrap (sumLen (U.all s.a) + y.len) = sumLen (U.all s.a) + y.len) := Lib.hid ⟨by show y.len + sumLen (U.all s.a) = _; omega, by rw [IntKind.wrap_i64]; omega⟩
    rw [HE.out.1]
    generalize sumLen (U.all s.a) = k at *
    have C0 := Lib.hid c0
    have C2 := Lib.hid c2
    clear hx hl hs hb hc h A hly hy
    go_enter Tryz.func91, Tryz.ntmps91
    go_upto_region 2 with fail
    clear c0 c2
    refine wp_region_gg (n := 14) [Fg.eq (.pointer (some ⟨p, 0, none⟩)), Fg.eq (.pointer (some ⟨p, 0, none⟩)), Fg.eq (.pointer (some ⟨p, 0, none⟩)), Fg.eq (.iface tq vq), Fg.eq (.int .i64 k), Fg.eq (.pointer (some ⟨p, 0, none⟩)), Fg.eq (.pointer (some ⟨p, 0, none⟩)), Fg.eq (.pointer (some ⟨p, 2, none⟩)), Fg.eq (.pointer (some ⟨hp, 0, none⟩)), Fg.eq (.pointer (some ⟨hp, 0, none⟩)), Fg.eq (.pointer (some ⟨hp, 0, none⟩)), Fg.eq (.pointer (some ⟨hp, 1, none⟩)), Fg.eq (.int .i64 y.len), Fg.eq (.int .i64 (k + y.len))] [8, 9, 10, 11, 12, 13, 14, 15, 16, 17, 18, 19, 20, 21] (by kernel_rfl) (by kernel_rfl) (by kernel_rfl) ?_ ?_
    · intro L i o' ac w1 hi ho hA
      have hgr : Gr w w1 := (Gr.refl w).drew.trans hA.gr
      match i, hi with
      | 0, _ =>
        obtain rfl := Option.some.inj ho
        exact gg_plain rfl (gstep_val (q_move rfl (show ac.eval (.tmp 0) = .pointer (some ⟨p, 0, none⟩) from hA.other 0 (by decide))) rfl)
      | 1, _ =>
        obtain rfl := Option.some.inj ho
        exact gg_plain rfl (gstep_val (q_nil rfl (hA.fact 0 (hA.dep 0 (by kernel_rfl) (by decide)))) rfl)
      | 2, _ =>
        obtain rfl := Option.some.inj ho
        exact gg_plain rfl (gstep_val (sph_fa_shaper_Shaper_0 rfl (hA.fact 1 (hA.dep 1 (by kernel_rfl) (by decide)))) rfl)
      | 3, _ =>
        obtain rfl := Option.some.inj ho
        exact gg_plain rfl (gstep_val (sh_loadQ rfl (hA.fact 2 (hA.dep 2 (by kernel_rfl) (by decide))) (hgr.cell C0.out)) rfl)
      | 4, _ =>
        obtain rfl := Option.some.inj ho
        exact gg_plain rfl (gstep_call (sph_inv0 hm rfl (hA.fact 3 (hA.dep 3 (by kernel_rfl) (by decide)))) ((HPC.out w1 hgr).mono (fun e w' ⟨h1, h2⟩ => ⟨_, h1, h2, rfl⟩)))
      | 5, _ =>
        obtain rfl := Option.some.inj ho
        exact gg_plain rfl (gstep_val (q_move rfl (show ac.eval (.tmp 0) = .pointer (some ⟨p, 0, none⟩) from hA.other 0 (by decide))) rfl)
      | 6, _ =>
        obtain rfl := Option.some.inj ho
        exact gg_plain rfl (gstep_val (q_nil rfl (hA.fact 5 (hA.dep 5 (by kernel_rfl) (by decide)))) rfl)
      | 7, _ =>
        obtain rfl := Option.some.inj ho
        exact gg_plain rfl (gstep_val (sph_fa_shaper_Shaper_2 rfl (hA.fact 6 (hA.dep 6 (by kernel_rfl) (by decide)))) rfl)
      | 8, _ =>
        obtain rfl := Option.some.inj ho
        exact gg_plain rfl (gstep_val (sph_loadP__queue_Held rfl (hA.fact 7 (hA.dep 7 (by kernel_rfl) (by decide))) (hgr.cell C2.out)) rfl)
      | 9, _ =>
        obtain rfl := Option.some.inj ho
        exact gg_plain rfl (gstep_val (q_nil rfl (hA.fact 8 (hA.dep 8 (by kernel_rfl) (by decide)))) rfl)
      | 10, _ =>
        obtain rfl := Option.some.inj ho
        exact gg_plain rfl (gstep_val (sph_fa_queue_Held_0 rfl (hA.fact 9 (hA.dep 9 (by kernel_rfl) (by decide)))) rfl)
      | 11, _ =>
        obtain rfl := Option.some.inj ho
        exact gg_plain rfl (gstep_val (sph_fa_api_Item_1 rfl (hA.fact 10 (hA.dep 10 (by kernel_rfl) (by decide)))) rfl)
      | 12, _ =>
        obtain rfl := Option.some.inj ho
        exact gg_plain rfl (gstep_val (q_loadI rfl (hA.fact 11 (hA.dep 11 (by kernel_rfl) (by decide))) (hgr.cell HY.out.c1)) rfl)
      | 13, _ =>
        obtain rfl := Option.some.inj ho
        exact gg_plain rfl (gstep_val (sph_add rfl (hA.fact 4 (hA.dep 4 (by kernel_rfl) (by decide))) (hA.fact 12 (hA.dep 12 (by kernel_rfl) (by decide))) (HE.out.2)) rfl)
      | k + 14, hk => exact absurd (show k + 14 < 14 from hk) (by omega)
    · intro vs w5 hg5 hv
      have HGX := Lib.hid ((Gr.refl w).drew.trans hg5)
      have v21 : vs 13 = .int .i64 (k + y.len) := hv 13 (by omega)
      clear hv hg5
      simp only [putN, List.drop_succ_cons, List.drop_zero, List.getElem?_cons_succ, List.getElem?_cons_zero]
      generalize vs 13 = z21 at *
      subst v21
      generalize vs 0 = z8 at *
      generalize vs 1 = z9 at *
      generalize vs 2 = z10 at *
      generalize vs 3 = z11 at *
      generalize vs 4 = z12 at *
      generalize vs 5 = z13 at *
      generalize vs 6 = z14 at *
      generalize vs 7 = z15 at *
      generalize vs 8 = z16 at *
      generalize vs 9 = z17 at *
      generalize vs 10 = z18 at *
      generalize vs 11 = z19 at *
      generalize vs 12 = z20 at *
      go_wp2
      go_ret
      exact ⟨rfl, HGX.out⟩
end
end Go.Proofs.YtgifghbnpdanhaaGreatDoor

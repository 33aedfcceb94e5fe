/-
  The reference's queue that lets no more go than a bucket has, walked. (Printed by genshp.py.)
-/
import Derived.Test.YtgifghbnpdanhaaGreatDoorShpC
import Derived.Test.YtgifghbnpdanhaaGreatDoorAppH
import Derived.Test.YtgifghbnpdanhaaGreatDoorPlayB
import Derived.Test.YtgifghbnpdanhaaGreatDoorRegG
import Derived.Test.YtgifghbnpdanhaaGreatDoorRegL
import Derived.Test.YtgifghbnpdanhaaGreatDoorShaperPlaysPart2
import Derived.Test.YtgifghbnpdanhaaGreatDoorBktR
import Derived.Test.YtgifghbnpdanhaaGreatDoorFifoR
import Derived.BigQuiet
import Derived.BigRegion
import Derived.Deep.RegionWith
import Derived.Deep.DeepCutAuto
import Derived.Deep.CutBlock
import Derived.Deep.LoopGhost
namespace Go.Proofs.YtgifghbnpdanhaaGreatDoor
open Go.RowKit Go.Extern.Stop Go.Stop Go.Extern

section
variable {ev : Operand → Value} {o : Oper} {w : World} {x y : Operand}
theorem sh_loadQR {ad : Addr} {t : TypeId} {v : Value} (ho : o.op = .load 50 x) (h : ev x = .pointer (some ad)) (hc : w.cell? ad = some (.iface t v)) : (execOp ev o).run Tryz.prog w = .ok (.value (.iface t v)) w := by
  simp [execOp, ho, h, hc, go_sem]
end
section
variable {ev : Operand → Value} {o : Oper} {w : World} {x y z : Operand} {u : Value}
theorem srh_fa_millraceref_Shaper_0 {p o' : Nat} (ho : o.op = .fieldAddr 52 x 0) (h : ev x = .pointer (some ⟨p, o', none⟩)) : (execOp ev o).run Tryz.prog w = .ok (.value (.pointer (some ⟨p, o', none⟩))) w := by
  simp [execOp, ho, h, go_sem]
theorem srh_fa_millraceref_Shaper_1 {p o' : Nat} (ho : o.op = .fieldAddr 52 x 1) (h : ev x = .pointer (some ⟨p, o', none⟩)) : (execOp ev o).run Tryz.prog w = .ok (.value (.pointer (some ⟨p, o' + 1, none⟩))) w := by
  simp [execOp, ho, h, go_sem]
theorem srh_loadP__millraceref_Filled {ad : Addr} {v : Option Addr} (ho : o.op = .load 47 x) (h : ev x = .pointer (some ad)) (hc : w.cell? ad = some (.pointer v)) : (execOp ev o).run Tryz.prog w = .ok (.value (.pointer v)) w := by
  simp [execOp, ho, h, hc, go_sem]
theorem srh_fa_millraceref_Shaper_2 {p o' : Nat} (ho : o.op = .fieldAddr 52 x 2) (h : ev x = .pointer (some ⟨p, o', none⟩)) : (execOp ev o).run Tryz.prog w = .ok (.value (.pointer (some ⟨p, o' + 2, none⟩))) w := by
  simp [execOp, ho, h, go_sem]
theorem srh_loadS___millraceref_Pack {ad : Addr} {a : Option Addr} {n c : Nat} (ho : o.op = .load 44 x) (h : ev x = .pointer (some ad)) (hc : w.cell? ad = some (.slice a n c)) : (execOp ev o).run Tryz.prog w = .ok (.value (.slice a n c)) w := by
  simp [execOp, ho, h, hc, go_sem]
theorem srh_idx0___millraceref_Pack {b off n c : Nat} (ho : o.op = .indexAddr 44 x y) (h : ev x = .slice (some ⟨b, off, none⟩) n c) (k : ev y = .int .i64 0) (hj : 0 < n) : (execOp ev o).run Tryz.prog w = .ok (.value (.pointer (some ⟨b, off, none⟩))) w := by
  simp [execOp, ho, h, k, hj, go_sem]
theorem srh_fa_millraceref_Pack_0 {p o' : Nat} (ho : o.op = .fieldAddr 95 x 0) (h : ev x = .pointer (some ⟨p, o', none⟩)) : (execOp ev o).run Tryz.prog w = .ok (.value (.pointer (some ⟨p, o', none⟩))) w := by
  simp [execOp, ho, h, go_sem]
theorem srh_fa_api_Item_1 {p o' : Nat} (ho : o.op = .fieldAddr 90 x 1) (h : ev x = .pointer (some ⟨p, o', none⟩)) : (execOp ev o).run Tryz.prog w = .ok (.value (.pointer (some ⟨p, o' + 1, none⟩))) w := by
  simp [execOp, ho, h, go_sem]
theorem srh_call___millrace_millraceref_Filled__When {x0 x1 x2 : Operand} {v0 v1 v2 : Value} (ho : o.op = .call { callee := .value (.func 106), args := #[x0, x1, x2], argTypes := #[47, 3, 3] }) (hf : ev (.func 106) = .func (.func 106) #[] #[]) (h0 : ev x0 = v0) (h1 : ev x1 = v1) (h2 : ev x2 = v2) : (execOp ev o).run Tryz.prog w = .ok (.enter 106 #[v0, v1, v2]) w := by
  simp [execOp, ho, hf, h0, h1, h2, resolve, invoke, go_sem]
theorem srh_ext0 {a b : Value} (ho : o.op = .extract x 0) (h : ev x = .tuple #[a, b]) : (execOp ev o).run Tryz.prog w = .ok (.value a) w := by
  simp [execOp, ho, h, go_sem]
theorem srh_ext1 {a b : Value} (ho : o.op = .extract x 1) (h : ev x = .tuple #[a, b]) : (execOp ev o).run Tryz.prog w = .ok (.value b) w := by
  simp [execOp, ho, h, go_sem]
theorem srh_len___millraceref_Pack {a : Option Addr} {n c : Nat} (ho : o.op = .call { callee := .builtin .len, args := #[x], argTypes := #[44] }) (h : ev x = .slice a n c) : (execOp ev o).run Tryz.prog w = .ok (.value (.int .i64 (n : Int))) w := by
  simp [execOp, ho, h, resolve, invoke, builtin, Builtin.len_, go_sem]
theorem srh_eql {m n : Int} {b : Bool} (ho : o.op = .binOp .eql 3 x y 3) (h : ev x = .int .i64 m) (k : ev y = .int .i64 n) (hb : decide (m = n) = b) : (execOp ev o).run Tryz.prog w = .ok (.value (.bool b)) w := by
  subst hb
  simp [execOp, ho, h, k, go_sem]
  rfl
end
section
variable {α : Type} {U : Mach α} {N0 : Nat} {S : Side U N0 (Nat → Prop)} {q : Value} {B : Bkt} {mu : α → Nat} {p tp : Nat}
set_option maxRecDepth 100000 in
set_option maxHeartbeats 1200000 in
theorem srlook_any (hq : ∃ t v, q = .iface t v) (hF : ∀ b g, S.F b g ↔ b g) (A : Acts S 95 q) (hU : More S mu) (w : World) (lv nv : Value) (F : Nat → Prop) (s : Shp α) (n : Nat) (now : Int) (hn : Now now) (h : ShpAt stR nkR 95 S q B mu p tp w lv nv F s n) :
    Calls Tryz.prog 104 #[.pointer (some ⟨p, 0, none⟩), .int .i64 now] w fun e w' => e = .returned (.tuple #[]) ∧ ∃ lv' nv' F', ShpM stR nkR 95 S q B mu p tp w lv nv F w' lv' nv' F' (shLook U s now) n := by
  obtain ⟨tq, vq, rfl⟩ := hq
  have HQ : Hid (∃ t v, (Value.iface tq vq) = .iface t v) := Lib.hid ⟨_, _, rfl⟩
  have HA := Lib.hid h
  have HFF := Lib.hid hF
  have HNN : Hid (N0 ≤ w.heap.size) := Lib.hid (by have := h.n0.1; have := h.plt; omega)
  have c0 := h.c0
  have c2 := h.c2
  cases hd : s.held with
  | some x =>
    have HS := Lib.hid (shLook_some (U := U) (now := now) hd)
    obtain ⟨na, nc, rfl⟩ : ∃ a c, nv = .slice a 1 c := by have := h.nx; rw [hd] at this; exact RowH.shape this
    clear h hF A hU hn c0
    go_enter Tryz.func104, Tryz.ntmps104
    go_wp2
    exact bodyPost_ret (v := .tuple #[]) (by simp [results, Tryz.results104, go_sem]) rfl ⟨rfl, lv, _, F, by rw [HS.out]; exact .start HA.out⟩
  | none =>
    obtain ⟨na, nc, rfl⟩ : ∃ a c, nv = .slice a 0 c := by have := h.nx; rw [hd] at this; exact RowH.shape this
    obtain ⟨fm, rv, hm, hc⟩ := A.take
    have HPC := Lib.hid (hc w F s.a n now h.sub hn)
    have HS := Lib.hid (shLook_none (U := U) (now := now) hd)
    have hmass := hU.take h.sub hn
    have HTK := Lib.hid (hU.took h.sub hn)
    have HMS : Hid (mu s.a + s.lost.length ≤ n ∧ n ≤ 200) := Lib.hid (by have := h.mass; unfold muS at this; rw [hd] at this; simp only [Option.toList, List.length_nil] at this; omega)
    have HHD := Lib.hid hd
    generalize U.take s.a now = res at *
    obtain ⟨a1, x, L, ok⟩ := res
    have HMA := Lib.hid hmass
    simp only [] at HPC HS HMA HTK
    unfold Hel.val at HPC
    obtain ⟨i0, hi0, hz0, hz1, hz2⟩ := info_parts packInfo
    clear hmass hc h hF A hU hn hd
    go_enter Tryz.func104, Tryz.ntmps104
    go_upto_region 2 with ((with_reducible refine wpList_here "Take" ?_); refine wpList_invoke hm rfl _ _ _ rfl rfl (ys := [.int .i64 now]) rfl HPC.out ?_; rintro e w1 ⟨v1, F1, rfl, hrow, hmv⟩; have HM1 := Lib.hid ((ShpM.start HA.out).sub HFF.out hmv (by have h1 := HMS.out; have h2 := HMA.out; unfold muS; rw [HHD.out]; simp only [Option.toList, List.length_nil]; omega)); have HL1 := Lib.hid hrow; obtain ⟨lra, lrc, rfl⟩ := hrow.shape; clear hrow hmv; refine ⟨_, rfl, ?_⟩)
    obtain ⟨w2, hw2⟩ : ∃ w2, w2 = w1.alloc (.cells #[.int .i64 x.t, .int .i64 x.len, .int .i64 x.flow, .int .i64 x.band, .int .i64 x.mark, .int .i64 x.n] 95) := ⟨_, rfl⟩
    obtain ⟨xb, hxb⟩ : ∃ xb, xb = w1.heap.size := ⟨_, rfl⟩
    have HG2 : Hid (Gr w1 w2) := Lib.hid (by rw [hw2]; exact (Gr.refl _).alloc _)
    have HX2 : Hid (HelAt w2 xb 0 x ∧ ¬ SPF nkR p tp lv (.slice na 0 nc) F1 xb ∧ w.heap.size ≤ xb) := Lib.hid ⟨by rw [hw2]; exact held_new w1 x hxb, fun e => by have := HM1.out.at_.flt HFF.out e; omega, by have := HM1.out.sav.size; omega⟩
    have HM2 := Lib.hid (HM1.out.gr HFF.out HG2.out)
    have HL2 := Lib.hid (HL1.out.gr HG2.out)
    rw [← hw2, ← hxb]
    clear hw2 hxb c0 c2
    have d0 := HM2.out.at_.c3
    go_upto_region 3 with (at_builtin; refine wpList_append_any rfl _ _ _ (by rfl) i0 Hel.zero.val Tryz.underlying44 hi0 hz0 hz1 hz2 rfl ?c1 (by rfl) HM2.out.at_.row (by rfl) HL2.out ?c2 ?_; (case c1 => (intro u hu; exact (cells_int Hel.zero u (by simpa [Hel.val, Value.cells, Hel.cells] using hu)).2)); (case c2 => (have h1 := HMS.out; have h2 := HMA.out; simp only []; omega)); intro v4 w4 hrow hgr hown; obtain ⟨ra, rc, er⟩ := hrow.shape; rw [List.length_append] at er; subst er; have HX4 := Lib.hid (HX2.out.1.sav (B := fun g => lv.ownBlock = some g) (.of_grown hgr fun _ h => h) (fun e => HX2.out.2.1 (.inr (.inr (.inl e))))); have HO4 := Lib.hid (fun g (e : (Value.slice ra (s.lost.length + L.length) rc).ownBlock = some g) => hown g e); obtain ⟨d3, e3, hm4⟩ := HM2.out.lost HFF.out HQ.out HNN.out (.of_grown hgr fun _ h => h) hrow hown (by have h1 := HMS.out; have h2 := HMA.out; unfold muS; simp only [HHD.out, Option.toList, List.length_nil, List.length_append]; omega); have HM4 := Lib.hid hm4; clear hrow hgr hown hm4)
    obtain ⟨w5, hw5⟩ : ∃ w5, w5 = w4.setCell ⟨p, 3, none⟩ (.slice ra (s.lost.length + L.length) rc) := ⟨_, rfl⟩
    have HS5 : Hid (Sav (fun g => g = p) w4 w5) := Lib.hid (by rw [hw5]; exact .set p 3 (.slice ra (s.lost.length + L.length) rc))
    rw [← hw5] at HM4 ⊢
    have HX5 : Hid (HelAt w5 xb 0 x ∧ ¬ SPF nkR p tp (.slice ra (s.lost.length + L.length) rc) (.slice na 0 nc) F1 xb ∧ w.heap.size ≤ xb) := Lib.hid ⟨HX4.out.sav HS5.out (fun e => HX2.out.2.1 (.inl e)), fun e => by
      rcases e with e | e | e | e | e
      · exact HX2.out.2.1 (.inl e)
      · exact HX2.out.2.1 (.inr (.inl e))
      · rcases HO4.out xb e with h | h
        · exact HX2.out.2.1 (.inr (.inr (.inl h)))
        · have := cell_lt HX2.out.1.c0; simp at this; omega
      · exact HX2.out.2.1 (.inr (.inr (.inr (.inl e))))
      · exact HX2.out.2.1 (.inr (.inr (.inr (.inr e)))), HX2.out.2.2⟩
    clear hw5 d0 d3 e3
    cases ok with
    | false =>
      go_wp2
      go_end0
      exact ⟨rfl, _, _, F1, by rw [HS.out]; rw [HHD.out] at HM4; exact HM4.out⟩
    | true =>
      have d2 := HM4.out.at_.c2
      have e2 := HM4.out.at_.f2
      have HML : Hid (muS mu ⟨a1, s.t, some x, s.lost ++ L⟩ ≤ n ∧ ∀ y, some x = some y → 0 ≤ y.len ∧ y.len ≤ 10000) := Lib.hid ⟨by have h1 := HMS.out; have h2 := HMA.out; unfold muS; simp only [if_true, Option.toList, List.length_nil, List.length_cons, List.length_append] at h2 ⊢; omega, fun y e => by cases e; exact HTK.out rfl⟩
      obtain ⟨x0, x1, x2, x3, x4, x5⟩ := HX5.out.1
      have hpl := HM4.out.at_.plt
      go_wp2
      go_end0
      rw [← World.setCell_alloc_past _ _ _ _ hpl]
      refine ⟨rfl, .slice ra (s.lost.length + L.length) rc, .slice (some ⟨w5.heap.size, 0, none⟩) 1 1, F1, ?_⟩
      rw [HS.out]
      have hg6 : Gr w5 (w5.alloc (.cells #[.int .i64 x.t, .int .i64 x.len, .int .i64 x.flow, .int .i64 x.band, .int .i64 x.mark, .int .i64 x.n] 95)) := (Gr.refl _).alloc _
      exact (HM4.out.gr HFF.out hg6).next HFF.out HQ.out HNN.out (nv' := .slice (some ⟨w5.heap.size, 0, none⟩) 1 1) (hd := some x) (RowH.one _ _ x rfl) (fun g e => by cases e; exact ⟨HM4.out.sav.size, fun e => Nat.lt_irrefl _ (HM4.out.at_.flt HFF.out e)⟩) HML.out.1 HML.out.2
set_option maxRecDepth 100000 in
set_option maxHeartbeats 1200000 in
theorem srput_any (hq : ∃ t v, q = .iface t v) (hF : ∀ b g, S.F b g ↔ b g) (A : Acts S 95 q) (hU : More S mu) (w : World) (lv nv : Value) (F : Nat → Prop) (s : Shp α) (n : Nat) (now : Int) (y : Hel) (hg : GoodPut now y n) (h : ShpAt stR nkR 95 S q B mu p tp w lv nv F s n) :
    Calls Tryz.prog 101 #[.pointer (some ⟨p, 0, none⟩), .int .i64 now, y.val] w fun e w' => ∃ v, e = .returned v ∧ RowH 95 w' v ((shaper U B).put s now y).2 ∧ ∃ lv' nv' F', ShpM stR nkR 95 S q B mu p tp w lv nv F w' lv' nv' F' ((shaper U B).put s now y).1 (n + 1) := by
  obtain ⟨tq, vq, rfl⟩ := hq
  have HFF := Lib.hid hF
  have HPT : Hid ((shaper U B).put s now y = if (B.r : Int) < y.len then (s, [y]) else (⟨(U.put s.a now y).1, s.t, s.held, s.lost⟩, (U.put s.a now y).2)) := Lib.hid rfl
  have hm1 : muS mu s ≤ n + 1 ∧ n + 1 ≤ 200 := ⟨Nat.le_succ_of_le h.mass.1, by have := hg.few; omega⟩
  have HM1 := Lib.hid hm1
  have HUP : Hid (ShpAt stR nkR 95 S (.iface tq vq) B mu p tp w lv nv F s (n + 1)) := Lib.hid ⟨h.c0, h.c1, h.c2, h.c3, h.f2, h.f3, h.nx, h.row, h.st, h.t0, h.t2, h.ok, hU.up h.sub hg.few, h.ap, h.pF, h.tF, h.lo, h.no, h.n0, hm1, h.lens⟩
  obtain ⟨fm, rv, hm, hc⟩ := A.put
  have HPC := Lib.hid (fun u (g : Gr w u) => hc u F s.a n now y (S.gr h.sub g) hg)
  have HST := Lib.hid (fun u (g : Gr w u) => h.gr hF g)
  have HPM := Lib.hid (hU.put h.sub hg)
  have HMS := Lib.hid h.mass
  have c0 := h.c0
  have c1 := h.c1
  have t2 := h.t2
  have hpl := h.plt
  have htl := (stR.mine h.st).lt
  generalize U.put s.a now y = res at *
  obtain ⟨a1, L⟩ := res
  simp only [] at HPT HPC HPM
  rw [HPT.out]
  unfold Hel.val at HPC ⊢
  clear hm1 hc h hF A hU hg
  by_cases hr : (B.r : Int) < y.len
  · rw [if_pos hr]
    go_enter Tryz.func101, Tryz.ntmps101
    go_upto_region 1 with fail
    obtain ⟨w0, hw0⟩ : ∃ w0, w0 = w.alloc (.cells #[.int .i64 y.t, .int .i64 y.len, .int .i64 y.flow, .int .i64 y.band, .int .i64 y.mark, .int .i64 y.n] 95) := ⟨_, rfl⟩
    obtain ⟨yb, hyb⟩ : ∃ yb, yb = w.heap.size := ⟨_, rfl⟩
    have HG0 : Hid (Gr w w0) := Lib.hid (by rw [hw0]; exact (Gr.refl _).alloc _)
    have HY0 : Hid (HelAt w0 yb 0 y) := Lib.hid (by rw [hw0]; exact held_new w y hyb)
    rw [← hw0, ← hyb]
    clear hw0 hyb
    replace c0 := HG0.out.cell c0
    replace c1 := HG0.out.cell c1
    replace t2 := HG0.out.cell t2
    obtain ⟨y0, y1, y2, y3, y4, y5⟩ := HY0.out
    go_quiet (fail)
    go_wp2
    have hgf : Gr w ((w0.drewN nq).alloc (.cells #[.int .i64 y.t, .int .i64 y.len, .int .i64 y.flow, .int .i64 y.band, .int .i64 y.mark, .int .i64 y.n] 95)) := (HG0.out.drewN nq).alloc _
    exact bodyPost_ret (v := .slice (some ⟨w0.heap.size, 0, none⟩) 1 1) (by simp [results, Tryz.results101, go_sem]) rfl
      ⟨_, rfl, RowH.one _ (w0.drewN nq) y rfl, lv, nv, F, (ShpM.start HUP.out).gr HFF.out hgf⟩
  · rw [if_neg hr]
    go_enter Tryz.func101, Tryz.ntmps101
    go_upto_region 1 with fail
    obtain ⟨w0, hw0⟩ : ∃ w0, w0 = w.alloc (.cells #[.int .i64 y.t, .int .i64 y.len, .int .i64 y.flow, .int .i64 y.band, .int .i64 y.mark, .int .i64 y.n] 95) := ⟨_, rfl⟩
    obtain ⟨yb, hyb⟩ : ∃ yb, yb = w.heap.size := ⟨_, rfl⟩
    have HG0 : Hid (Gr w w0) := Lib.hid (by rw [hw0]; exact (Gr.refl _).alloc _)
    have HY0 : Hid (HelAt w0 yb 0 y) := Lib.hid (by rw [hw0]; exact held_new w y hyb)
    rw [← hw0, ← hyb]
    clear hw0 hyb
    replace c0 := HG0.out.cell c0
    replace c1 := HG0.out.cell c1
    replace t2 := HG0.out.cell t2
    obtain ⟨y0, y1, y2, y3, y4, y5⟩ := HY0.out
    go_quiet (fail)
    go_upto_region 3 with fail
    obtain ⟨wq, hwq⟩ : ∃ wq, wq = w0.drewN nq := ⟨_, rfl⟩
    have HGQ : Hid (Gr w0 wq) := Lib.hid (by rw [hwq]; exact (Gr.refl _).drewN nq)
    rw [← hwq]
    clear hwq
    have C0 := Lib.hid (HGQ.out.cell c0)
    have HYQ := Lib.hid (HY0.out.gr HGQ.out)
    clear c0 c1 t2 y0 y1 y2 y3 y4 y5
    refine wp_region_gg (n := 6) [Fg.eq (.pointer (some ⟨p, 0, none⟩)), Fg.eq (.pointer (some ⟨p, 0, none⟩)), Fg.eq (.pointer (some ⟨p, 0, none⟩)), Fg.eq (.iface tq vq), Fg.eq (.int .i64 now), Fg.eq (y.val)] [21, 22, 23, 24, 25, 26] (by kernel_rfl) (by kernel_rfl) (by kernel_rfl) ?_ ?_
    · intro L i o' ac w1 hi ho hA
      have hgr : Gr wq w1 := (Gr.refl wq).drew.trans hA.gr
      match i, hi with
      | 0, _ =>
        obtain rfl := Option.some.inj ho
        exact gg_plain rfl (gstep_val (q_move rfl (show ac.eval (.tmp 0) = .pointer (some ⟨p, 0, none⟩) from hA.other 0 (by decide))) rfl)
      | 1, _ =>
        obtain rfl := Option.some.inj ho
        exact gg_plain rfl (gstep_val (q_nil rfl (hA.fact 0 (hA.dep 0 (by kernel_rfl) (by decide)))) rfl)
      | 2, _ =>
        obtain rfl := Option.some.inj ho
        exact gg_plain rfl (gstep_val (srh_fa_millraceref_Shaper_0 rfl (hA.fact 1 (hA.dep 1 (by kernel_rfl) (by decide)))) rfl)
      | 3, _ =>
        obtain rfl := Option.some.inj ho
        exact gg_plain rfl (gstep_val (sh_loadQR rfl (hA.fact 2 (hA.dep 2 (by kernel_rfl) (by decide))) (hgr.cell C0.out)) rfl)
      | 4, _ =>
        obtain rfl := Option.some.inj ho
        exact gg_plain rfl (gstep_val (q_move rfl (show ac.eval (.tmp 1) = .int .i64 now from hA.other 1 (by decide))) rfl)
      | 5, _ =>
        obtain rfl := Option.some.inj ho
        exact gg_plain rfl (gstep_val (q_loadP rfl (show ac.eval (.tmp 5) = .pointer (some ⟨yb, 0, none⟩) from hA.other 5 (by decide)) (HYQ.out.gr hgr)) rfl)
      | k + 6, hk => exact absurd (show k + 6 < 6 from hk) (by omega)
    · intro vs w5 hg5 hv
      have HGX := Lib.hid ((Gr.refl wq).drew.trans hg5)
      have v24 : vs 3 = .iface tq vq := hv 3 (by omega)
      have v25 : vs 4 = .int .i64 now := hv 4 (by omega)
      have v26 : vs 5 = y.val := hv 5 (by omega)
      clear hv hg5
      simp only [putN, List.drop_succ_cons, List.drop_zero, List.getElem?_cons_succ, List.getElem?_cons_zero]
      generalize vs 3 = z24 at *
      subst v24
      generalize vs 4 = z25 at *
      subst v25
      generalize vs 5 = z26 at *
      subst v26
      generalize vs 0 = z21 at *
      generalize vs 1 = z22 at *
      generalize vs 2 = z23 at *
      have HG5 := Lib.hid (HG0.out.trans (HGQ.out.trans HGX.out))
      unfold Hel.val
      refine wpList_invoke hm rfl _ _ _ rfl (by simp [go_sem]) (ys := [.int .i64 now, .agg #[.int .i64 y.t, .int .i64 y.len, .int .i64 y.flow, .int .i64 y.band, .int .i64 y.mark, .int .i64 y.n]]) (by simp [go_sem]) (HPC.out w5 HG5.out) ?_
      rintro e w6 ⟨v1, F1, rfl, hrow, hmv⟩
      have HM6 := Lib.hid (((ShpM.start HUP.out).gr HFF.out HG5.out).sub HFF.out hmv (by have h1 := HMS.out; have h2 := HPM.out; have h3 := HM1.out; unfold muS at *; simp only [] at *; omega))
      have HL6 := Lib.hid hrow
      obtain ⟨lra, lrc, rfl⟩ := hrow.shape
      clear hrow hmv
      refine ⟨_, rfl, ?_⟩
      go_wp2
      go_ret
      exact ⟨_, rfl, HL6.out, lv, nv, F1, HM6.out⟩
set_option maxRecDepth 100000 in
set_option maxHeartbeats 1200000 in
theorem srtake_any (hq : ∃ t v, q = .iface t v) (hF : ∀ b g, S.F b g ↔ b g) (A : Acts S 95 q) (hU : More S mu) (w : World) (lv nv : Value) (F : Nat → Prop) (s : Shp α) (n : Nat) (now : Int) (hn : Now now) (h : ShpAt stR nkR 95 S q B mu p tp w lv nv F s n) :
    Calls Tryz.prog 102 #[.pointer (some ⟨p, 0, none⟩), .int .i64 now] w fun e w' => ∃ v, e = .returned (.tuple #[((shaper U B).take s now).2.1.val, v, .bool ((shaper U B).take s now).2.2.2]) ∧ RowH 95 w' v ((shaper U B).take s now).2.2.1 ∧ ∃ lv' nv' F', ShpM stR nkR 95 S q B mu p tp w lv nv F w' lv' nv' F' ((shaper U B).take s now).1 n := by
  have HQ := Lib.hid hq
  have HFF := Lib.hid hF
  have HNN : Hid (N0 ≤ w.heap.size) := Lib.hid (by have := h.n0.1; have := h.plt; omega)
  have HPT : Hid ((shaper U B).take s now = shGo B (shLook U s now) now) := Lib.hid rfl
  have HLK := Lib.hid (fun u (g : Gr w u) => srlook_any hq hF A hU u lv nv F s n now hn (h.gr hF g))
  have HN0 : Hid (-9223372036854775808 ≤ now) := Lib.hid (by have := hn.1; omega)
  have HSZ : Hid (∀ g, SPF nkR p tp lv nv F g → g < w.heap.size) := Lib.hid (fun g e => h.flt hF e)
  have HST := Lib.hid (ShpM.start h)
  rw [HPT.out]
  generalize shLook U s now = s1 at *
  clear h hF A hU hn hq
  go_enter Tryz.func102, Tryz.ntmps102
  go_upto_region 1 with fail
  obtain ⟨w0, hw0⟩ : ∃ w0, w0 = w.alloc (.cells #[.int .i64 0, .int .i64 0, .int .i64 0, .int .i64 0, .int .i64 0, .int .i64 0] 95) := ⟨_, rfl⟩
  obtain ⟨rb, hrb⟩ : ∃ rb, rb = w.heap.size := ⟨_, rfl⟩
  have HR0 : Hid (HelRes w0 rb .zero ∧ rb = w.heap.size) := Lib.hid (by rw [hw0]; exact ⟨helRes_new w .zero hrb, hrb⟩)
  have HG0 : Hid (Gr w w0) := Lib.hid (by rw [hw0]; exact (Gr.refl _).alloc _)
  rw [← hw0, ← hrb]
  clear hw0 hrb
  have HS0 := Lib.hid (HST.out.gr HFF.out HG0.out)
  go_upto_region 2 with (go_at_call 104; refine (HLK.out w0 HG0.out).mono ?_; rintro e w1 ⟨rfl, lv1, nv1, F1, hm1⟩; have HM1 := Lib.hid hm1; obtain ⟨la, lc, rfl⟩ := hm1.at_.row.shape; have d3 := hm1.at_.c3; have e3 := hm1.at_.f3; have HR1 := Lib.hid (HR0.out.1.sav hm1.sav (fun e => by have h1 := HSZ.out rb e; have h2 := HR0.out.2; omega)); clear hm1)
  have HN1 : Hid (N0 ≤ w0.heap.size) := Lib.hid (Nat.le_trans HNN.out HG0.out.size)
  have HB1 : Hid (¬ SPF nkR p tp (.slice la s1.lost.length lc) nv1 F1 rb ∧ w.heap.size ≤ rb ∧ rb < w0.heap.size) := Lib.hid ⟨fun e => (HM1.out.new rb e).elim (fun e => by have h1 := HSZ.out rb e; have h2 := HR0.out.2; omega) (fun e => by have h1 := cell_lt HR0.out.1.at_.c0; simp at h1; omega), Nat.le_of_eq HR0.out.2.symm, cell_lt HR0.out.1.at_.c0⟩
  go_upto_region 4 with fail
  obtain ⟨w2, hw2⟩ : ∃ w2, w2 = w1.setCell ⟨p, 3, none⟩ (.slice none 0 0) := ⟨_, rfl⟩
  have HS2 : Hid (Sav (fun g => g = p) w1 w2) := Lib.hid (by rw [hw2]; exact .set p 3 (.slice none 0 0))
  have HM2 : Hid (ShpM stR nkR 95 S q B mu p tp w0 lv nv F w2 (.slice none 0 0) nv1 F1 ⟨s1.a, s1.t, s1.held, []⟩ n) := Lib.hid (by
    rw [hw2]
    exact (HM1.out.lost HFF.out HQ.out HN1.out (.refl _ _) (RowH.nil _ _) (fun g e => by cases e) (by have := HM1.out.at_.mass.1; unfold muS at *; simp only [List.length_nil]; omega)).2.2)
  have HL2 : Hid (RowH 95 w2 (.slice la s1.lost.length lc) s1.lost ∧ ∀ g, (Value.slice la s1.lost.length lc).ownBlock = some g → (g ≠ p ∧ g ≠ tp) ∧ g ≠ rb) := Lib.hid ⟨HM1.out.at_.row.sav HS2.out (fun g e => (HM1.out.at_.lo g e).1.2.1), fun g e => ⟨(HM1.out.at_.lo g e).1.2, fun e2 => HB1.out.1 (.inr (.inr (.inl (by rw [← e2]; exact e))))⟩⟩
  have HR2 := Lib.hid (HR1.out.sav HS2.out (fun e => HB1.out.1 (.inl e)))
  have HB2 : Hid (¬ SPF nkR p tp (.slice none 0 0) nv1 F1 rb) := Lib.hid (fun e => HB1.out.1 (e.imp id (fun e => e.imp id (fun e => .inr (e.elim (fun e => by cases e) id)))))
  rw [← hw2]
  clear hw2 d3 e3
  cases hd : s1.held with
  | none =>
    have HGO := Lib.hid (shGo_none (B := B) (now := now) hd)
    obtain ⟨na, nc, rfl⟩ : ∃ a c, nv1 = .slice a 0 c := by have h9 := HM1.out.at_.nx; rw [hd] at h9; exact RowH.shape h9
    have C2 := Lib.hid HM2.out.at_.c2
    refine wp_region_gg (n := 22) [Fg.eq (.pointer (some ⟨p, 0, none⟩)), Fg.eq (.pointer (some ⟨p, 0, none⟩)), Fg.eq (.pointer (some ⟨p, 2, none⟩)), Fg.eq (.slice na 0 nc), Fg.eq (.int .i64 (0 : Int)), Fg.eq (.bool true), Fg.eq (.bool true), Fg.eq undef, Fg.eq undef, Fg.eq undef, Fg.eq undef, Fg.eq undef, Fg.eq undef, Fg.eq undef, Fg.eq undef, Fg.eq undef, Fg.eq undef, Fg.eq undef, Fg.eq undef, Fg.eq undef, Fg.eq undef, Fg.eq undef] [19, 20, 21, 22, 23, 24, 25, 26, 27, 28, 29, 30, 31, 32, 33, 34, 35, 36, 37, 38, 39, 40] (by kernel_rfl) (by kernel_rfl) (by kernel_rfl) ?_ ?_
    · intro L i o' ac w1 hi ho hA
      have hgr : Gr w2 w1 := (Gr.refl w2).drew.trans hA.gr
      match i, hi with
      | 0, _ =>
        obtain rfl := Option.some.inj ho
        exact gg_plain rfl (gstep_val (q_move rfl (show ac.eval (.tmp 0) = .pointer (some ⟨p, 0, none⟩) from hA.other 0 (by decide))) rfl)
      | 1, _ =>
        obtain rfl := Option.some.inj ho
        exact gg_plain rfl (gstep_val (q_nil rfl (hA.fact 0 (hA.dep 0 (by kernel_rfl) (by decide)))) rfl)
      | 2, _ =>
        obtain rfl := Option.some.inj ho
        exact gg_plain rfl (gstep_val (srh_fa_millraceref_Shaper_2 rfl (hA.fact 1 (hA.dep 1 (by kernel_rfl) (by decide)))) rfl)
      | 3, _ =>
        obtain rfl := Option.some.inj ho
        exact gg_plain rfl (gstep_val (srh_loadS___millraceref_Pack rfl (hA.fact 2 (hA.dep 2 (by kernel_rfl) (by decide))) (hgr.cell C2.out)) rfl)
      | 4, _ =>
        obtain rfl := Option.some.inj ho
        exact gg_plain rfl (gstep_val (srh_len___millraceref_Pack rfl (hA.fact 3 (hA.dep 3 (by kernel_rfl) (by decide)))) rfl)
      | 5, _ =>
        obtain rfl := Option.some.inj ho
        exact gg_plain rfl (gstep_val (srh_eql rfl (hA.fact 4 (hA.dep 4 (by kernel_rfl) (by decide))) rfl (rfl)) rfl)
      | 6, _ =>
        obtain rfl := Option.some.inj ho
        exact gg_plain rfl (gstep_val (q_move rfl (hA.fact 5 (hA.dep 5 (by kernel_rfl) (by decide)))) rfl)
      | 7, _ =>
        obtain rfl := Option.some.inj ho
        exact gg_no (b := false) rfl (hA.fact 6 (hA.dep 6 (by kernel_rfl) (by decide))) rfl
      | 8, _ =>
        obtain rfl := Option.some.inj ho
        exact gg_no (b := false) rfl (hA.fact 6 (hA.dep 6 (by kernel_rfl) (by decide))) rfl
      | 9, _ =>
        obtain rfl := Option.some.inj ho
        exact gg_no (b := false) rfl (hA.fact 6 (hA.dep 6 (by kernel_rfl) (by decide))) rfl
      | 10, _ =>
        obtain rfl := Option.some.inj ho
        exact gg_no (b := false) rfl (hA.fact 6 (hA.dep 6 (by kernel_rfl) (by decide))) rfl
      | 11, _ =>
        obtain rfl := Option.some.inj ho
        exact gg_no (b := false) rfl (hA.fact 6 (hA.dep 6 (by kernel_rfl) (by decide))) rfl
      | 12, _ =>
        obtain rfl := Option.some.inj ho
        exact gg_no (b := false) rfl (hA.fact 6 (hA.dep 6 (by kernel_rfl) (by decide))) rfl
      | 13, _ =>
        obtain rfl := Option.some.inj ho
        exact gg_no (b := false) rfl (hA.fact 6 (hA.dep 6 (by kernel_rfl) (by decide))) rfl
      | 14, _ =>
        obtain rfl := Option.some.inj ho
        exact gg_no (b := false) rfl (hA.fact 6 (hA.dep 6 (by kernel_rfl) (by decide))) rfl
      | 15, _ =>
        obtain rfl := Option.some.inj ho
        exact gg_no (b := false) rfl (hA.fact 6 (hA.dep 6 (by kernel_rfl) (by decide))) rfl
      | 16, _ =>
        obtain rfl := Option.some.inj ho
        exact gg_no (b := false) rfl (hA.fact 6 (hA.dep 6 (by kernel_rfl) (by decide))) rfl
      | 17, _ =>
        obtain rfl := Option.some.inj ho
        exact gg_no (b := false) rfl (hA.fact 6 (hA.dep 6 (by kernel_rfl) (by decide))) rfl
      | 18, _ =>
        obtain rfl := Option.some.inj ho
        exact gg_no (b := false) rfl (hA.fact 6 (hA.dep 6 (by kernel_rfl) (by decide))) rfl
      | 19, _ =>
        obtain rfl := Option.some.inj ho
        exact gg_no (b := false) rfl (hA.fact 6 (hA.dep 6 (by kernel_rfl) (by decide))) rfl
      | 20, _ =>
        obtain rfl := Option.some.inj ho
        exact gg_no (b := false) rfl (hA.fact 6 (hA.dep 6 (by kernel_rfl) (by decide))) rfl
      | 21, _ =>
        obtain rfl := Option.some.inj ho
        exact gg_no (b := false) rfl (hA.fact 6 (hA.dep 6 (by kernel_rfl) (by decide))) rfl
      | k + 22, hk => exact absurd (show k + 22 < 22 from hk) (by omega)
    · intro vs w5 hg5 hv
      have HGX := Lib.hid ((Gr.refl w2).drew.trans hg5)
      have v25 : vs 6 = .bool true := hv 6 (by omega)
      have v40 : vs 21 = undef := hv 21 (by omega)
      clear hv hg5
      simp only [putN, List.drop_succ_cons, List.drop_zero, List.getElem?_cons_succ, List.getElem?_cons_zero]
      generalize vs 6 = z25 at *
      subst v25
      generalize vs 21 = z40 at *
      subst v40
      generalize vs 0 = z19 at *
      generalize vs 1 = z20 at *
      generalize vs 2 = z21 at *
      generalize vs 3 = z22 at *
      generalize vs 4 = z23 at *
      generalize vs 5 = z24 at *
      generalize vs 7 = z26 at *
      generalize vs 8 = z27 at *
      generalize vs 9 = z28 at *
      generalize vs 10 = z29 at *
      generalize vs 11 = z30 at *
      generalize vs 12 = z31 at *
      generalize vs 13 = z32 at *
      generalize vs 14 = z33 at *
      generalize vs 15 = z34 at *
      generalize vs 16 = z35 at *
      generalize vs 17 = z36 at *
      generalize vs 18 = z37 at *
      generalize vs 19 = z38 at *
      generalize vs 20 = z39 at *
      have HR5 := Lib.hid (HR2.out.gr HGX.out)
      have HM5 : Hid (ShpM stR nkR 95 S q B mu p tp w lv nv F w5 (.slice none 0 0) _ F1 ⟨s1.a, s1.t, none, []⟩ n) := Lib.hid (by have h9 := HS0.out.trans (HM2.out.gr HFF.out HGX.out); rw [hd] at h9; exact h9)
      obtain ⟨⟨r0, r1, r2, r3, r4, r5⟩, s0, s1', s2, s3, s4, s5⟩ := HR5.out
      go_wp2
      obtain ⟨w6, hw6⟩ : ∃ u, u = ((((((w5.setCell ⟨rb, 0, none⟩ (.int .i64 0)).setCell ⟨rb, 1, none⟩ (.int .i64 0)).setCell ⟨rb, 2, none⟩ (.int .i64 0)).setCell ⟨rb, 3, none⟩ (.int .i64 0)).setCell ⟨rb, 4, none⟩ (.int .i64 0)).setCell ⟨rb, 5, none⟩ (.int .i64 0)) := ⟨_, rfl⟩
      have HRL := Lib.hid (show HelRes w6 rb .zero ∧ Sav (fun q => q = rb) w5 w6 from by rw [hw6]; exact hel_set6 HR5.out .zero)
      rw [← hw6]
      clear hw6 r0 r1 r2 r3 r4 r5 s0 s1' s2 s3 s4 s5
      obtain ⟨⟨q0, q1, q2, q3, q4, q5⟩, _⟩ := HRL.out.1
      have HMF := Lib.hid (ShpM.own HFF.out HM5.out HNN.out HRL.out.2 (.of_sav HRL.out.2 fun g e => by rw [e]; exact .of_cell (HR5.out).at_.c0 (fun b e => by cases e) (fun x e => by cases e)) (fun g e => by rw [e]; exact ⟨HB1.out.2.1, HB2.out⟩))
      exact bodyPost_ret (v := .tuple #[.agg #[.int .i64 0, .int .i64 0, .int .i64 0, .int .i64 0, .int .i64 0, .int .i64 0], .slice la s1.lost.length lc, .bool false]) (by simp [results, Tryz.results102, go_sem, q0, q1, q2, q3, q4, q5, Hel.zero]) rfl
        ⟨.slice la s1.lost.length lc, by rw [HGO.out]; rfl, by rw [HGO.out]; exact RowH.sav (HL2.out.1.gr HGX.out) HRL.out.2 (fun g e => (HL2.out.2 g e).2), _, _, F1, by rw [HGO.out]; exact HMF.out⟩
  | some y =>
    obtain ⟨na, nc, rfl, _, _, hx⟩ : ∃ a c, nv1 = .slice a 1 c ∧ 1 ≤ c ∧ c ≤ maxLen ∧ Hid (0 < 1 → ∃ b off, a = some ⟨b, off, none⟩ ∧ ∀ i, i < 1 → HelAt w1 b (off + i * 6) ([y].getD i .zero)) := by have h9 := HM1.out.at_.nx; rw [hd] at h9; exact RowH.any h9
    obtain ⟨hp, ho, rfl, hx1⟩ := hx.out (by decide)
    have HX2 : Hid (HelAt w2 hp ho y ∧ ¬ hp = tp ∧ ¬ hp = rb) := Lib.hid ⟨(show HelAt w1 hp ho y from hx1 0 (by decide)).sav HS2.out (HM1.out.at_.no hp rfl).1.2.1, (HM1.out.at_.no hp rfl).1.2.2, fun e => HB1.out.1 (.inr (.inr (.inr (.inl (by rw [← e]; rfl)))))⟩
    clear hx hx1
    obtain ⟨fg, hfg⟩ := stR_open HM2.out.at_.st
    have HFG : Hid (FAt w2 tp B s1.t fg) := Lib.hid hfg
    clear hfg
    have C1 := Lib.hid HM2.out.at_.c1
    have C2 := Lib.hid HM2.out.at_.c2
    have HST2 := Lib.hid (fun u (g : Gr w2 u) => HM2.out.gr HFF.out g)
    obtain ⟨bb, hbb⟩ : ∃ bb, bb = (B.take s1.t now y.len).1 := ⟨_, rfl⟩
    have HBB := Lib.hid hbb
    clear hbb
    refine wp_region_gg (n := 20) [Fg.eq (.pointer (some ⟨p, 0, none⟩)), Fg.eq (.pointer (some ⟨p, 0, none⟩)), Fg.eq (.pointer (some ⟨p, 2, none⟩)), Fg.eq (.slice (some ⟨hp, ho, none⟩) 1 nc), Fg.eq (.int .i64 (1 : Int)), Fg.eq (.bool false), Fg.eq (.bool false), Fg.eq (.pointer (some ⟨p, 0, none⟩)), Fg.eq (.pointer (some ⟨p, 0, none⟩)), Fg.eq (.pointer (some ⟨p, 1, none⟩)), Fg.eq (.pointer (some ⟨tp, 0, none⟩)), Fg.eq (.int .i64 now), Fg.eq (.pointer (some ⟨p, 0, none⟩)), Fg.eq (.pointer (some ⟨p, 0, none⟩)), Fg.eq (.pointer (some ⟨p, 2, none⟩)), Fg.eq (.slice (some ⟨hp, ho, none⟩) 1 nc), Fg.eq (.pointer (some ⟨hp, ho, none⟩)), Fg.eq (.pointer (some ⟨hp, ho, none⟩)), Fg.eq (.pointer (some ⟨hp, ho + 1, none⟩)), Fg.eq (.int .i64 y.len)] [19, 20, 21, 22, 23, 24, 25, 26, 27, 28, 29, 30, 31, 32, 33, 34, 35, 36, 37, 38] (by kernel_rfl) (by kernel_rfl) (by kernel_rfl) ?_ ?_
    · intro L i o' ac w1 hi ho hA
      have hgr : Gr w2 w1 := (Gr.refl w2).drew.trans hA.gr
      match i, hi with
      | 0, _ =>
        obtain rfl := Option.some.inj ho
        exact gg_plain rfl (gstep_val (q_move rfl (show ac.eval (.tmp 0) = .pointer (some ⟨p, 0, none⟩) from hA.other 0 (by decide))) rfl)
      | 1, _ =>
        obtain rfl := Option.some.inj ho
        exact gg_plain rfl (gstep_val (q_nil rfl (hA.fact 0 (hA.dep 0 (by kernel_rfl) (by decide)))) rfl)
      | 2, _ =>
        obtain rfl := Option.some.inj ho
        exact gg_plain rfl (gstep_val (srh_fa_millraceref_Shaper_2 rfl (hA.fact 1 (hA.dep 1 (by kernel_rfl) (by decide)))) rfl)
      | 3, _ =>
        obtain rfl := Option.some.inj ho
        exact gg_plain rfl (gstep_val (srh_loadS___millraceref_Pack rfl (hA.fact 2 (hA.dep 2 (by kernel_rfl) (by decide))) (hgr.cell C2.out)) rfl)
      | 4, _ =>
        obtain rfl := Option.some.inj ho
        exact gg_plain rfl (gstep_val (srh_len___millraceref_Pack rfl (hA.fact 3 (hA.dep 3 (by kernel_rfl) (by decide)))) rfl)
      | 5, _ =>
        obtain rfl := Option.some.inj ho
        exact gg_plain rfl (gstep_val (srh_eql rfl (hA.fact 4 (hA.dep 4 (by kernel_rfl) (by decide))) rfl (rfl)) rfl)
      | 6, _ =>
        obtain rfl := Option.some.inj ho
        exact gg_plain rfl (gstep_val (q_move rfl (hA.fact 5 (hA.dep 5 (by kernel_rfl) (by decide)))) rfl)
      | 7, _ =>
        obtain rfl := Option.some.inj ho
        exact gg_yes (b := false) rfl (hA.fact 6 (hA.dep 6 (by kernel_rfl) (by decide))) (gstep_val (q_move rfl (show ac.eval (.tmp 0) = .pointer (some ⟨p, 0, none⟩) from hA.other 0 (by decide))) rfl)
      | 8, _ =>
        obtain rfl := Option.some.inj ho
        exact gg_yes (b := false) rfl (hA.fact 6 (hA.dep 6 (by kernel_rfl) (by decide))) (gstep_val (q_nil rfl (hA.fact 7 (hA.dep 7 (by kernel_rfl) (by decide)))) rfl)
      | 9, _ =>
        obtain rfl := Option.some.inj ho
        exact gg_yes (b := false) rfl (hA.fact 6 (hA.dep 6 (by kernel_rfl) (by decide))) (gstep_val (srh_fa_millraceref_Shaper_1 rfl (hA.fact 8 (hA.dep 8 (by kernel_rfl) (by decide)))) rfl)
      | 10, _ =>
        obtain rfl := Option.some.inj ho
        exact gg_yes (b := false) rfl (hA.fact 6 (hA.dep 6 (by kernel_rfl) (by decide))) (gstep_val (srh_loadP__millraceref_Filled rfl (hA.fact 9 (hA.dep 9 (by kernel_rfl) (by decide))) (hgr.cell C1.out)) rfl)
      | 11, _ =>
        obtain rfl := Option.some.inj ho
        exact gg_yes (b := false) rfl (hA.fact 6 (hA.dep 6 (by kernel_rfl) (by decide))) (gstep_val (q_move rfl (show ac.eval (.tmp 1) = .int .i64 now from hA.other 1 (by decide))) rfl)
      | 12, _ =>
        obtain rfl := Option.some.inj ho
        exact gg_yes (b := false) rfl (hA.fact 6 (hA.dep 6 (by kernel_rfl) (by decide))) (gstep_val (q_move rfl (show ac.eval (.tmp 0) = .pointer (some ⟨p, 0, none⟩) from hA.other 0 (by decide))) rfl)
      | 13, _ =>
        obtain rfl := Option.some.inj ho
        exact gg_yes (b := false) rfl (hA.fact 6 (hA.dep 6 (by kernel_rfl) (by decide))) (gstep_val (q_nil rfl (hA.fact 12 (hA.dep 12 (by kernel_rfl) (by decide)))) rfl)
      | 14, _ =>
        obtain rfl := Option.some.inj ho
        exact gg_yes (b := false) rfl (hA.fact 6 (hA.dep 6 (by kernel_rfl) (by decide))) (gstep_val (srh_fa_millraceref_Shaper_2 rfl (hA.fact 13 (hA.dep 13 (by kernel_rfl) (by decide)))) rfl)
      | 15, _ =>
        obtain rfl := Option.some.inj ho
        exact gg_yes (b := false) rfl (hA.fact 6 (hA.dep 6 (by kernel_rfl) (by decide))) (gstep_val (srh_loadS___millraceref_Pack rfl (hA.fact 14 (hA.dep 14 (by kernel_rfl) (by decide))) (hgr.cell C2.out)) rfl)
      | 16, _ =>
        obtain rfl := Option.some.inj ho
        exact gg_yes (b := false) rfl (hA.fact 6 (hA.dep 6 (by kernel_rfl) (by decide))) (gstep_val (srh_idx0___millraceref_Pack rfl (hA.fact 15 (hA.dep 15 (by kernel_rfl) (by decide))) rfl (by decide)) rfl)
      | 17, _ =>
        obtain rfl := Option.some.inj ho
        exact gg_yes (b := false) rfl (hA.fact 6 (hA.dep 6 (by kernel_rfl) (by decide))) (gstep_val (srh_fa_millraceref_Pack_0 rfl (hA.fact 16 (hA.dep 16 (by kernel_rfl) (by decide)))) rfl)
      | 18, _ =>
        obtain rfl := Option.some.inj ho
        exact gg_yes (b := false) rfl (hA.fact 6 (hA.dep 6 (by kernel_rfl) (by decide))) (gstep_val (srh_fa_api_Item_1 rfl (hA.fact 17 (hA.dep 17 (by kernel_rfl) (by decide)))) rfl)
      | 19, _ =>
        obtain rfl := Option.some.inj ho
        exact gg_yes (b := false) rfl (hA.fact 6 (hA.dep 6 (by kernel_rfl) (by decide))) (gstep_val (q_loadI rfl (hA.fact 18 (hA.dep 18 (by kernel_rfl) (by decide))) (hgr.cell HX2.out.1.c1)) rfl)
      | k + 20, hk => exact absurd (show k + 20 < 20 from hk) (by omega)
    · intro vs w5 hg5 hv
      have HGX := Lib.hid ((Gr.refl w2).drew.trans hg5)
      have v25 : vs 6 = .bool false := hv 6 (by omega)
      have v29 : vs 10 = .pointer (some ⟨tp, 0, none⟩) := hv 10 (by omega)
      have v30 : vs 11 = .int .i64 now := hv 11 (by omega)
      have v38 : vs 19 = .int .i64 y.len := hv 19 (by omega)
      clear hv hg5
      simp only [putN, List.drop_succ_cons, List.drop_zero, List.getElem?_cons_succ, List.getElem?_cons_zero]
      generalize vs 6 = z25 at *
      subst v25
      generalize vs 10 = z29 at *
      subst v29
      generalize vs 11 = z30 at *
      subst v30
      generalize vs 19 = z38 at *
      subst v38
      generalize vs 0 = z19 at *
      generalize vs 1 = z20 at *
      generalize vs 2 = z21 at *
      generalize vs 3 = z22 at *
      generalize vs 4 = z23 at *
      generalize vs 5 = z24 at *
      generalize vs 7 = z26 at *
      generalize vs 8 = z27 at *
      generalize vs 9 = z28 at *
      generalize vs 12 = z31 at *
      generalize vs 13 = z32 at *
      generalize vs 14 = z33 at *
      generalize vs 15 = z34 at *
      generalize vs 16 = z35 at *
      generalize vs 17 = z36 at *
      generalize vs 18 = z37 at *
      have HM5 := Lib.hid (HST2.out w5 HGX.out)
      have HR5 := Lib.hid (HR2.out.gr HGX.out)
      have HL5 := Lib.hid (HL2.out.1.gr HGX.out)
      cases bb with
      | false =>
        have HGO := Lib.hid (shGo_no (B := B) (now := now) hd (by rw [← HBB.out]; decide))
        go_upto_region 5 with (go_at_call 105; refine (rtake_any tp fg B s1.t now y.len w5 (HFG.out.gr HGX.out) HM5.out.at_.ok HN0.out).mono ?_; rw [← HBB.out]; rintro e w6 ⟨rfl, hst, ho6⟩; have HM6 := Lib.hid (HM5.out.tok HFF.out hst ho6 (B.take_ok HM5.out.at_.ok now y.len)); have HO6 := Lib.hid (Sav.of_only ho6); clear hst ho6)
        have HR6 := Lib.hid (HR5.out.sav HO6.out (fun e => HB1.out.1 (.inr (.inl e))))
        have HL6 := Lib.hid (HL5.out.sav HO6.out (fun g e => (HL2.out.2 g e).1.2))
        have HM7 : Hid (ShpM stR nkR 95 S q B mu p tp w lv nv F w6 (.slice none 0 0) _ F1 ⟨s1.a, (B.take s1.t now y.len).2, some y, []⟩ n) := Lib.hid (by have h9 := HS0.out.trans HM6.out; rw [hd] at h9; exact h9)
        obtain ⟨⟨r0, r1, r2, r3, r4, r5⟩, s0, s1', s2, s3, s4, s5⟩ := HR6.out
        go_wp2
        obtain ⟨w7, hw7⟩ : ∃ u, u = ((((((w6.setCell ⟨rb, 0, none⟩ (.int .i64 0)).setCell ⟨rb, 1, none⟩ (.int .i64 0)).setCell ⟨rb, 2, none⟩ (.int .i64 0)).setCell ⟨rb, 3, none⟩ (.int .i64 0)).setCell ⟨rb, 4, none⟩ (.int .i64 0)).setCell ⟨rb, 5, none⟩ (.int .i64 0)) := ⟨_, rfl⟩
        have HRL := Lib.hid (show HelRes w7 rb .zero ∧ Sav (fun q => q = rb) w6 w7 from by rw [hw7]; exact hel_set6 HR6.out .zero)
        rw [← hw7]
        clear hw7 r0 r1 r2 r3 r4 r5 s0 s1' s2 s3 s4 s5
        obtain ⟨⟨q0, q1, q2, q3, q4, q5⟩, _⟩ := HRL.out.1
        have HMF := Lib.hid (ShpM.own HFF.out HM7.out HNN.out HRL.out.2 (.of_sav HRL.out.2 fun g e => by rw [e]; exact .of_cell (HR6.out).at_.c0 (fun b e => by cases e) (fun x e => by cases e)) (fun g e => by rw [e]; exact ⟨HB1.out.2.1, HB2.out⟩))
        exact bodyPost_ret (v := .tuple #[.agg #[.int .i64 0, .int .i64 0, .int .i64 0, .int .i64 0, .int .i64 0, .int .i64 0], .slice la s1.lost.length lc, .bool false]) (by simp [results, Tryz.results102, go_sem, q0, q1, q2, q3, q4, q5, Hel.zero]) rfl
          ⟨.slice la s1.lost.length lc, by rw [HGO.out]; rfl, by rw [HGO.out]; exact RowH.sav HL6.out HRL.out.2 (fun g e => (HL2.out.2 g e).2), _, _, F1, by rw [HGO.out]; exact HMF.out⟩
      | true =>
        have HGO := Lib.hid (shGo_yes (B := B) (now := now) hd HBB.out.symm)
        go_upto_region 6 with (go_at_call 105; refine (rtake_any tp fg B s1.t now y.len w5 (HFG.out.gr HGX.out) HM5.out.at_.ok HN0.out).mono ?_; rw [← HBB.out]; rintro e w6 ⟨rfl, hst, ho6⟩; have HM6 := Lib.hid (HM5.out.tok HFF.out hst ho6 (B.take_ok HM5.out.at_.ok now y.len)); have HO6 := Lib.hid (Sav.of_only ho6); clear hst ho6)
        have HR6 := Lib.hid (HR5.out.sav HO6.out (fun e => HB1.out.1 (.inr (.inl e))))
        have HL6 := Lib.hid (HL5.out.sav HO6.out (fun g e => (HL2.out.2 g e).1.2))
        have HX6 := Lib.hid ((HX2.out.1.gr HGX.out).sav HO6.out HX2.out.2.1)
        have HMA := Lib.hid (HS0.out.trans HM6.out)
        have d2 := HMA.out.at_.c2
        obtain ⟨x0, x1, x2, x3, x4, x5⟩ := HX6.out
        go_upto_region 7 with fail
        obtain ⟨w7, hw7⟩ : ∃ u, u = w6.alloc (.cells #[.int .i64 y.t, .int .i64 y.len, .int .i64 y.flow, .int .i64 y.band, .int .i64 y.mark, .int .i64 y.n] 95) := ⟨_, rfl⟩
        obtain ⟨yb, hyb⟩ : ∃ u, u = w6.heap.size := ⟨_, rfl⟩
        have HG7 : Hid (Gr w6 w7) := Lib.hid (by rw [hw7]; exact (Gr.refl _).alloc _)
        have HY7 : Hid (HelAt w7 yb 0 y ∧ yb ≠ p) := Lib.hid ⟨by rw [hw7]; exact held_new w6 y hyb, fun e => by have := HMA.out.at_.plt; omega⟩
        rw [← hw7, ← hyb]
        clear hw7 hyb x0 x1 x2 x3 x4 x5 d2
        have HM7 := Lib.hid (HMA.out.gr HFF.out HG7.out)
        have HL7 := Lib.hid (HL6.out.gr HG7.out)
        have HR7' := Lib.hid (HR6.out.gr HG7.out)
        have d2 := HM7.out.at_.c2
        have e2 := HM7.out.at_.f2
        go_upto_region 8 with fail
        obtain ⟨w8, hw8⟩ : ∃ u, u = w7.setCell ⟨p, 2, none⟩ (.slice none 0 0) := ⟨_, rfl⟩
        have HS8 : Hid (Sav (fun g => g = p) w7 w8) := Lib.hid (by rw [hw8]; exact .set p 2 (.slice none 0 0))
        have HM8 : Hid (ShpM stR nkR 95 S q B mu p tp w lv nv F w8 (.slice none 0 0) (.slice none 0 0) F1 ⟨s1.a, (B.take s1.t now y.len).2, none, []⟩ n) := Lib.hid (by
          rw [hw8]
          exact HM7.out.next HFF.out HQ.out HNN.out (nv' := .slice none 0 0) (hd := none) (RowH.nil _ _) (fun g e => by cases e) (by have h9 := HM7.out.at_.mass.1; unfold muS at *; simp only [Option.toList, List.length_nil] at *; omega) (fun x e => by cases e))
        rw [← hw8]
        clear hw8 d2 e2
        have HR8 := Lib.hid (HR7'.out.sav HS8.out (fun e => HB1.out.1 (.inl e)))
        have HL8 := Lib.hid (HL7.out.sav HS8.out (fun g e => (HL2.out.2 g e).1.1))
        obtain ⟨x0, x1, x2, x3, x4, x5⟩ := HY7.out.1.sav HS8.out HY7.out.2
        obtain ⟨⟨r0, r1, r2, r3, r4, r5⟩, s0, s1', s2, s3, s4, s5⟩ := HR8.out
        go_wp2
        obtain ⟨w9, hw9⟩ : ∃ u, u = ((((((w8.setCell ⟨rb, 0, none⟩ (.int .i64 y.t)).setCell ⟨rb, 1, none⟩ (.int .i64 y.len)).setCell ⟨rb, 2, none⟩ (.int .i64 y.flow)).setCell ⟨rb, 3, none⟩ (.int .i64 y.band)).setCell ⟨rb, 4, none⟩ (.int .i64 y.mark)).setCell ⟨rb, 5, none⟩ (.int .i64 y.n)) := ⟨_, rfl⟩
        have HRL := Lib.hid (show HelRes w9 rb y ∧ Sav (fun q => q = rb) w8 w9 from by rw [hw9]; exact hel_set6 HR8.out y)
        rw [← hw9]
        clear hw9 r0 r1 r2 r3 r4 r5 s0 s1' s2 s3 s4 s5
        obtain ⟨⟨q0, q1, q2, q3, q4, q5⟩, _⟩ := HRL.out.1
        have HMF := Lib.hid (ShpM.own HFF.out HM8.out HNN.out HRL.out.2 (.of_sav HRL.out.2 fun g e => by rw [e]; exact .of_cell (HR8.out).at_.c0 (fun b e => by cases e) (fun x e => by cases e)) (fun g e => by rw [e]; exact ⟨HB1.out.2.1, fun e => HB2.out (e.imp id (fun e => e.imp id (fun e => e.imp id (fun e => .inr (e.elim (fun e => by cases e) id)))))⟩))
        exact bodyPost_ret (v := .tuple #[.agg #[.int .i64 y.t, .int .i64 y.len, .int .i64 y.flow, .int .i64 y.band, .int .i64 y.mark, .int .i64 y.n], .slice la s1.lost.length lc, .bool true]) (by simp [results, Tryz.results102, go_sem, q0, q1, q2, q3, q4, q5]) rfl
          ⟨.slice la s1.lost.length lc, by rw [HGO.out]; rfl, by rw [HGO.out]; exact RowH.sav HL8.out HRL.out.2 (fun g e => (HL2.out.2 g e).2), _, _, F1, by rw [HGO.out]; exact HMF.out⟩
set_option maxRecDepth 100000 in
set_option maxHeartbeats 1200000 in
theorem srwhen_any (hq : ∃ t v, q = .iface t v) (hF : ∀ b g, S.F b g ↔ b g) (A : Acts S 95 q) (hU : More S mu) (w : World) (lv nv : Value) (F : Nat → Prop) (s : Shp α) (n : Nat) (now : Int) (hn : Now now) (h : ShpAt stR nkR 95 S q B mu p tp w lv nv F s n) :
    Calls Tryz.prog 103 #[.pointer (some ⟨p, 0, none⟩), .int .i64 now] w fun e w' => e = .returned (.tuple #[.int .i64 ((shaper U B).when_ s now).2.1, .bool ((shaper U B).when_ s now).2.2]) ∧ ∃ lv' nv' F', ShpM stR nkR 95 S q B mu p tp w lv nv F w' lv' nv' F' ((shaper U B).when_ s now).1 n := by
  have HLK := Lib.hid (srlook_any hq hF A hU w lv nv F s n now hn h)
  obtain ⟨tq, vq, rfl⟩ := hq
  have HFF := Lib.hid hF
  have HPT : Hid ((shaper U B).when_ s now = shAsk U B (shLook U s now) now) := Lib.hid rfl
  have HN0 : Hid (-9223372036854775808 ≤ now) := Lib.hid (by have := hn.1; omega)
  obtain ⟨fm, rv, hm, hc⟩ := A.when_
  have HPC := Lib.hid (fun u F' (a : α) (hI : S.I u F' a n) => hc u F' a n now hI hn)
  have HUW := Lib.hid (fun u F' (a : α) (hI : S.I u F' a n) => hU.when_ hI hn)
  rw [HPT.out]
  generalize shLook U s now = s1 at *
  clear h hF A hU hn hc
  go_enter Tryz.func103, Tryz.ntmps103
  go_upto_region 2 with (go_at_call 104; refine HLK.out.mono ?_; rintro e wl ⟨rfl, lv1, nv1, F1, hm1⟩; have HM1 := Lib.hid hm1; have d2 := hm1.at_.c2; have d0 := hm1.at_.c0; clear hm1)
  cases hd : s1.held with
  | none =>
    obtain ⟨na, nc, rfl⟩ : ∃ a c, nv1 = .slice a 0 c := by have h9 := HM1.out.at_.nx; rw [hd] at h9; exact RowH.shape h9
    have HAS := Lib.hid (shAsk_none (U := U) (B := B) (now := now) hd)
    have HPN := Lib.hid (HPC.out wl F1 s1.a HM1.out.at_.sub)
    have HWN := Lib.hid (HUW.out wl F1 s1.a HM1.out.at_.sub)
    generalize U.when_ s1.a now = res at *
    obtain ⟨a1, at1, ok1⟩ := res
    simp only [] at HPN HWN HAS
    go_wp2_with ((with_reducible refine wpList_here "When" ?_); refine wpList_invoke hm rfl _ _ _ rfl rfl (ys := [.int .i64 now]) rfl HPN.out ?_; rintro e w2 ⟨F2, rfl, hmv⟩; have HM2 := Lib.hid (HM1.out.sub HFF.out hmv (by have h1 := HM1.out.at_.mass; have h2 := HWN.out; unfold muS at *; simp only [] at *; omega)); clear hmv; refine ⟨_, rfl, ?_⟩)
    exact bodyPost_ret (v := .tuple #[.int .i64 at1, .bool ok1]) (by simp [results, Tryz.results103, go_sem]) rfl ⟨by rw [HAS.out], _, _, F2, by rw [HAS.out]; have h9 := HM2.out; rw [hd] at h9; exact h9⟩
  | some y =>
    obtain ⟨na, nc, rfl, _, _, hx⟩ : ∃ a c, nv1 = .slice a 1 c ∧ 1 ≤ c ∧ c ≤ maxLen ∧ Hid (0 < 1 → ∃ b off, a = some ⟨b, off, none⟩ ∧ ∀ i, i < 1 → HelAt wl b (off + i * 6) ([y].getD i .zero)) := by have h9 := HM1.out.at_.nx; rw [hd] at h9; exact RowH.any h9
    obtain ⟨hp, ho, rfl, hx1⟩ := hx.out (by decide)
    have HX2 : Hid (HelAt wl hp ho y) := Lib.hid (hx1 0 (by decide))
    clear hx hx1
    obtain ⟨fg, hfg⟩ := stR_open HM1.out.at_.st
    have HFG : Hid (FAt wl tp B s1.t fg) := Lib.hid hfg
    clear hfg
    have HAS := Lib.hid (shAsk_some (U := U) (B := B) (now := now) hd)
    have C1 := Lib.hid HM1.out.at_.c1
    have C2 := Lib.hid HM1.out.at_.c2
    have HPT' : Hid (p ≠ tp ∧ hp ≠ tp) := Lib.hid ⟨HM1.out.at_.ap, (HM1.out.at_.no hp rfl).1.2.2⟩
    have HOKT := Lib.hid (B.when_ok HM1.out.at_.ok now y.len)
    have HWC : Hid (∀ u, Gr wl u → Calls Tryz.prog 106 #[.pointer (some ⟨tp, 0, none⟩), .int .i64 now, .int .i64 y.len] u fun e w' => e = .returned (.tuple #[.int .i64 (B.when s1.t now y.len).1.1, .bool (B.when s1.t now y.len).1.2]) ∧ (stR.at_ w' tp B (B.when s1.t now y.len).2 ∧ Only tp 3 wl w')) := Lib.hid (fun u g => (rwhen_any tp fg B s1.t now y.len u (HFG.out.gr g) HM1.out.at_.ok HN0.out).mono fun e w' ⟨h1, h2, h3⟩ => ⟨h1, h2, (Only.of_gr g).trans h3⟩)
    generalize B.when s1.t now y.len = res at *
    obtain ⟨⟨at1, ok1⟩, t1⟩ := res
    simp only [] at HWC HAS HOKT
    go_upto_region 3 with fail
    clear d0 d2
    refine wp_region_l (n := 16) (fun b u => if b then stR.at_ u tp B t1 ∧ Only tp 3 wl u else Gr wl u) 13 [Fv.of 0 (Fg.eq (.pointer (some ⟨p, 0, none⟩))), Fv.of 1 (Fg.eq (.pointer (some ⟨p, 0, none⟩))), Fv.of 2 (Fg.eq (.pointer (some ⟨p, 1, none⟩))), Fv.of 3 (Fg.eq (.pointer (some ⟨tp, 0, none⟩))), Fv.of 4 (Fg.eq (.int .i64 now)), Fv.of 5 (Fg.eq (.pointer (some ⟨p, 0, none⟩))), Fv.of 6 (Fg.eq (.pointer (some ⟨p, 0, none⟩))), Fv.of 7 (Fg.eq (.pointer (some ⟨p, 2, none⟩))), Fv.of 8 (Fg.eq (.slice (some ⟨hp, ho, none⟩) 1 nc)), Fv.of 9 (Fg.eq (.pointer (some ⟨hp, ho, none⟩))), Fv.of 10 (Fg.eq (.pointer (some ⟨hp, ho, none⟩))), Fv.of 11 (Fg.eq (.pointer (some ⟨hp, ho + 1, none⟩))), Fv.of 12 (Fg.eq (.int .i64 y.len)), Fv.of 13 (Fg.eq (.tuple #[.int .i64 at1, .bool ok1])), Fv.of 14 (Fg.eq (.int .i64 at1)), Fv.of 15 (Fg.eq (.bool ok1))] [15, 16, 17, 18, 19, 20, 21, 22, 23, 24, 25, 26, 27, 28, 29, 30] ((Gr.refl wl).drew) (by decide) (by kernel_rfl) (by kernel_rfl) (by kernel_rfl) (by kernel_rfl) ?_ ?_
    · intro L i o ac w1 hi ho hA
      have hcell : ∀ {pa : Addr} {u : Value}, wl.cell? pa = some u → pa.block ≠ tp → w1.cell? pa = some u := fun {pa u} hc hp => HeadAtL.any (R := fun u' => u'.cell? pa = some u) hA (fun b u' h => by cases b with | false => exact Gr.cell h hc | true => exact (Sav.of_only h.2).cell hc hp)
      match i, hi with
      | 0, _ =>
        obtain rfl := Option.some.inj ho
        exact lstep_val hA (by decide) (q_move rfl (show ac.eval (.tmp 0) = .pointer (some ⟨p, 0, none⟩) from hA.other 0 (by decide))) (fun _ hf => hf)
      | 1, _ =>
        obtain rfl := Option.some.inj ho
        exact lstep_val hA (by decide) (q_nil rfl (hA.fact 0 (hA.dep 0 (by kernel_rfl) (by decide)))) (fun _ hf => hf)
      | 2, _ =>
        obtain rfl := Option.some.inj ho
        exact lstep_val hA (by decide) (srh_fa_millraceref_Shaper_1 rfl (hA.fact 1 (hA.dep 1 (by kernel_rfl) (by decide)))) (fun _ hf => hf)
      | 3, _ =>
        obtain rfl := Option.some.inj ho
        exact lstep_val hA (by decide) (srh_loadP__millraceref_Filled rfl (hA.fact 2 (hA.dep 2 (by kernel_rfl) (by decide))) (hcell C1.out HPT'.out.1)) (fun _ hf => hf)
      | 4, _ =>
        obtain rfl := Option.some.inj ho
        exact lstep_val hA (by decide) (q_move rfl (show ac.eval (.tmp 1) = .int .i64 now from hA.other 1 (by decide))) (fun _ hf => hf)
      | 5, _ =>
        obtain rfl := Option.some.inj ho
        exact lstep_val hA (by decide) (q_move rfl (show ac.eval (.tmp 0) = .pointer (some ⟨p, 0, none⟩) from hA.other 0 (by decide))) (fun _ hf => hf)
      | 6, _ =>
        obtain rfl := Option.some.inj ho
        exact lstep_val hA (by decide) (q_nil rfl (hA.fact 5 (hA.dep 5 (by kernel_rfl) (by decide)))) (fun _ hf => hf)
      | 7, _ =>
        obtain rfl := Option.some.inj ho
        exact lstep_val hA (by decide) (srh_fa_millraceref_Shaper_2 rfl (hA.fact 6 (hA.dep 6 (by kernel_rfl) (by decide)))) (fun _ hf => hf)
      | 8, _ =>
        obtain rfl := Option.some.inj ho
        exact lstep_val hA (by decide) (srh_loadS___millraceref_Pack rfl (hA.fact 7 (hA.dep 7 (by kernel_rfl) (by decide))) (hcell C2.out HPT'.out.1)) (fun _ hf => hf)
      | 9, _ =>
        obtain rfl := Option.some.inj ho
        exact lstep_val hA (by decide) (srh_idx0___millraceref_Pack rfl (hA.fact 8 (hA.dep 8 (by kernel_rfl) (by decide))) rfl (by decide)) (fun _ hf => hf)
      | 10, _ =>
        obtain rfl := Option.some.inj ho
        exact lstep_val hA (by decide) (srh_fa_millraceref_Pack_0 rfl (hA.fact 9 (hA.dep 9 (by kernel_rfl) (by decide)))) (fun _ hf => hf)
      | 11, _ =>
        obtain rfl := Option.some.inj ho
        exact lstep_val hA (by decide) (srh_fa_api_Item_1 rfl (hA.fact 10 (hA.dep 10 (by kernel_rfl) (by decide)))) (fun _ hf => hf)
      | 12, _ =>
        obtain rfl := Option.some.inj ho
        exact lstep_val hA (by decide) (q_loadI rfl (hA.fact 11 (hA.dep 11 (by kernel_rfl) (by decide))) (hcell HX2.out.c1 HPT'.out.2)) (fun _ hf => hf)
      | 13, _ =>
        obtain rfl := Option.some.inj ho
        refine lstep_call hA rfl (srh_call___millrace_millraceref_Filled__When rfl rfl (hA.fact 3 (hA.dep 3 (by kernel_rfl) (by decide))) (hA.fact 4 (hA.dep 4 (by kernel_rfl) (by decide))) (hA.fact 12 (hA.dep 12 (by kernel_rfl) (by decide)))) (fun hF => (HWC.out w1 hF).mono (fun e w' ⟨h1, h2⟩ => ⟨_, h1, h2, fun _ hf => hf, fun j hj v hv => ?_⟩))
        match j, hv with
        | 0, hv => exact hv
        | 1, hv => exact hv
        | 2, hv => exact hv
        | 3, hv => exact hv
        | 4, hv => exact hv
        | 5, hv => exact hv
        | 6, hv => exact hv
        | 7, hv => exact hv
        | 8, hv => exact hv
        | 9, hv => exact hv
        | 10, hv => exact hv
        | 11, hv => exact hv
        | 12, hv => exact hv
        | 13, hv => exact hv
        | 14, hv => exact hv
        | 15, hv => exact hv
        | j + 16, _ => trivial
      | 14, _ =>
        obtain rfl := Option.some.inj ho
        exact lstep_val hA (by decide) (srh_ext0 rfl (hA.fact 13 (hA.dep 13 (by kernel_rfl) (by decide)))) (fun _ hf => hf)
      | 15, _ =>
        obtain rfl := Option.some.inj ho
        exact lstep_val hA (by decide) (srh_ext1 rfl (hA.fact 13 (hA.dep 13 (by kernel_rfl) (by decide)))) (fun _ hf => hf)
      | k + 16, hk => exact absurd (show k + 16 < 16 from hk) (by omega)
    · intro vs w5 hI5 hv
      have HTK := Lib.hid hI5
      have v29 : vs 14 = .int .i64 at1 := hv 14 (by omega)
      have v30 : vs 15 = .bool ok1 := hv 15 (by omega)
      clear hv hI5
      simp only [putN, List.drop_succ_cons, List.drop_zero, List.getElem?_cons_succ, List.getElem?_cons_zero]
      generalize vs 14 = z29 at *
      subst v29
      generalize vs 15 = z30 at *
      subst v30
      generalize vs 0 = z15 at *
      generalize vs 1 = z16 at *
      generalize vs 2 = z17 at *
      generalize vs 3 = z18 at *
      generalize vs 4 = z19 at *
      generalize vs 5 = z20 at *
      generalize vs 6 = z21 at *
      generalize vs 7 = z22 at *
      generalize vs 8 = z23 at *
      generalize vs 9 = z24 at *
      generalize vs 10 = z25 at *
      generalize vs 11 = z26 at *
      generalize vs 12 = z27 at *
      generalize vs 13 = z28 at *
      have HM6 := Lib.hid (HM1.out.tok HFF.out HTK.out.1 HTK.out.2 HOKT.out)
      go_wp2
      exact bodyPost_ret (v := .tuple #[.int .i64 at1, .bool ok1]) (by simp [results, Tryz.results103, go_sem]) rfl ⟨by rw [HAS.out], _, _, F1, by rw [HAS.out]; have h9 := HM6.out; rw [hd] at h9; exact h9⟩
def Fg.emptyH (n0 : Nat) : Fg := ⟨fun v w => ∃ g, v = .slice (some ⟨g, 0, none⟩) 0 0 ∧ n0 ≤ g ∧ RowH 95 w v [], fun _ _ _ ⟨g, h0, h1, h2⟩ k => ⟨g, h0, h1, h2.gr k⟩⟩
def Fg.ownH (n0 : Nat) (xs : List Hel) : Fg := ⟨fun v w => RowH 95 w v xs ∧ ∀ g, v.ownBlock = some g → n0 ≤ g, fun _ _ _ ⟨h0, h1⟩ k => ⟨h0.gr k, h1⟩⟩
theorem sr_app {ev : Operand → Value} {o : Oper} {w w' : World} {x y : Operand} {v v2 v' : Value} {t : TypeId} (ho : o.op = .call { callee := .builtin .append, args := #[x, y], argTypes := #[t, t] }) (h : ev x = v) (k : ev y = v2) (hr : (Builtin.append_ #[t, t] o.type #[v, v2]).run Tryz.prog w = .ok v' w') : (execOp ev o).run Tryz.prog w = .ok (.value v') w' := by
  simp [execOp, ho, resolve, invoke, builtin, h, k, hr, Result.andThen]
theorem sr_empty {ev : Operand → Value} {o : Oper} {w : World} (ho : o.op = .buildSlice 44 0 #[]) : (execOp ev o).run Tryz.prog w = .ok (.value (.slice (some ⟨w.heap.size, 0, none⟩) 0 0)) (w.alloc (.cells #[] 95)) := by
  simp [execOp, ho, go_sem]
set_option maxRecDepth 100000 in
set_option maxHeartbeats 1200000 in
theorem srall_any (hq : ∃ t v, q = .iface t v) (A : RSide S q) (w : World) (lv nv : Value) (F : Nat → Prop) (s : Shp α) (n : Nat) (h : ShpAt stR nkR 95 S q B mu p tp w lv nv F s n) :
    Calls Tryz.prog 100 #[.pointer (some ⟨p, 0, none⟩)] w fun e w' => ∃ v, e = .returned v ∧ RowH 95 w' v ((shaper U B).all s) ∧ Gr w w' := by
  obtain ⟨tq, vq, rfl⟩ := hq
  obtain ⟨fm, rv, hm, hc⟩ := A.all
  have HPC := Lib.hid (fun u (g : Gr w u) => hc u F s.a n (S.gr h.sub g))
  have hb := (A.few h.sub).1
  have HALL : Hid ((shaper U B).all s = s.held.toList ++ U.all s.a) := Lib.hid rfl
  rw [HALL.out]
  have HNX : Hid (RowH 95 w nv s.held.toList ∧ s.held.toList.length ≤ 1) := Lib.hid ⟨h.nx, by cases s.held <;> simp⟩
  have HLL := Lib.hid hb
  have C0 := Lib.hid h.c0
  have C2 := Lib.hid h.c2
  generalize U.all s.a = L at *
  generalize s.held.toList = H at *
  obtain ⟨i0, hi0, hz0, hz1, hz2⟩ := info_parts packInfo
  have HKZ : Hid (∀ u ∈ Hel.zero.val.cells.toList, isInt u) := Lib.hid (by intro u hu; exact (cells_int Hel.zero u (by simpa [Hel.val, Value.cells, Hel.cells] using hu)).2)
  obtain ⟨na, nc, rfl⟩ := HNX.out.1.shape
  clear hc h A hb
  go_enter Tryz.func100, Tryz.ntmps100
  go_upto_region 1 with fail
  refine wp_region_k (n := 10) (Gr w.drew) [Fg.emptyH w.heap.size, Fg.eq (.pointer (some ⟨p, 0, none⟩)), Fg.eq (.pointer (some ⟨p, 0, none⟩)), Fg.eq (.pointer (some ⟨p, 2, none⟩)), Fg.eq (.slice na H.length nc), Fg.ownH w.heap.size H, Fg.eq (.pointer (some ⟨p, 0, none⟩)), Fg.eq (.pointer (some ⟨p, 0, none⟩)), Fg.eq (.pointer (some ⟨p, 0, none⟩)), Fg.eq (.iface tq vq)] [3, 4, 5, 6, 7, 8, 9, 10, 11, 12] ((Gr.refl _)) (by kernel_rfl) (by kernel_rfl) (by kernel_rfl) ?_ ?_
  · intro L i o ac w1 hi ho hA
    have hI := hA.gr
    have hgr : Gr w w1 := (Gr.refl w).drew.trans hA.gr
    match i, hi with
    | 0, _ =>
      obtain rfl := Option.some.inj ho
      exact kstep_gr hA (sr_empty rfl) ((Gr.refl _).alloc _) (hI.alloc _) ⟨_, rfl, hgr.size, RowH.empty rfl⟩
    | 1, _ =>
      obtain rfl := Option.some.inj ho
      exact kstep_val hA (q_move rfl (hA.other 0 (by decide))) rfl
    | 2, _ =>
      obtain rfl := Option.some.inj ho
      exact kstep_val hA (q_nil rfl (hA.fact 1 (hA.dep 1 (by kernel_rfl) (by decide)))) rfl
    | 3, _ =>
      obtain rfl := Option.some.inj ho
      exact kstep_val hA (srh_fa_millraceref_Shaper_2 rfl (hA.fact 2 (hA.dep 2 (by kernel_rfl) (by decide)))) rfl
    | 4, _ =>
      obtain rfl := Option.some.inj ho
      exact kstep_val hA (srh_loadS___millraceref_Pack rfl (hA.fact 3 (hA.dep 3 (by kernel_rfl) (by decide))) (hgr.cell C2.out)) rfl
    | 5, _ =>
      obtain rfl := Option.some.inj ho
      obtain ⟨g, hv, hge, he⟩ := (hA.fact 0 (hA.dep 0 (by kernel_rfl) (by decide)))
      have hu : RowH 95 w1 (.slice na H.length nc) H := HNX.out.1.gr hgr
      obtain ⟨v', w', hr, hrow, hgrow, hown, hold⟩ := RowH.appAny (P := Tryz.prog) 44 44 i0 Hel.zero.val Tryz.underlying44 hi0 hz0 hz1 hz2 rfl HKZ.out he hu (by have h1 := HNX.out.2; simp only [List.length_nil]; omega)
      rw [hv] at hr hold hgrow hown
      refine kstep_keep hA (sr_app rfl (show ac.eval (.tmp 3) = .slice (some ⟨g, 0, none⟩) 0 0 from hv) (hA.fact 4 (hA.dep 4 (by kernel_rfl) (by decide))) hr) (hI.grown hgrow (fun k hk => by cases hk; exact hge)) ⟨hrow, fun q hq => (hown q hq).elim (fun e => by cases e; exact hge) (Nat.le_trans hgr.size)⟩ ?_
      intro i hi u hu2
      match i, hi, hu2 with
      | 0, _, hu2 =>
        obtain ⟨g', h0, h1, h2⟩ := hu2
        refine ⟨g', h0, h1, ?_⟩
        by_cases e : g' = g
        · subst e; rw [h0]; exact hold
        · rw [h0] at h2 ⊢; exact h2.sav (B := fun q => (Value.slice (some ⟨g, 0, none⟩) 0 0).ownBlock = some q) (.of_grown hgrow fun _ h => h) (fun q e1 e2 => by cases e1; cases e2; exact e rfl)
      | 1, _, hu2 => exact hu2
      | 2, _, hu2 => exact hu2
      | 3, _, hu2 => exact hu2
      | 4, _, hu2 => exact hu2
      | 6, _, hu2 => exact hu2
      | 7, _, hu2 => exact hu2
      | 8, _, hu2 => exact hu2
      | 9, _, hu2 => exact hu2
      | 5, hi, _ => exact absurd rfl hi
      | i + 10, _, hu2 => trivial
    | 6, _ =>
      obtain rfl := Option.some.inj ho
      exact kstep_val hA (q_move rfl (hA.other 0 (by decide))) rfl
    | 7, _ =>
      obtain rfl := Option.some.inj ho
      exact kstep_val hA (q_nil rfl (hA.fact 6 (hA.dep 6 (by kernel_rfl) (by decide)))) rfl
    | 8, _ =>
      obtain rfl := Option.some.inj ho
      exact kstep_val hA (srh_fa_millraceref_Shaper_0 rfl (hA.fact 7 (hA.dep 7 (by kernel_rfl) (by decide)))) rfl
    | 9, _ =>
      obtain rfl := Option.some.inj ho
      exact kstep_val hA (sh_loadQR rfl (hA.fact 8 (hA.dep 8 (by kernel_rfl) (by decide))) (hgr.cell C0.out)) rfl
  · intro vs w5 hI hv
    have HG5 := Lib.hid ((Gr.refl w).drew.trans hI)
    have h8 : RowH 95 w5 (vs 5) H ∧ ∀ g, (vs 5).ownBlock = some g → w.heap.size ≤ g := hv 5 (by omega)
    have v12 : vs 9 = .iface tq vq := hv 9 (by omega)
    clear hv hI
    simp only [putN, List.drop_succ_cons, List.drop_zero, List.getElem?_cons_succ, List.getElem?_cons_zero]
    generalize vs 5 = z8 at *
    generalize vs 9 = z9 at *
    subst v12
    have HR8 := Lib.hid h8
    obtain ⟨ra, rc, rfl⟩ := h8.1.shape
    clear h8
    refine wpList_invoke hm rfl _ _ _ rfl (by simp [go_sem]) (ys := []) (by simp [go_sem]) (HPC.out w5 HG5.out) ?_
    rintro e w6 ⟨v6, rfl, hrow, hg6⟩
    have HL6 := Lib.hid hrow
    have HG6 := Lib.hid hg6
    obtain ⟨qa, qc, rfl⟩ := hrow.shape
    clear hrow hg6
    refine ⟨_, rfl, ?_⟩
    simp only [Act.put, List.setIfInBounds_toArray, List.set_cons_succ, List.set_cons_zero]
    refine wpList_append_any rfl _ _ _ rfl i0 Hel.zero.val Tryz.underlying44 hi0 hz0 hz1 hz2 rfl HKZ.out (v := .slice ra H.length rc) (by simp [go_sem]) (HR8.out.1.gr HG6.out) (u := .slice qa L.length qc) (by simp [go_sem]) HL6.out (by have h1 := HNX.out.2; have h2 := HLL.out; omega) ?_
    intro v7 w7 hrow hgr hown
    have HR7 := Lib.hid hrow
    have HG7 := Lib.hid ((HG5.out.trans HG6.out).grown hgr HR8.out.2)
    obtain ⟨ta, tc, er⟩ := hrow.shape
    rw [List.length_append] at er
    subst er
    clear hrow hgr hown
    go_wp2
    exact bodyPost_ret (v := .slice ta (H.length + L.length) tc) (by simp [results, Tryz.results100, go_sem]) rfl ⟨_, rfl, HR7.out, HG7.out⟩
end
end Go.Proofs.YtgifghbnpdanhaaGreatDoor

/-
  millraceref.ScedMake, walked: flows that may be, and ticks that may be. (Printed by genrmk.py.)
-/
import Derived.Test.YtfdmmfjheiiiiaaDoorSmG
import Derived.Test.YtfdmmfjheiiiiaaDoorSmJ
import Derived.Test.YtfdmmfjheiiiiaaDoorRegG
import Derived.Test.YtfdmmfjheiiiiaaDoorSmR
namespace Go.Proofs.YtfdmmfjheiiiiaaDoor
open Go.RowKit Go.Extern.Stop Go.Stop Go.Extern

section
variable {ev : Operand → Value} {o : Oper} {w : World} {x y : Operand} {u : Value}
theorem q_move (ho : o.op = .move x) (h : ev x = u) : (execOp ev o).run Tryd.prog w = .ok (.value u) w := mk_move ho h
theorem q_nil {ad : Addr} (ho : o.op = .nilCheck x) (h : ev x = .pointer (some ad)) : (execOp ev o).run Tryd.prog w = .ok (.value (.pointer (some ad))) w := by
  simp [execOp, ho, h, go_sem]
theorem q_loadI {ad : Addr} {n : Int} (ho : o.op = .load 3 x) (h : ev x = .pointer (some ad)) (hc : w.cell? ad = some (.int .i64 n)) : (execOp ev o).run Tryd.prog w = .ok (.value (.int .i64 n)) w := mk_loadI ho h hc
end
section
variable {ev : Operand → Value} {o : Oper} {w : World} {x y z : Operand} {u : Value}
theorem rk_pickF (ho : o.op = .pick x y z) (h : ev x = .bool false) (k : ev z = u) : (execOp ev o).run Tryd.prog w = .ok (.value u) w := by
  simp [execOp, ho, h, k, go_sem]
theorem rk_pickT (ho : o.op = .pick x y z) (h : ev x = .bool true) (k : ev y = u) : (execOp ev o).run Tryd.prog w = .ok (.value u) w := by
  simp [execOp, ho, h, k, go_sem]
theorem rk_fa_millraceref_cell_0 {p o' : Nat} (ho : o.op = .fieldAddr 54 x 0) (h : ev x = .pointer (some ⟨p, o', none⟩)) : (execOp ev o).run Tryd.prog w = .ok (.value (.pointer (some ⟨p, o', none⟩))) w := by
  simp [execOp, ho, h, go_sem]
theorem rk_neq {m n : Int} {b : Bool} (ho : o.op = .binOp .neq 3 x y 3) (h : ev x = .int .i64 m) (k : ev y = .int .i64 n) (hb : decide (m ≠ n) = b) : (execOp ev o).run Tryd.prog w = .ok (.value (.bool b)) w := by
  subst hb
  simp [execOp, ho, h, k, go_sem]
  rfl
theorem rk_fa_millraceref_cell_3 {p o' : Nat} (ho : o.op = .fieldAddr 54 x 3) (h : ev x = .pointer (some ⟨p, o', none⟩)) : (execOp ev o).run Tryd.prog w = .ok (.value (.pointer (some ⟨p, o' + 3, none⟩))) w := by
  simp [execOp, ho, h, go_sem]
theorem rk_geq {m n : Int} {b : Bool} (ho : o.op = .binOp .geq 3 x y 3) (h : ev x = .int .i64 m) (k : ev y = .int .i64 n) (hb : decide (n ≤ m) = b) : (execOp ev o).run Tryd.prog w = .ok (.value (.bool b)) w := by
  subst hb
  simp [execOp, ho, h, k, go_sem]
end
theorem info_cel : (Tryd.prog.info? 52).map (fun i => (i.zero, i.size, i.bytes)) = some (some (.pointer none), 1, 8) := by kernel_rfl
/-- What ScedMake tells. -/
def RMkPost (w : World) (P : PlanP) (e : Ending) (w' : World) : Prop :=
  ∃ (sv : Value) (PB TB : Nat) (pv tv : Nat → Value), e = .returned (.tuple #[sv, .slice (some ⟨PB, 0, none⟩) P.n P.n, .slice (some ⟨TB, 0, none⟩) P.n P.n]) ∧ IntRow w' sv (upTo P.best P.T) ∧
    (∀ i, i < P.n → w'.cell? ⟨PB, i, none⟩ = some (pv i) ∧ Ints w' (pv i) (upTo (P.D i) (P.tot i))) ∧ (∀ i, i < P.n → w'.cell? ⟨TB, i, none⟩ = some (tv i) ∧ Ints w' (tv i) (upTo ((P.run P.T).2 i) (P.tot i))) ∧ Gr w w'
set_option maxRecDepth 100000 in
set_option maxHeartbeats 40000000 in
theorem rmake_ok (la : Option Addr) (lc n T : Nat) (F : Nat → Flw) (w : World) (hF : Flows w (.slice la n lc) n F) (h1 : 1 ≤ n) (h8 : n ≤ 8) (hcm : ∀ i, i < n → Comes (F i).cs) (hcv : ∀ i, i < n → ckCurve (F i).ps = 0) (hT : ∀ i, i < n → (F i).cs.length ≤ T ∧ T < (F i).ps.length) :
    Calls Tryd.prog 6 #[.slice la n lc, .int .i64 (T : Int)] w (RMkPost w (planOf F n T hcm)) := by
  have hp : ∀ i, i < n → (F i).ps.length ≤ 201 := fun i hi => (ckCurve_pos (hcv i hi)).2
  have hT2 : T ≤ 200 := by have := hT 0 (by omega); have := hp 0 (by omega); omega
  obtain ⟨P, hP⟩ : ∃ P, P = planOf F n T hcm := ⟨_, rfl⟩
  have HPn : Hid (P.n = n ∧ P.T = T ∧ (∀ i, i < n → ∀ t, P.c i t = cumN (F i).cs t) ∧ (∀ i, i < n → P.tot i = cumN (F i).cs (F i).cs.length) ∧ ∀ i k, P.D i k = dueF (F i).cs (F i).ps T k) := Lib.hid (by rw [hP]; exact ⟨rfl, rfl, fun i hi t => planOf_c hi t, fun i hi => planOf_tot hi, fun i k => rfl⟩)
  rw [← hP]
  have HTOT : Hid (∀ i, i < n → P.tot i ≤ 100) := Lib.hid (fun i hi => by
    rw [HPn.out.2.2.2.1 i hi]
    have x2 := (hcm i hi).cum (F i).cs.length
    have x3 := (hcm i hi).sum (F i).cs.length
    omega)
  have HOFF : Hid (∀ i, i ≤ n → P.off i ≤ 100 * i) := Lib.hid (fun i => by
    induction i with
    | zero => intro _; exact Nat.le_refl _
    | succ i ih => intro hi; have a := ih (by omega); have b := HTOT.out i (by omega); rw [PlanP.off]; omega)
  have HF := Lib.hid hF
  have HCM := Lib.hid hcm
  have HCV := Lib.hid hcv
  have HT := Lib.hid hT
  have HP201 := Lib.hid hp
  have H8 := Lib.hid h8
  have HT200 := Lib.hid hT2
  have t0 : (0 : Int) ≤ (T : Int) := by omega
  have t1 : (T : Int) ≤ 200 := by omega
  have n1 : (n : Int) ≤ 8 := by omega
  clear hF h1 h8 hcm hcv hT hp hP hT2
  obtain ⟨i0, hi0, hz0, hz1, hz2⟩ := info_parts info_cel
  go_enter Tryd.func6, Tryd.ntmps6
  go_wp2
  go_loopw [7, 32] (fun v s wr => ∃ (fi : Nat) (va : Option Addr) (vc : Nat) (cp : Nat → Nat), fi ≤ n ∧ s = .int .i64 (fi : Int) ∧ v = .slice va (P.off fi) vc ∧ Hid (Cells wr w.heap.size (.slice va (P.off fi) vc) cp (P.LL fi) (fun _ => -1)) ∧ Hid (Gr w wr)) (fun _ s _ => n - (intOf s).toNat)
  case atStart => exact ⟨0, none, 0, fun _ => 0, Nat.zero_le _, rfl, rfl, Lib.hid (Cells.nil _ _ _ _), Gr.refl _⟩
  case round =>
    obtain ⟨fi, va, vc, cp, hi, rfl, rfl, HC, HG⟩ := hrel
    by_cases hlt : fi < n
    · have j0 : (0 : Int) ≤ (fi : Int) := by omega
      have j1 : (fi : Int) < (n : Int) := by omega
      have HLT := Lib.hid hlt
      obtain ⟨b0, off0, a0, q0, a1, q1, rfl, ⟨c0', c1'⟩, hx0, hx1⟩ := HF.out.read hlt
      have c0 := HG.out.cell c0'
      have c1 := HG.out.cell c1'
      clear c0' c1'
      obtain ⟨cs, hcs⟩ : ∃ cs, cs = (F fi).cs := ⟨_, rfl⟩
      obtain ⟨ps, hps⟩ : ∃ ps, ps = (F fi).ps := ⟨_, rfl⟩
      rw [← hcs] at c0 hx0
      rw [← hps] at c1 hx1
      have HCO : Hid (Comes cs) := Lib.hid (by rw [hcs]; exact HCM.out fi hlt)
      have hck : ckServe (padL cs (T + 1)) ps = 0 := ckServe_ok (padL_len cs (T + 1)) (by rw [hps]; exact HCV.out fi hlt) (by rw [padL_len, hps]; have := (HT.out fi hlt).2; omega) (fun j hj => come_0 (padL_getD cs hj) (by have := HCO.out.at j; omega))
      obtain ⟨by_, hby⟩ : ∃ by_, by_ = serveAt (padL cs (T + 1)) ps := ⟨_, rfl⟩
      have HDU : Hid (∀ k, P.D fi k = firstUp by_ ((k : Int) + 1) (T + 1)) := Lib.hid (fun k => by rw [HPn.out.2.2.2.2 fi k, ← hcs, ← hps, hby]; rfl)
      have HSV : Hid (∀ u v, Ints u v (padL cs (T + 1)) → Gr wr u → Calls Tryd.prog 13 #[v, .slice a1 ps.length q1] u fun e w' => ∃ a c z, e = .returned (.tuple #[.slice a (T + 1) c, z]) ∧ Ints w' (.slice a (T + 1) c) (upTo by_ (T + 1)) ∧ Gr u w') := Lib.hid (fun u v hv hu => (refserve_any u hv (hx1.gr (HG.out.trans hu))).mono fun e w' ⟨r, h1, h2, h3⟩ => by
        rw [if_pos hck, padL_len, ← hby] at h2
        obtain ⟨a, c, rfl⟩ := ints_shape h2
        rw [upTo_len] at h1 h2
        exact ⟨a, c, _, h1, h2, h3⟩)
      have HL : Hid (cs.length ≤ T ∧ P.c fi cs.length = P.tot fi ∧ ∀ t, P.c fi t = cumN cs t) := Lib.hid ⟨by rw [hcs]; exact (HT.out fi hlt).1, by rw [HPn.out.2.2.1 fi hlt, HPn.out.2.2.2.1 fi hlt, hcs], fun t => by rw [HPn.out.2.2.1 fi hlt, hcs]⟩
      obtain ⟨m0, hm0⟩ : ∃ m0, m0 = cs.length := ⟨_, rfl⟩
      obtain ⟨m1, hm1⟩ : ∃ m1, m1 = ps.length := ⟨_, rfl⟩
      have HX := Lib.hid hx0
      rw [← hm0] at c0 HX HL
      rw [← hm1] at c1 HSV
      have HM0 := Lib.hid hm0
      clear hcs hps hck hby hm0 hm1 hx0 hx1
      go_upto_region 5 with fail
      obtain ⟨wb, hwb⟩ : ∃ u, u = wr.alloc (.cells #[.slice a0 m0 q0, .slice a1 m1 q1] 30) := ⟨_, rfl⟩
      obtain ⟨fb, hfb⟩ : ∃ u, u = wr.heap.size := ⟨_, rfl⟩
      have HD : Hid (wb.cell? ⟨fb, 0, none⟩ = some (.slice a0 m0 q0) ∧ wb.cell? ⟨fb, 1, none⟩ = some (.slice a1 m1 q1)) := Lib.hid (by rw [hwb, hfb]; exact ⟨by simp, by simp⟩)
      have HGB : Hid (Gr wr wb) := Lib.hid (by rw [hwb]; exact (Gr.refl wr).alloc _)
      rw [← hwb, ← hfb]
      clear hwb hfb c0 c1
      go_upto_region 8 with (first
        | (at_make; refine wpList_make_blk info_intE (by rfl) _ _ _ (by rfl) Tryd.underlying28 .i64 .i64 _ _ (T + 1) (by rfl) (by rfl) (by simp) (by simp) (by have := HT200.out; omega) (by have := HT200.out; omega) ?_; intro w1 hblk hmk; have HB1 := Lib.hid hblk; have HG1 := Lib.hid (hmk wb (Gr.refl wb)); have c0 := HG1.out.cell HD.out.1; clear hblk hmk)
        | (refine wpList_copy_ints (by rfl) _ _ (by rfl) _ (T + 1) _ HB1.out a0 m0 q0 cs (HX.out.gr (HG.out.trans (HGB.out.trans HG1.out))) HM0.out.symm (by rfl) (by rfl) (by have := HL.out.1; omega) ?_; intro w2 hblk hcp; have HG2 := Lib.hid (hcp wb HG1.out (Nat.le_refl _)); have HB2 := Lib.hid (hblk.congr (f' := fun i => cs.getD i 0) (fun i _ => by show (if i < m0 then cs.getD i 0 else 0) = _; split; rfl; rw [getD_out (by have := HM0.out; omega)])); have c1 := HG2.out.cell HD.out.2; clear hblk hcp c0)
        | (go_at_call 13; refine (HSV.out _ _ (HB2.out.ints (by have := HT200.out; omega)) (HGB.out.trans HG2.out)).mono ?_; rintro e w3 ⟨ra, rc, z, rfl, hr, hg3⟩; have HR := Lib.hid hr; have HG3 := Lib.hid (HGB.out.trans (HG2.out.trans hg3)); have HD3 := Lib.hid ((HG2.out.trans hg3).cell HD.out.1); clear hr hg3 c1))
      clear HSV HB2
      have c0 := HD3.out
      go_wp2
      clear c0
      have HC3 := Lib.hid (HC.out.gr HG3.out)
      have HGR : Hid (Gr w w3 ∧ Ints w3 (.slice ra (T + 1) rc) (upTo by_ (T + 1))) := Lib.hid ⟨HG.out.trans HG3.out, HR.out⟩
      clear HC HB1 HG1 HG2
      obtain ⟨o, ho⟩ : ∃ o, o = P.off fi := ⟨_, rfl⟩
      have HO := Lib.hid ho
      rw [← ho] at HC3 ⊢
      clear ho
      go_loopw [7, 13, 54] (fun v kk s wr2 => ∃ (t k m : Nat) (va : Option Addr) (vc : Nat) (cp : Nat → Nat), t ≤ m0 ∧ s = .int .i64 (t : Int) ∧ kk = .int .i64 (k : Int) ∧ v = .slice va m vc ∧ Hid (k = P.c fi t ∧ m = o + k) ∧ Hid (Cells wr2 w.heap.size (.slice va m vc) cp (P.LL fi ++ P.cels fi k) (fun _ => -1)) ∧ Hid (Gr w wr2 ∧ Ints wr2 (.slice ra (T + 1) rc) (upTo by_ (T + 1)))) (fun _ _ s _ => m0 - (intOf s).toNat)
      case atStart => exact ⟨0, 0, o, va, vc, cp, Nat.zero_le _, rfl, rfl, rfl, Lib.hid ⟨(P.z fi).symm, rfl⟩, Lib.hid (by rw [show P.LL fi ++ P.cels fi 0 = P.LL fi from List.append_nil _]; exact HC3.out), HGR⟩
      case round =>
        clear HC3 HGR
        obtain ⟨t, k, m, va, vc, cp, ht, rfl, rfl, rfl, HK, HC, HG4⟩ := hrel
        by_cases htl : t < m0
        · have k0 : (0 : Int) ≤ (t : Int) := by omega
          have k1 : (t : Int) < (m0 : Int) := by omega
          have k2 : (m0 : Int) ≤ 200 := by have := HL.out.1; have := HT200.out; omega
          have HTL := Lib.hid htl
          obtain ⟨xn, hxn⟩ : ∃ xn : Nat, cs.getD t 0 = (xn : Int) := ⟨(cs.getD t 0).toNat, (Int.toNat_of_nonneg (HCO.out.at t).1).symm⟩
          have x1 : (xn : Int) ≤ 100 := by have := (HCO.out.at t).2; omega
          have HCX : Hid (P.c fi (t + 1) = k + xn) := Lib.hid (by
            rw [HK.out.1, HL.out.2.2, HL.out.2.2]
            have a := HCO.out.cum t
            have b := HCO.out.cum (t + 1)
            have c : sumTo cs (t + 1) = sumTo cs t + cs.getD t 0 := rfl
            omega)
          obtain ⟨b9, off9, cap9, he9, hcell⟩ := ints_cells (HX.out.gr HG4.out.1) (by have := HM0.out; omega)
          injection he9 with ex1 ex2 ex3
          subst ex1
          have c1 := hcell.out t (by have := HM0.out; omega)
          rw [hxn] at c1
          clear hcell ex2 ex3 hxn
          go_wp2
          clear c1
          go_loopw [7, 13, 60] (fun v kk s wr3 => ∃ (r q m : Nat) (va : Option Addr) (vc : Nat) (cp : Nat → Nat), r ≤ xn ∧ s = .int .i64 (r : Int) ∧ kk = .int .i64 (q : Int) ∧ v = .slice va m vc ∧ Hid (q = k + r ∧ m = o + q) ∧ Hid (Cells wr3 w.heap.size (.slice va m vc) cp (P.LL fi ++ P.cels fi q) (fun _ => -1)) ∧ Hid (Gr w wr3 ∧ Ints wr3 (.slice ra (T + 1) rc) (upTo by_ (T + 1)))) (fun _ _ s _ => xn - (intOf s).toNat)
          case atStart => exact ⟨0, k, m, va, vc, cp, Nat.zero_le _, rfl, rfl, rfl, Lib.hid ⟨rfl, HK.out.2⟩, HC, HG4⟩
          case round =>
            clear HC HG4
            obtain ⟨r, q, m, va, vc, cp, hr, rfl, rfl, rfl, HQ, HC, HG4⟩ := hrel
            obtain ⟨wp, hwp⟩ : ∃ u, u = wr := ⟨_, rfl⟩
            subst hwp
            by_cases hrl : r < xn
            · have r0 : (0 : Int) ≤ (r : Int) := by omega
              have r1 : (r : Int) < (xn : Int) := by omega
              have HRL := Lib.hid hrl
              have HQT : Hid (q < P.tot fi ∧ P.tot fi ≤ 100 ∧ P.comesAt fi q t) := Lib.hid (by
                have a := P.le fi (t + 1)
                have b := HCX.out
                have c := HQ.out.1
                have d := HK.out.1
                exact ⟨by omega, HTOT.out fi HLT.out, by omega, by omega⟩)
              have q0 : (0 : Int) ≤ (q : Int) := by omega
              have q1 : (q : Int) ≤ 100 := by have := HQT.out.1; have := HQT.out.2.1; omega
              go_upto_region 16 with fail
              obtain ⟨wc, hwc⟩ : ∃ u, u = wp.alloc (.cells #[.int .i64 (fi : Int), .int .i64 (t : Int), .int .i64 (-1), .int .i64 (-1)] 54) := ⟨_, rfl⟩
              obtain ⟨cb, hcb⟩ : ∃ u, u = wp.heap.size := ⟨_, rfl⟩
              have HGC : Hid (Gr wp wc) := Lib.hid (by rw [hwc]; exact (Gr.refl wp).alloc _)
              have HCE : Hid (CelAt wc cb ⟨fi, t, -1⟩ (-1) ∧ wc.frozen? ⟨cb, 2, none⟩ = false) := Lib.hid (by rw [hwc, hcb]; exact ⟨⟨by simp, by simp, by simp, by simp, by simp, kind_new _ _ _⟩, by simp⟩)
              have HCB : Hid (wp.heap.size ≤ cb ∧ cb ≤ wp.heap.size) := Lib.hid (by omega)
              rw [← hwc, ← hcb]
              clear hwc hcb
              go_wp2
              go_loopw [17] (fun s wr4 => ∃ (u : Nat) (z d : Int), u ≤ T + 1 ∧ s = .int .i64 z ∧ Hid (z = (u : Int) - 1) ∧ Hid (CelAt wr4 cb ⟨fi, t, d⟩ (-1) ∧ wr4.frozen? ⟨cb, 2, none⟩ = false) ∧ Hid (DownTo by_ ((q : Int) + 1) T u d) ∧ Hid (Gr wp wr4)) (fun s _ => (intOf s + 1).toNat)
              case atStart => exact ⟨T + 1, (T : Int), -1, Nat.le_refl _, rfl, Lib.hid (by omega), HCE, Lib.hid (DownTo.start _ _ _), HGC⟩
              case round =>
                clear HCE
                obtain ⟨u, z, d, hu, rfl, HZ, HCE, HDO, HG5⟩ := hrel
                by_cases hu0 : u = 0
                · subst hu0
                  have z0 : z < 0 := by have := HZ.out; omega
                  have z1 : ¬ 0 ≤ z := by omega
                  have HDV : Hid (d = P.D fi q) := Lib.hid (by rw [HDU.out q]; exact HDO.out.done)
                  have HC5 := Lib.hid (HC.out.gr HG5.out)
                  have HLN : Hid ((P.LL fi ++ P.cels fi q).length = m) := Lib.hid (by rw [List.length_append, P.LL_len, P.cels_len, HQ.out.2, HO.out])
                  have HVL : Hid (∀ g, (Value.slice va m vc).ownBlock = some g → g < wp.heap.size) := Lib.hid (fun g e => Row.lt HC.out.row e)
                  have HM100 : Hid (m ≤ 1000) := Lib.hid (by have a := HOFF.out fi (by have := HLT.out; omega); have b := HQ.out.2; have c := HO.out; have d2 := HQT.out; have e := H8.out; have f := HLT.out; omega)
                  go_wp2_with (at_builtin; refine wpList_append_row rfl _ _ _ (by rfl) i0 (.pointer none) 8 Tryd.underlying49 hi0 hz0 hz1 hz2 rfl ?c1 (by rfl) (HC5.out.row.gr ((Gr.refl _).alloc _)) ⟨wr.heap.size, 0, none⟩ 1 (by rfl) [.pointer (some ⟨cb, 0, none⟩)] rfl ?c2 ?c3 ?c4 (by rw [HLN.out]; have := HM100.out; omega) (by decide) ?_; (case c1 => (intro u hu; simp [Value.cells] at hu; subst hu; exact ⟨_, rfl⟩)); (case c2 => (intro i u hu; match i, hu with | 0, hu => simp at hu; subst hu; simp [Addr.add] | i + 1, hu => simp at hu)); (case c3 => (intro u hu; simp at hu; subst hu; rfl)); (case c4 => (intro u hu; simp at hu; subst hu; exact ⟨_, rfl⟩)); intro v5 w5 hrow hgr hown; obtain ⟨a5, c5, e5⟩ := Row.shape hrow; rw [HLN.out] at e5; subst e5; have HG6 : Hid (Gr w w5 ∧ Ints w5 (.slice ra (T + 1) rc) (upTo by_ (T + 1))) := Lib.hid ⟨gr_grown hgr ((HG4.out.1.trans HG5.out).alloc _) (fun g e => (HC.out.ro g e).1), ((HG4.out.2.gr HG5.out).gr ((Gr.refl wr).alloc _)).sav (.of_grown (B := fun g => (Value.slice va m vc).ownBlock = some g) hgr (fun _ h => h)) (fun g e e2 => (pt_ints HC5.out.row (HG4.out.2.gr HG5.out) (by rw [upTo_len]; omega) g e) e2)⟩; have HC6 : Hid (Cells w5 w.heap.size (.slice a5 (m + 1) c5) _ (P.LL fi ++ P.cels fi (q + 1)) (fun _ => -1)) := Lib.hid (by rw [P.cels_succ, ← List.append_assoc, P.atK_eq HQT.out.1 HQT.out.2.2, ← HDV.out]; exact (HC5.out.gr ((Gr.refl wr).alloc (.cells #[.pointer (some ⟨cb, 0, none⟩)] 52))).more (p := cb) (fun g e e2 => by have := HVL.out g e; have := HCB.out; omega) (by have := HCB.out; have := HG4.out.1.size; omega) (fun j hj e => by have := (HC.out.at_ j hj).lt; have := HCB.out; omega) (by have := HG4.out.1.size; have := HG5.out.size; simp; omega) (HCE.out.1.gr ((Gr.refl wr).alloc _)) rfl hrow (.of_grown hgr fun _ h => h) hown); clear hrow hgr hown)
                  go_roundw
                  case measure => simp [intOf]; omega
                  case rel => exact ⟨r + 1, q + 1, m + 1, a5, c5, _, by have := HRL.out; omega, by go_num, by go_num, rfl, Lib.hid ⟨by have := HQ.out.1; omega, by have := HQ.out.2; omega⟩, HC6, HG6⟩
                · obtain ⟨v, hv⟩ : ∃ v : Nat, z = (v : Int) := ⟨(u - 1), by have := HZ.out; omega⟩
                  subst hv
                  have v0 : (0 : Int) ≤ (v : Int) := by omega
                  have v1 : (v : Int) < (T : Int) + 1 := by have := HZ.out; omega
                  have HVU : Hid (u = v + 1 ∧ v ≤ T) := Lib.hid (by have := HZ.out; omega)
                  obtain ⟨b8, off8, cap8, he8, hcell8⟩ := ints_cells (HG4.out.2.gr HG5.out) (by rw [upTo_len]; omega)
                  injection he8 with ey1 ey2 ey3
                  subst ey1
                  have c1 := hcell8.out v (by rw [upTo_len]; have := HVU.out; omega)
                  rw [upTo_getD _ (by have := HVU.out; omega)] at c1
                  obtain ⟨y0, hy0⟩ : ∃ y0, y0 = by_ v := ⟨_, rfl⟩
                  rw [← hy0] at c1
                  have HY0 := Lib.hid hy0
                  have HDO2 : Hid (DownTo by_ ((q : Int) + 1) T (v + 1) d) := Lib.hid (by rw [← HVU.out.1]; exact HDO.out)
                  clear hcell8 ey2 ey3 hy0
                  by_cases hge : (q : Int) + 1 ≤ y0
                  · have c2 := HCE.out.1.c2
                    have f2 := HCE.out.2
                    have HDY := Lib.hid (DownTo.yes (f := by_) (k := (q : Int) + 1) HVU.out.2 (by rw [← HY0.out]; exact hge))
                    have HCE2 : Hid (CelAt (wr.setCell ⟨cb, 2, none⟩ (.int .i64 (v : Int))) cb ⟨fi, t, (v : Int)⟩ (-1) ∧ (wr.setCell ⟨cb, 2, none⟩ (.int .i64 (v : Int))).frozen? ⟨cb, 2, none⟩ = false) := Lib.hid (by
                      have h := HCE.out.1
                      have ho : ∀ j, j ≠ 2 → (wr.setCell ⟨cb, 2, none⟩ (.int .i64 (v : Int))).cell? ⟨cb, j, none⟩ = wr.cell? ⟨cb, j, none⟩ := fun j hj => World.cell?_setCell_other _ _ _ _ (fun e => hj (by injection e with _ e2; exact e2.symm))
                      exact ⟨⟨(ho 0 (by decide)).trans h.c0, (ho 1 (by decide)).trans h.c1, World.cell?_setCell_same _ _ _ h.c2, (ho 3 (by decide)).trans h.c3, by simpa using h.f3, h.kd.set _ _ _⟩, by simpa using HCE.out.2⟩)
                    have HG6 : Hid (Gr wp (wr.setCell ⟨cb, 2, none⟩ (.int .i64 (v : Int)))) := Lib.hid (Sav.gr HG5.out (Sav.set cb 2 _) (fun g e => by have := HCB.out; omega))
                    go_wp2
                    go_roundw
                    case measure => simp [intOf]
                    case rel => exact ⟨v, (v : Int) - 1, (v : Int), by have := HVU.out; omega, by go_num, Lib.hid rfl, HCE2, HDY, HG6⟩
                  · have HDN := Lib.hid (DownTo.no HDO2.out (by rw [← HY0.out]; omega))
                    go_wp2
                    go_roundw
                    case measure => simp [intOf]
                    case rel => exact ⟨v, (v : Int) - 1, d, by have := HVU.out; omega, by go_num, Lib.hid rfl, HCE, HDN, HG5⟩
            · obtain rfl : xn = r := by omega
              have r1 : ¬ (xn : Int) < (xn : Int) := by omega
              go_wp2
              go_roundw
              case measure => simp [intOf]; omega
              case rel => exact ⟨t + 1, q, m, va, vc, cp, by have := HTL.out; omega, by go_num, rfl, rfl, Lib.hid ⟨by rw [HCX.out]; exact HQ.out.1, HQ.out.2⟩, HC, HG4⟩
        · obtain rfl : m0 = t := by omega
          have k1 : ¬ (m0 : Int) < (m0 : Int) := by omega
          have HKT : Hid (k = P.tot fi) := Lib.hid (by rw [HK.out.1, ← HL.out.2.1])
          go_wp2
          have hm : m = P.off (fi + 1) := by rw [PlanP.off, HK.out.2, HKT.out, HO.out]
          subst hm
          have HC5 : Hid (Cells wr w.heap.size (.slice va (P.off (fi + 1)) vc) cp (P.LL (fi + 1)) (fun _ => -1)) := Lib.hid (by rw [PlanP.LL, ← HKT.out]; exact HC.out)
          go_roundw
          case measure => simp [intOf]; omega
          case rel => exact ⟨fi + 1, va, vc, cp, by have := HLT.out; omega, by go_num, rfl, HC5, Lib.hid HG4.out.1⟩
    · obtain rfl : n = fi := by omega
      have j1 : ¬ (n : Int) < (n : Int) := by omega
      obtain ⟨L, hL⟩ : ∃ L, L = P.LL n := ⟨_, rfl⟩
      obtain ⟨NN, hNN⟩ : ∃ NN, NN = P.off n := ⟨_, rfl⟩
      have HLL : Hid (L.length = NN ∧ P.Has L) := Lib.hid ⟨by rw [hL, P.LL_len, hNN], by rw [hL, ← HPn.out.1]; exact P.has_LL⟩
      rw [← hL, ← hNN] at HC
      rw [← hNN]
      obtain ⟨M2, hM2⟩ : ∃ M2, M2 = wr.heap.size := ⟨_, rfl⟩
      have HLO : Hid ((∀ q, q < NN → cp q < M2) ∧ (∀ g, (Value.slice va NN vc).ownBlock = some g → g < M2) ∧ w.heap.size ≤ M2 ∧ NN ≤ 1000) := Lib.hid ⟨fun q hq => by rw [hM2]; exact (HC.out.at_ q (by rw [HLL.out.1]; exact hq)).lt, fun g e => by rw [hM2]; exact Row.lt HC.out.row e, by rw [hM2]; exact HG.out.size, by have a := HOFF.out n (Nat.le_refl _); have b := H8.out; omega⟩
      have HM2 : Hid (M2 ≤ wr.heap.size) := Lib.hid (by omega)
      have nn1 : (NN : Int) ≤ 1000 := by have := HLO.out.2.2.2; omega
      clear hL hNN hM2
      go_wp2
      go_loopw [18, 91] (fun sv s wr => ∃ (t : Nat) (sa : Option Addr) (sc : Nat), t ≤ T ∧ s = .int .i64 (t : Int) ∧ sv = .slice sa t sc ∧ Hid (Cells wr w.heap.size (.slice va NN vc) cp L (rrun L T t)) ∧ Hid (IntRow wr (.slice sa t sc) (upTo (rsent L T) t) ∧ ∀ g, (Value.slice sa t sc).ownBlock = some g → M2 ≤ g) ∧ Hid (Gr w wr ∧ M2 ≤ wr.heap.size)) (fun _ s _ => T - (intOf s).toNat)
      case atStart => exact ⟨0, none, 0, Nat.zero_le _, rfl, rfl, HC, Lib.hid ⟨IntRow.nil _, fun g e => by simp [Value.ownBlock] at e⟩, Lib.hid ⟨HG.out, HM2.out⟩⟩
      case round =>
        clear HC HM2 HG
        obtain ⟨t, sa, sc, ht, rfl, rfl, HC, HSE, HG⟩ := hrel
        obtain ⟨wt, hwt⟩ : ∃ u, u = wr := ⟨_, rfl⟩
        subst hwt
        by_cases htl : t < T
        · have k0 : (0 : Int) ≤ (t : Int) := by omega
          have k1 : (t : Int) < (T : Int) := by omega
          have HTL := Lib.hid htl
          obtain ⟨thr, hthr⟩ : ∃ thr, thr = rrun L T t := ⟨_, rfl⟩
          have HTH := Lib.hid hthr
          rw [← hthr] at HC
          clear hthr
          go_wp2
          go_loopw [20, 96] (fun bv s wr => ∃ (q : Nat) (bp : Option Addr), q ≤ NN ∧ s = .int .i64 (q : Int) ∧ bv = .pointer bp ∧ Hid (bp = PV cp (rpick L T thr t q)) ∧ Hid (Gr wt wr)) (fun _ s _ => NN - (intOf s).toNat)
          case atStart => exact ⟨0, none, Nat.zero_le _, rfl, rfl, Lib.hid rfl, Gr.refl _⟩
          case round =>
            obtain ⟨q, bp, hq, rfl, rfl, HBP, HGT⟩ := hrel
            obtain ⟨wq, hwq⟩ : ∃ u, u = wr := ⟨_, rfl⟩
            subst hwq
            by_cases hql : q < NN
            · have r0 : (0 : Int) ≤ (q : Int) := by omega
              have r1 : (q : Int) < (NN : Int) := by omega
              have HQL := Lib.hid hql
              have HCQ := Lib.hid (HC.out.gr HGT.out)
              have HLQ : Hid (q < L.length) := Lib.hid (by rw [HLL.out.1]; exact hql)
              obtain ⟨vb, vo, vcap, hve, _, _, hcell⟩ := Row.cells HCQ.out.row (by have := HLQ.out; omega)
              injection hve with ev1 ev2 ev3
              subst ev1
              have HPT := Lib.hid (fun o (ho : o < NN) => hcell o _ (ptL_get cp (show o < L.length by rw [HLL.out.1]; exact ho)))
              have c0 := HPT.out q hql
              have d0 := (HCQ.out.at_ q HLQ.out).c0
              have d1 := (HCQ.out.at_ q HLQ.out).c1
              have d3 := (HCQ.out.at_ q HLQ.out).c3
              obtain ⟨cq, hcq⟩ : ∃ cq, cq = L.getD q .zero := ⟨_, rfl⟩
              have HCQQ := Lib.hid hcq
              obtain ⟨fq, hfq⟩ : ∃ fq, fq = cq.fl := ⟨_, rfl⟩
              obtain ⟨aq, haq⟩ : ∃ aq, aq = cq.at_ := ⟨_, rfl⟩
              obtain ⟨tq, htq⟩ : ∃ tq, tq = thr q := ⟨_, rfl⟩
              have HFQ := Lib.hid hfq
              have HAQ := Lib.hid haq
              have HTQ := Lib.hid htq
              rw [← hcq, ← hfq] at d0
              rw [← hcq, ← haq] at d1
              rw [← htq] at d3
              clear hcell ev2 ev3 hcq hfq haq htq
              have HF0 : ∃ f : Bool, Hid (f = true ↔ (aq ≤ t ∧ tq < 0)) := ⟨decide (aq ≤ t ∧ tq < 0), Lib.hid (by simp)⟩
              by_cases ha : aq ≤ t
              · have a1 : (aq : Int) ≤ (t : Int) := by omega
                by_cases hb : tq < 0
                · have HF0 : Hid (FT true (aq ≤ t ∧ tq < 0)) := Lib.hid (FT.true (by omega))
                  go_wp2
                  clear c0 d0 d1 d3
                  go_loopw [23, 115] (fun fv s wr => ∃ (o : Nat) (f : Bool), o ≤ q ∧ s = .int .i64 (o : Int) ∧ fv = .bool f ∧ Hid (FT f ((aq ≤ t ∧ tq < 0) ∧ ∀ o', o' < o → (L.getD o' .zero).fl = fq → 0 ≤ thr o')) ∧ Hid (Gr wq wr)) (fun _ s _ => NN - (intOf s).toNat)
                  case atStart => exact ⟨0, true, Nat.zero_le _, rfl, rfl, Lib.hid (FT.mk (fun h => ⟨HF0.out.1 h, fun o' ho' => absurd ho' (by omega)⟩) (fun h => HF0.out.2 h.1)), Gr.refl _⟩
                  case round =>
                    obtain ⟨o, f, ho, rfl, rfl, HFO, HGQ⟩ := hrel
                    obtain ⟨wo, hwo⟩ : ∃ u, u = wr := ⟨_, rfl⟩
                    subst hwo
                    have o0 : (0 : Int) ≤ (o : Int) := by omega
                    have o1 : (o : Int) < (NN : Int) := by omega
                    have HON : Hid (o < NN) := Lib.hid (by omega)
                    have c0 := HGQ.out.cell (HPT.out o HON.out)
                    have HCO2 := Lib.hid (HCQ.out.gr HGQ.out)
                    by_cases hoq : o = q
                    · subst hoq
                      have HFC : Hid (FT f (firstC L thr t o)) := Lib.hid (by
                        have h := HFO.out
                        unfold firstC
                        rw [← HCQQ.out, ← HAQ.out, ← HTQ.out, ← HFQ.out]
                        exact h)
                      have HEQ := Lib.hid (eqP_same wo (cp o))
                      go_upto_region 40 with (refine wpList_eqP (by rfl) _ _ (by rfl) _ _ (by rfl) (by rfl) _ HEQ.out ?_)
                      clear c0
                      have HGA : Hid (Gr wt wo) := Lib.hid (HGT.out.trans HGQ.out)
                      cases f with
                      | false =>
                        have HNX : Hid (bp = PV cp (rpick L T thr t (o + 1))) := Lib.hid (by rw [rpick_no HFC.out.no]; exact HBP.out)
                        go_wp2
                        go_roundw
                        case measure => simp [intOf]; omega
                        case rel => exact ⟨o + 1, bp, by have := HQL.out; omega, by go_num, rfl, HNX, HGA⟩
                      | true =>
                        by_cases hbn : rpick L T thr t o < 0
                        · obtain rfl : bp = none := HBP.out.trans (PV_none hbn)
                          have HNX : Hid (some ⟨cp o, 0, none⟩ = PV cp (rpick L T thr t (o + 1))) := Lib.hid (by rw [rpick_take HFC.out.yes (.inl hbn), PV_at])
                          clear hbn
                          go_wp2
                          go_roundw
                          case measure => simp [intOf]; omega
                          case rel => exact ⟨o + 1, some ⟨cp o, 0, none⟩, by have := HQL.out; omega, by go_num, rfl, HNX, HGA⟩
                        · obtain ⟨rb, hrb⟩ : ∃ rb : Nat, rpick L T thr t o = (rb : Int) := ⟨_, (Int.toNat_of_nonneg (by omega)).symm⟩
                          obtain rfl : bp = some ⟨cp rb, 0, none⟩ := by rw [HBP.out, hrb, PV_at]
                          have hrl : rb < L.length := by
                            have hl := HLQ.out
                            rcases rpick_spec L T thr t o with ⟨h1, _⟩ | ⟨q', h1, h2, _⟩
                            · omega
                            · omega
                          have HRB := Lib.hid hrb
                          obtain ⟨s1, hs1⟩ : ∃ s1, s1 = soon T (L.getD o .zero).due := ⟨_, rfl⟩
                          obtain ⟨s2, hs2⟩ : ∃ s2, s2 = soon T (L.getD rb .zero).due := ⟨_, rfl⟩
                          have HK1 := Lib.hid (key_any (cp o) T _ _ wo (HCO2.out.at_ o HLQ.out) (by have := HT200.out; omega))
                          have HK2 := Lib.hid (key_any (cp rb) T _ _ wo (HCO2.out.at_ rb hrl) (by have := HT200.out; omega))
                          rw [← hs1] at HK1
                          rw [← hs2] at HK2
                          have HS12 := Lib.hid (And.intro hs1 hs2)
                          clear hs1 hs2 hrl hrb hbn
                          by_cases h31 : s1 < s2
                          · have HNX : Hid (some ⟨cp o, 0, none⟩ = PV cp (rpick L T thr t (o + 1))) := Lib.hid (by rw [rpick_take HFC.out.yes (.inr (by rw [HRB.out, Int.toNat_natCast, ← HS12.out.1, ← HS12.out.2]; exact h31)), PV_at])
                            go_wp2_with (first | (go_at_call 14; have _ := tok1; refine HK2.out.mono ?_; rintro e w7 ⟨rfl, rfl⟩; clear tok1) | (go_at_call 14; refine HK1.out.mono ?_; rintro e w6 ⟨rfl, rfl⟩; have tok1 := trivial))
                            go_roundw
                            case measure => simp [intOf]; omega
                            case rel => exact ⟨o + 1, some ⟨cp o, 0, none⟩, by have := HQL.out; omega, by go_num, rfl, HNX, HGA⟩
                          · have HNX : Hid (some ⟨cp rb, 0, none⟩ = PV cp (rpick L T thr t (o + 1))) := Lib.hid (by rw [rpick_keep (by rw [HRB.out]; omega) (by rw [HRB.out, Int.toNat_natCast, ← HS12.out.1, ← HS12.out.2]; exact h31), HRB.out, PV_at])
                            go_wp2_with (first | (go_at_call 14; have _ := tok1; refine HK2.out.mono ?_; rintro e w7 ⟨rfl, rfl⟩; clear tok1) | (go_at_call 14; refine HK1.out.mono ?_; rintro e w6 ⟨rfl, rfl⟩; have tok1 := trivial))
                            go_roundw
                            case measure => simp [intOf]; omega
                            case rel => exact ⟨o + 1, some ⟨cp rb, 0, none⟩, by have := HQL.out; omega, by go_num, rfl, HNX, HGA⟩
                    · have hne : ¬ cp o = cp q := fun e => hoq (HC.out.inj o q (by rw [HLL.out.1]; exact HON.out) HLQ.out e)
                      have HOQ : Hid (o < q) := Lib.hid (by omega)
                      obtain ⟨fo, hfo⟩ : ∃ fo, fo = (L.getD o .zero).fl := ⟨_, rfl⟩
                      obtain ⟨tho, hto⟩ : ∃ tho, tho = thr o := ⟨_, rfl⟩
                      have E0 := Lib.hid (HCO2.out.at_ o (by rw [HLL.out.1]; exact HON.out)).c0
                      have E3 := Lib.hid (HCO2.out.at_ o (by rw [HLL.out.1]; exact HON.out)).c3
                      have E1 := Lib.hid (HCO2.out.at_ q HLQ.out).c0
                      rw [← hfo] at E0
                      rw [← hto] at E3
                      rw [← HCQQ.out, ← HFQ.out] at E1
                      have HFOO := Lib.hid hfo
                      have HTOO := Lib.hid hto
                      have HEQ := Lib.hid (eqP_other (HCO2.out.at_ o (by rw [HLL.out.1]; exact HON.out)).kd (HCO2.out.at_ q HLQ.out).kd hne)
                      clear hfo hto hoq hne
                      go_upto_region 38 with (refine wpList_eqP (by rfl) _ _ (by rfl) _ _ (by rfl) (by rfl) _ HEQ.out ?_)
                      clear c0
                      cases f with
                      | false =>
                        have HFN : Hid (FT false ((aq ≤ t ∧ tq < 0) ∧ ∀ o', o' < o + 1 → (L.getD o' .zero).fl = fq → 0 ≤ thr o')) := Lib.hid (FT.false (fun h => HFO.out.no ⟨h.1, fun o' ho' => h.2 o' (by omega)⟩))
                        refine wp_region_gg (n := 19) [Fg.eq (.bool false), Fg.eq (.bool false), Fg.eq undef, Fg.eq undef, Fg.eq undef, Fg.eq undef, Fg.eq undef, Fg.eq undef, Fg.eq undef, Fg.eq undef, Fg.eq undef, Fg.eq undef, Fg.eq undef, Fg.eq undef, Fg.eq undef, Fg.eq undef, Fg.eq undef, Fg.eq undef, Fg.eq (.bool false)] [122, 123, 124, 125, 126, 127, 128, 129, 130, 131, 132, 133, 134, 135, 136, 137, 138, 139, 140] (by kernel_rfl) (by kernel_rfl) (by kernel_rfl) ?_ ?_
                        · intro L i o' ac w1 hi ho hA
                          have hgr : Gr wo w1 := (Gr.refl wo).drew.trans hA.gr
                          match i, hi with
                          | 0, _ =>
                            obtain rfl := Option.some.inj ho
                            exact gg_plain rfl (gstep_val (q_move rfl (show ac.eval (.tmp 23) = .bool false from hA.other 23 (by decide))) rfl)
                          | 1, _ =>
                            obtain rfl := Option.some.inj ho
                            exact gg_plain rfl (gstep_val (q_move rfl (hA.fact 0 (hA.dep 0 (by kernel_rfl) (by decide)))) rfl)
                          | 2, _ =>
                            obtain rfl := Option.some.inj ho
                            exact gg_no (b := true) rfl (hA.fact 1 (hA.dep 1 (by kernel_rfl) (by decide))) rfl
                          | 3, _ =>
                            obtain rfl := Option.some.inj ho
                            exact gg_no (b := true) rfl (hA.fact 1 (hA.dep 1 (by kernel_rfl) (by decide))) rfl
                          | 4, _ =>
                            obtain rfl := Option.some.inj ho
                            exact gg_no (b := true) rfl (hA.fact 1 (hA.dep 1 (by kernel_rfl) (by decide))) rfl
                          | 5, _ =>
                            obtain rfl := Option.some.inj ho
                            exact gg_no (b := true) rfl (hA.fact 1 (hA.dep 1 (by kernel_rfl) (by decide))) rfl
                          | 6, _ =>
                            obtain rfl := Option.some.inj ho
                            exact gg_no (b := true) rfl (hA.fact 1 (hA.dep 1 (by kernel_rfl) (by decide))) rfl
                          | 7, _ =>
                            obtain rfl := Option.some.inj ho
                            exact gg_no (b := true) rfl (hA.fact 1 (hA.dep 1 (by kernel_rfl) (by decide))) rfl
                          | 8, _ =>
                            obtain rfl := Option.some.inj ho
                            exact gg_no (b := true) rfl (hA.fact 1 (hA.dep 1 (by kernel_rfl) (by decide))) rfl
                          | 9, _ =>
                            obtain rfl := Option.some.inj ho
                            exact gg_no (b := true) rfl (hA.fact 1 (hA.dep 1 (by kernel_rfl) (by decide))) rfl
                          | 10, _ =>
                            obtain rfl := Option.some.inj ho
                            exact gg_no (b := true) rfl (hA.fact 1 (hA.dep 1 (by kernel_rfl) (by decide))) rfl
                          | 11, _ =>
                            obtain rfl := Option.some.inj ho
                            exact gg_no (b := true) rfl (hA.fact 1 (hA.dep 1 (by kernel_rfl) (by decide))) rfl
                          | 12, _ =>
                            obtain rfl := Option.some.inj ho
                            exact gg_off (b := false) rfl (hA.fact 11 (hA.dep 11 (by kernel_rfl) (by decide))) rfl
                          | 13, _ =>
                            obtain rfl := Option.some.inj ho
                            exact gg_off (b := false) rfl (hA.fact 11 (hA.dep 11 (by kernel_rfl) (by decide))) rfl
                          | 14, _ =>
                            obtain rfl := Option.some.inj ho
                            exact gg_off (b := false) rfl (hA.fact 11 (hA.dep 11 (by kernel_rfl) (by decide))) rfl
                          | 15, _ =>
                            obtain rfl := Option.some.inj ho
                            exact gg_off (b := false) rfl (hA.fact 11 (hA.dep 11 (by kernel_rfl) (by decide))) rfl
                          | 16, _ =>
                            obtain rfl := Option.some.inj ho
                            exact gg_off (b := false) rfl (hA.fact 11 (hA.dep 11 (by kernel_rfl) (by decide))) rfl
                          | 17, _ =>
                            obtain rfl := Option.some.inj ho
                            exact gg_no (b := true) rfl (hA.fact 1 (hA.dep 1 (by kernel_rfl) (by decide))) rfl
                          | 18, _ =>
                            obtain rfl := Option.some.inj ho
                            exact gg_plain rfl (gstep_val (rk_pickF rfl (hA.fact 1 (hA.dep 1 (by kernel_rfl) (by decide))) rfl) rfl)
                          | k + 19, hk => exact absurd (show k + 19 < 19 from hk) (by omega)
                        · intro vs w5 hg5 hv
                          have HGX := Lib.hid ((Gr.refl wo).drew.trans hg5)
                          have v140 : vs 18 = .bool false := hv 18 (by omega)
                          clear hv hg5
                          simp only [putN, List.drop_succ_cons, List.drop_zero, List.getElem?_cons_succ, List.getElem?_cons_zero]
                          generalize vs 18 = z140 at *
                          subst v140
                          generalize vs 0 = z122 at *
                          generalize vs 1 = z123 at *
                          generalize vs 2 = z124 at *
                          generalize vs 3 = z125 at *
                          generalize vs 4 = z126 at *
                          generalize vs 5 = z127 at *
                          generalize vs 6 = z128 at *
                          generalize vs 7 = z129 at *
                          generalize vs 8 = z130 at *
                          generalize vs 9 = z131 at *
                          generalize vs 10 = z132 at *
                          generalize vs 11 = z133 at *
                          generalize vs 12 = z134 at *
                          generalize vs 13 = z135 at *
                          generalize vs 14 = z136 at *
                          generalize vs 15 = z137 at *
                          generalize vs 16 = z138 at *
                          generalize vs 17 = z139 at *
                          go_wp2
                          go_roundw
                          case measure => simp [intOf]; omega
                          case rel => exact ⟨o + 1, false, HOQ.out, by go_num, rfl, HFN, HGQ.out.trans HGX.out⟩
                      | true =>
                        by_cases hfl : fo = fq
                        · by_cases hto : 0 ≤ tho
                          · have HFN : Hid (FT true ((aq ≤ t ∧ tq < 0) ∧ ∀ o', o' < o + 1 → (L.getD o' .zero).fl = fq → 0 ≤ thr o')) := Lib.hid (FT.true ⟨HFO.out.yes.1, fun o' ho' hf => by
                              by_cases e : o' = o
                              · rw [e, ← HTOO.out]; exact hto
                              · exact HFO.out.yes.2 o' (by omega) hf⟩)
                            have C1 : Hid (decide ((fo : Int) ≠ (fq : Int)) = false) := Lib.hid (by rw [hfl]; simp)
                            have C2 : Hid (decide ((0 : Int) ≤ tho) = true) := Lib.hid (decide_eq_true hto)
                            clear hfl hto
                            refine wp_region_gg (n := 19) [Fg.eq (.bool true), Fg.eq (.bool true), Fg.eq (.pointer (some ⟨cp o, 0, none⟩)), Fg.eq (.pointer (some ⟨cp o, 0, none⟩)), Fg.eq (.pointer (some ⟨cp o, 0, none⟩)), Fg.eq (.int .i64 (fo : Int)), Fg.eq (.pointer (some ⟨cp q, 0, none⟩)), Fg.eq (.pointer (some ⟨cp q, 0, none⟩)), Fg.eq (.pointer (some ⟨cp q, 0, none⟩)), Fg.eq (.int .i64 (fq : Int)), Fg.eq (.bool false), Fg.eq (.bool false), Fg.eq (.pointer (some ⟨cp o, 0, none⟩)), Fg.eq (.pointer (some ⟨cp o, 0, none⟩)), Fg.eq (.pointer (some ⟨cp o, 3, none⟩)), Fg.eq (.int .i64 tho), Fg.eq (.bool true), Fg.eq (.bool true), Fg.eq (.bool true)] [122, 123, 124, 125, 126, 127, 128, 129, 130, 131, 132, 133, 134, 135, 136, 137, 138, 139, 140] (by kernel_rfl) (by kernel_rfl) (by kernel_rfl) ?_ ?_
                            · intro L i o' ac w1 hi ho hA
                              have hgr : Gr wo w1 := (Gr.refl wo).drew.trans hA.gr
                              match i, hi with
                              | 0, _ =>
                                obtain rfl := Option.some.inj ho
                                exact gg_plain rfl (gstep_val (q_move rfl (show ac.eval (.tmp 23) = .bool true from hA.other 23 (by decide))) rfl)
                              | 1, _ =>
                                obtain rfl := Option.some.inj ho
                                exact gg_plain rfl (gstep_val (q_move rfl (hA.fact 0 (hA.dep 0 (by kernel_rfl) (by decide)))) rfl)
                              | 2, _ =>
                                obtain rfl := Option.some.inj ho
                                exact gg_yes (b := true) rfl (hA.fact 1 (hA.dep 1 (by kernel_rfl) (by decide))) (gstep_val (q_move rfl (show ac.eval (.tmp 25) = .pointer (some ⟨cp o, 0, none⟩) from hA.other 25 (by decide))) rfl)
                              | 3, _ =>
                                obtain rfl := Option.some.inj ho
                                exact gg_yes (b := true) rfl (hA.fact 1 (hA.dep 1 (by kernel_rfl) (by decide))) (gstep_val (q_nil rfl (hA.fact 2 (hA.dep 2 (by kernel_rfl) (by decide)))) rfl)
                              | 4, _ =>
                                obtain rfl := Option.some.inj ho
                                exact gg_yes (b := true) rfl (hA.fact 1 (hA.dep 1 (by kernel_rfl) (by decide))) (gstep_val (rk_fa_millraceref_cell_0 rfl (hA.fact 3 (hA.dep 3 (by kernel_rfl) (by decide)))) rfl)
                              | 5, _ =>
                                obtain rfl := Option.some.inj ho
                                exact gg_yes (b := true) rfl (hA.fact 1 (hA.dep 1 (by kernel_rfl) (by decide))) (gstep_val (q_loadI rfl (hA.fact 4 (hA.dep 4 (by kernel_rfl) (by decide))) (hgr.cell E0.out)) rfl)
                              | 6, _ =>
                                obtain rfl := Option.some.inj ho
                                exact gg_yes (b := true) rfl (hA.fact 1 (hA.dep 1 (by kernel_rfl) (by decide))) (gstep_val (q_move rfl (show ac.eval (.tmp 22) = .pointer (some ⟨cp q, 0, none⟩) from hA.other 22 (by decide))) rfl)
                              | 7, _ =>
                                obtain rfl := Option.some.inj ho
                                exact gg_yes (b := true) rfl (hA.fact 1 (hA.dep 1 (by kernel_rfl) (by decide))) (gstep_val (q_nil rfl (hA.fact 6 (hA.dep 6 (by kernel_rfl) (by decide)))) rfl)
                              | 8, _ =>
                                obtain rfl := Option.some.inj ho
                                exact gg_yes (b := true) rfl (hA.fact 1 (hA.dep 1 (by kernel_rfl) (by decide))) (gstep_val (rk_fa_millraceref_cell_0 rfl (hA.fact 7 (hA.dep 7 (by kernel_rfl) (by decide)))) rfl)
                              | 9, _ =>
                                obtain rfl := Option.some.inj ho
                                exact gg_yes (b := true) rfl (hA.fact 1 (hA.dep 1 (by kernel_rfl) (by decide))) (gstep_val (q_loadI rfl (hA.fact 8 (hA.dep 8 (by kernel_rfl) (by decide))) (hgr.cell E1.out)) rfl)
                              | 10, _ =>
                                obtain rfl := Option.some.inj ho
                                exact gg_yes (b := true) rfl (hA.fact 1 (hA.dep 1 (by kernel_rfl) (by decide))) (gstep_val (rk_neq rfl (hA.fact 5 (hA.dep 5 (by kernel_rfl) (by decide))) (hA.fact 9 (hA.dep 9 (by kernel_rfl) (by decide))) (C1.out)) rfl)
                              | 11, _ =>
                                obtain rfl := Option.some.inj ho
                                exact gg_yes (b := true) rfl (hA.fact 1 (hA.dep 1 (by kernel_rfl) (by decide))) (gstep_val (q_move rfl (hA.fact 10 (hA.dep 10 (by kernel_rfl) (by decide)))) rfl)
                              | 12, _ =>
                                obtain rfl := Option.some.inj ho
                                exact gg_yes (b := false) rfl (hA.fact 11 (hA.dep 11 (by kernel_rfl) (by decide))) (gstep_val (q_move rfl (show ac.eval (.tmp 25) = .pointer (some ⟨cp o, 0, none⟩) from hA.other 25 (by decide))) rfl)
                              | 13, _ =>
                                obtain rfl := Option.some.inj ho
                                exact gg_yes (b := false) rfl (hA.fact 11 (hA.dep 11 (by kernel_rfl) (by decide))) (gstep_val (q_nil rfl (hA.fact 12 (hA.dep 12 (by kernel_rfl) (by decide)))) rfl)
                              | 14, _ =>
                                obtain rfl := Option.some.inj ho
                                exact gg_yes (b := false) rfl (hA.fact 11 (hA.dep 11 (by kernel_rfl) (by decide))) (gstep_val (rk_fa_millraceref_cell_3 rfl (hA.fact 13 (hA.dep 13 (by kernel_rfl) (by decide)))) rfl)
                              | 15, _ =>
                                obtain rfl := Option.some.inj ho
                                exact gg_yes (b := false) rfl (hA.fact 11 (hA.dep 11 (by kernel_rfl) (by decide))) (gstep_val (q_loadI rfl (hA.fact 14 (hA.dep 14 (by kernel_rfl) (by decide))) (hgr.cell E3.out)) rfl)
                              | 16, _ =>
                                obtain rfl := Option.some.inj ho
                                exact gg_yes (b := false) rfl (hA.fact 11 (hA.dep 11 (by kernel_rfl) (by decide))) (gstep_val (rk_geq rfl (hA.fact 15 (hA.dep 15 (by kernel_rfl) (by decide))) rfl (C2.out)) rfl)
                              | 17, _ =>
                                obtain rfl := Option.some.inj ho
                                exact gg_yes (b := true) rfl (hA.fact 1 (hA.dep 1 (by kernel_rfl) (by decide))) (gstep_val (rk_pickF rfl (hA.fact 11 (hA.dep 11 (by kernel_rfl) (by decide))) (hA.fact 16 (hA.dep 16 (by kernel_rfl) (by decide)))) rfl)
                              | 18, _ =>
                                obtain rfl := Option.some.inj ho
                                exact gg_plain rfl (gstep_val (rk_pickT rfl (hA.fact 1 (hA.dep 1 (by kernel_rfl) (by decide))) (hA.fact 17 (hA.dep 17 (by kernel_rfl) (by decide)))) rfl)
                              | k + 19, hk => exact absurd (show k + 19 < 19 from hk) (by omega)
                            · intro vs w5 hg5 hv
                              have HGX := Lib.hid ((Gr.refl wo).drew.trans hg5)
                              have v140 : vs 18 = .bool true := hv 18 (by omega)
                              clear hv hg5
                              simp only [putN, List.drop_succ_cons, List.drop_zero, List.getElem?_cons_succ, List.getElem?_cons_zero]
                              generalize vs 18 = z140 at *
                              subst v140
                              generalize vs 0 = z122 at *
                              generalize vs 1 = z123 at *
                              generalize vs 2 = z124 at *
                              generalize vs 3 = z125 at *
                              generalize vs 4 = z126 at *
                              generalize vs 5 = z127 at *
                              generalize vs 6 = z128 at *
                              generalize vs 7 = z129 at *
                              generalize vs 8 = z130 at *
                              generalize vs 9 = z131 at *
                              generalize vs 10 = z132 at *
                              generalize vs 11 = z133 at *
                              generalize vs 12 = z134 at *
                              generalize vs 13 = z135 at *
                              generalize vs 14 = z136 at *
                              generalize vs 15 = z137 at *
                              generalize vs 16 = z138 at *
                              generalize vs 17 = z139 at *
                              go_wp2
                              go_roundw
                              case measure => simp [intOf]; omega
                              case rel => exact ⟨o + 1, true, HOQ.out, by go_num, rfl, HFN, HGQ.out.trans HGX.out⟩
                          · have HFN : Hid (FT false ((aq ≤ t ∧ tq < 0) ∧ ∀ o', o' < o + 1 → (L.getD o' .zero).fl = fq → 0 ≤ thr o')) := Lib.hid (FT.false (fun h => absurd (h.2 o (by omega) (by rw [← HFOO.out]; exact hfl)) (by rw [← HTOO.out]; exact hto)))
                            have C1 : Hid (decide ((fo : Int) ≠ (fq : Int)) = false) := Lib.hid (by rw [hfl]; simp)
                            have C2 : Hid (decide ((0 : Int) ≤ tho) = false) := Lib.hid (decide_eq_false hto)
                            clear hfl hto
                            refine wp_region_gg (n := 19) [Fg.eq (.bool true), Fg.eq (.bool true), Fg.eq (.pointer (some ⟨cp o, 0, none⟩)), Fg.eq (.pointer (some ⟨cp o, 0, none⟩)), Fg.eq (.pointer (some ⟨cp o, 0, none⟩)), Fg.eq (.int .i64 (fo : Int)), Fg.eq (.pointer (some ⟨cp q, 0, none⟩)), Fg.eq (.pointer (some ⟨cp q, 0, none⟩)), Fg.eq (.pointer (some ⟨cp q, 0, none⟩)), Fg.eq (.int .i64 (fq : Int)), Fg.eq (.bool false), Fg.eq (.bool false), Fg.eq (.pointer (some ⟨cp o, 0, none⟩)), Fg.eq (.pointer (some ⟨cp o, 0, none⟩)), Fg.eq (.pointer (some ⟨cp o, 3, none⟩)), Fg.eq (.int .i64 tho), Fg.eq (.bool false), Fg.eq (.bool false), Fg.eq (.bool false)] [122, 123, 124, 125, 126, 127, 128, 129, 130, 131, 132, 133, 134, 135, 136, 137, 138, 139, 140] (by kernel_rfl) (by kernel_rfl) (by kernel_rfl) ?_ ?_
                            · intro L i o' ac w1 hi ho hA
                              have hgr : Gr wo w1 := (Gr.refl wo).drew.trans hA.gr
                              match i, hi with
                              | 0, _ =>
                                obtain rfl := Option.some.inj ho
                                exact gg_plain rfl (gstep_val (q_move rfl (show ac.eval (.tmp 23) = .bool true from hA.other 23 (by decide))) rfl)
                              | 1, _ =>
                                obtain rfl := Option.some.inj ho
                                exact gg_plain rfl (gstep_val (q_move rfl (hA.fact 0 (hA.dep 0 (by kernel_rfl) (by decide)))) rfl)
                              | 2, _ =>
                                obtain rfl := Option.some.inj ho
                                exact gg_yes (b := true) rfl (hA.fact 1 (hA.dep 1 (by kernel_rfl) (by decide))) (gstep_val (q_move rfl (show ac.eval (.tmp 25) = .pointer (some ⟨cp o, 0, none⟩) from hA.other 25 (by decide))) rfl)
                              | 3, _ =>
                                obtain rfl := Option.some.inj ho
                                exact gg_yes (b := true) rfl (hA.fact 1 (hA.dep 1 (by kernel_rfl) (by decide))) (gstep_val (q_nil rfl (hA.fact 2 (hA.dep 2 (by kernel_rfl) (by decide)))) rfl)
                              | 4, _ =>
                                obtain rfl := Option.some.inj ho
                                exact gg_yes (b := true) rfl (hA.fact 1 (hA.dep 1 (by kernel_rfl) (by decide))) (gstep_val (rk_fa_millraceref_cell_0 rfl (hA.fact 3 (hA.dep 3 (by kernel_rfl) (by decide)))) rfl)
                              | 5, _ =>
                                obtain rfl := Option.some.inj ho
                                exact gg_yes (b := true) rfl (hA.fact 1 (hA.dep 1 (by kernel_rfl) (by decide))) (gstep_val (q_loadI rfl (hA.fact 4 (hA.dep 4 (by kernel_rfl) (by decide))) (hgr.cell E0.out)) rfl)
                              | 6, _ =>
                                obtain rfl := Option.some.inj ho
                                exact gg_yes (b := true) rfl (hA.fact 1 (hA.dep 1 (by kernel_rfl) (by decide))) (gstep_val (q_move rfl (show ac.eval (.tmp 22) = .pointer (some ⟨cp q, 0, none⟩) from hA.other 22 (by decide))) rfl)
                              | 7, _ =>
                                obtain rfl := Option.some.inj ho
                                exact gg_yes (b := true) rfl (hA.fact 1 (hA.dep 1 (by kernel_rfl) (by decide))) (gstep_val (q_nil rfl (hA.fact 6 (hA.dep 6 (by kernel_rfl) (by decide)))) rfl)
                              | 8, _ =>
                                obtain rfl := Option.some.inj ho
                                exact gg_yes (b := true) rfl (hA.fact 1 (hA.dep 1 (by kernel_rfl) (by decide))) (gstep_val (rk_fa_millraceref_cell_0 rfl (hA.fact 7 (hA.dep 7 (by kernel_rfl) (by decide)))) rfl)
                              | 9, _ =>
                                obtain rfl := Option.some.inj ho
                                exact gg_yes (b := true) rfl (hA.fact 1 (hA.dep 1 (by kernel_rfl) (by decide))) (gstep_val (q_loadI rfl (hA.fact 8 (hA.dep 8 (by kernel_rfl) (by decide))) (hgr.cell E1.out)) rfl)
                              | 10, _ =>
                                obtain rfl := Option.some.inj ho
                                exact gg_yes (b := true) rfl (hA.fact 1 (hA.dep 1 (by kernel_rfl) (by decide))) (gstep_val (rk_neq rfl (hA.fact 5 (hA.dep 5 (by kernel_rfl) (by decide))) (hA.fact 9 (hA.dep 9 (by kernel_rfl) (by decide))) (C1.out)) rfl)
                              | 11, _ =>
                                obtain rfl := Option.some.inj ho
                                exact gg_yes (b := true) rfl (hA.fact 1 (hA.dep 1 (by kernel_rfl) (by decide))) (gstep_val (q_move rfl (hA.fact 10 (hA.dep 10 (by kernel_rfl) (by decide)))) rfl)
                              | 12, _ =>
                                obtain rfl := Option.some.inj ho
                                exact gg_yes (b := false) rfl (hA.fact 11 (hA.dep 11 (by kernel_rfl) (by decide))) (gstep_val (q_move rfl (show ac.eval (.tmp 25) = .pointer (some ⟨cp o, 0, none⟩) from hA.other 25 (by decide))) rfl)
                              | 13, _ =>
                                obtain rfl := Option.some.inj ho
                                exact gg_yes (b := false) rfl (hA.fact 11 (hA.dep 11 (by kernel_rfl) (by decide))) (gstep_val (q_nil rfl (hA.fact 12 (hA.dep 12 (by kernel_rfl) (by decide)))) rfl)
                              | 14, _ =>
                                obtain rfl := Option.some.inj ho
                                exact gg_yes (b := false) rfl (hA.fact 11 (hA.dep 11 (by kernel_rfl) (by decide))) (gstep_val (rk_fa_millraceref_cell_3 rfl (hA.fact 13 (hA.dep 13 (by kernel_rfl) (by decide)))) rfl)
                              | 15, _ =>
                                obtain rfl := Option.some.inj ho
                                exact gg_yes (b := false) rfl (hA.fact 11 (hA.dep 11 (by kernel_rfl) (by decide))) (gstep_val (q_loadI rfl (hA.fact 14 (hA.dep 14 (by kernel_rfl) (by decide))) (hgr.cell E3.out)) rfl)
                              | 16, _ =>
                                obtain rfl := Option.some.inj ho
                                exact gg_yes (b := false) rfl (hA.fact 11 (hA.dep 11 (by kernel_rfl) (by decide))) (gstep_val (rk_geq rfl (hA.fact 15 (hA.dep 15 (by kernel_rfl) (by decide))) rfl (C2.out)) rfl)
                              | 17, _ =>
                                obtain rfl := Option.some.inj ho
                                exact gg_yes (b := true) rfl (hA.fact 1 (hA.dep 1 (by kernel_rfl) (by decide))) (gstep_val (rk_pickF rfl (hA.fact 11 (hA.dep 11 (by kernel_rfl) (by decide))) (hA.fact 16 (hA.dep 16 (by kernel_rfl) (by decide)))) rfl)
                              | 18, _ =>
                                obtain rfl := Option.some.inj ho
                                exact gg_plain rfl (gstep_val (rk_pickT rfl (hA.fact 1 (hA.dep 1 (by kernel_rfl) (by decide))) (hA.fact 17 (hA.dep 17 (by kernel_rfl) (by decide)))) rfl)
                              | k + 19, hk => exact absurd (show k + 19 < 19 from hk) (by omega)
                            · intro vs w5 hg5 hv
                              have HGX := Lib.hid ((Gr.refl wo).drew.trans hg5)
                              have v140 : vs 18 = .bool false := hv 18 (by omega)
                              clear hv hg5
                              simp only [putN, List.drop_succ_cons, List.drop_zero, List.getElem?_cons_succ, List.getElem?_cons_zero]
                              generalize vs 18 = z140 at *
                              subst v140
                              generalize vs 0 = z122 at *
                              generalize vs 1 = z123 at *
                              generalize vs 2 = z124 at *
                              generalize vs 3 = z125 at *
                              generalize vs 4 = z126 at *
                              generalize vs 5 = z127 at *
                              generalize vs 6 = z128 at *
                              generalize vs 7 = z129 at *
                              generalize vs 8 = z130 at *
                              generalize vs 9 = z131 at *
                              generalize vs 10 = z132 at *
                              generalize vs 11 = z133 at *
                              generalize vs 12 = z134 at *
                              generalize vs 13 = z135 at *
                              generalize vs 14 = z136 at *
                              generalize vs 15 = z137 at *
                              generalize vs 16 = z138 at *
                              generalize vs 17 = z139 at *
                              go_wp2
                              go_roundw
                              case measure => simp [intOf]; omega
                              case rel => exact ⟨o + 1, false, HOQ.out, by go_num, rfl, HFN, HGQ.out.trans HGX.out⟩
                        · have HFN : Hid (FT true ((aq ≤ t ∧ tq < 0) ∧ ∀ o', o' < o + 1 → (L.getD o' .zero).fl = fq → 0 ≤ thr o')) := Lib.hid (FT.true ⟨HFO.out.yes.1, fun o' ho' hf => by
                            by_cases e : o' = o
                            · subst e; exact absurd (HFOO.out.trans hf) hfl
                            · exact HFO.out.yes.2 o' (by omega) hf⟩)
                          have C1 : Hid (decide ((fo : Int) ≠ (fq : Int)) = true) := Lib.hid (decide_eq_true (by omega))
                          clear hfl
                          refine wp_region_gg (n := 19) [Fg.eq (.bool true), Fg.eq (.bool true), Fg.eq (.pointer (some ⟨cp o, 0, none⟩)), Fg.eq (.pointer (some ⟨cp o, 0, none⟩)), Fg.eq (.pointer (some ⟨cp o, 0, none⟩)), Fg.eq (.int .i64 (fo : Int)), Fg.eq (.pointer (some ⟨cp q, 0, none⟩)), Fg.eq (.pointer (some ⟨cp q, 0, none⟩)), Fg.eq (.pointer (some ⟨cp q, 0, none⟩)), Fg.eq (.int .i64 (fq : Int)), Fg.eq (.bool true), Fg.eq (.bool true), Fg.eq undef, Fg.eq undef, Fg.eq undef, Fg.eq undef, Fg.eq undef, Fg.eq (.bool true), Fg.eq (.bool true)] [122, 123, 124, 125, 126, 127, 128, 129, 130, 131, 132, 133, 134, 135, 136, 137, 138, 139, 140] (by kernel_rfl) (by kernel_rfl) (by kernel_rfl) ?_ ?_
                          · intro L i o' ac w1 hi ho hA
                            have hgr : Gr wo w1 := (Gr.refl wo).drew.trans hA.gr
                            match i, hi with
                            | 0, _ =>
                              obtain rfl := Option.some.inj ho
                              exact gg_plain rfl (gstep_val (q_move rfl (show ac.eval (.tmp 23) = .bool true from hA.other 23 (by decide))) rfl)
                            | 1, _ =>
                              obtain rfl := Option.some.inj ho
                              exact gg_plain rfl (gstep_val (q_move rfl (hA.fact 0 (hA.dep 0 (by kernel_rfl) (by decide)))) rfl)
                            | 2, _ =>
                              obtain rfl := Option.some.inj ho
                              exact gg_yes (b := true) rfl (hA.fact 1 (hA.dep 1 (by kernel_rfl) (by decide))) (gstep_val (q_move rfl (show ac.eval (.tmp 25) = .pointer (some ⟨cp o, 0, none⟩) from hA.other 25 (by decide))) rfl)
                            | 3, _ =>
                              obtain rfl := Option.some.inj ho
                              exact gg_yes (b := true) rfl (hA.fact 1 (hA.dep 1 (by kernel_rfl) (by decide))) (gstep_val (q_nil rfl (hA.fact 2 (hA.dep 2 (by kernel_rfl) (by decide)))) rfl)
                            | 4, _ =>
                              obtain rfl := Option.some.inj ho
                              exact gg_yes (b := true) rfl (hA.fact 1 (hA.dep 1 (by kernel_rfl) (by decide))) (gstep_val (rk_fa_millraceref_cell_0 rfl (hA.fact 3 (hA.dep 3 (by kernel_rfl) (by decide)))) rfl)
                            | 5, _ =>
                              obtain rfl := Option.some.inj ho
                              exact gg_yes (b := true) rfl (hA.fact 1 (hA.dep 1 (by kernel_rfl) (by decide))) (gstep_val (q_loadI rfl (hA.fact 4 (hA.dep 4 (by kernel_rfl) (by decide))) (hgr.cell E0.out)) rfl)
                            | 6, _ =>
                              obtain rfl := Option.some.inj ho
                              exact gg_yes (b := true) rfl (hA.fact 1 (hA.dep 1 (by kernel_rfl) (by decide))) (gstep_val (q_move rfl (show ac.eval (.tmp 22) = .pointer (some ⟨cp q, 0, none⟩) from hA.other 22 (by decide))) rfl)
                            | 7, _ =>
                              obtain rfl := Option.some.inj ho
                              exact gg_yes (b := true) rfl (hA.fact 1 (hA.dep 1 (by kernel_rfl) (by decide))) (gstep_val (q_nil rfl (hA.fact 6 (hA.dep 6 (by kernel_rfl) (by decide)))) rfl)
                            | 8, _ =>
                              obtain rfl := Option.some.inj ho
                              exact gg_yes (b := true) rfl (hA.fact 1 (hA.dep 1 (by kernel_rfl) (by decide))) (gstep_val (rk_fa_millraceref_cell_0 rfl (hA.fact 7 (hA.dep 7 (by kernel_rfl) (by decide)))) rfl)
                            | 9, _ =>
                              obtain rfl := Option.some.inj ho
                              exact gg_yes (b := true) rfl (hA.fact 1 (hA.dep 1 (by kernel_rfl) (by decide))) (gstep_val (q_loadI rfl (hA.fact 8 (hA.dep 8 (by kernel_rfl) (by decide))) (hgr.cell E1.out)) rfl)
                            | 10, _ =>
                              obtain rfl := Option.some.inj ho
                              exact gg_yes (b := true) rfl (hA.fact 1 (hA.dep 1 (by kernel_rfl) (by decide))) (gstep_val (rk_neq rfl (hA.fact 5 (hA.dep 5 (by kernel_rfl) (by decide))) (hA.fact 9 (hA.dep 9 (by kernel_rfl) (by decide))) (C1.out)) rfl)
                            | 11, _ =>
                              obtain rfl := Option.some.inj ho
                              exact gg_yes (b := true) rfl (hA.fact 1 (hA.dep 1 (by kernel_rfl) (by decide))) (gstep_val (q_move rfl (hA.fact 10 (hA.dep 10 (by kernel_rfl) (by decide)))) rfl)
                            | 12, _ =>
                              obtain rfl := Option.some.inj ho
                              exact gg_no (b := false) rfl (hA.fact 11 (hA.dep 11 (by kernel_rfl) (by decide))) rfl
                            | 13, _ =>
                              obtain rfl := Option.some.inj ho
                              exact gg_no (b := false) rfl (hA.fact 11 (hA.dep 11 (by kernel_rfl) (by decide))) rfl
                            | 14, _ =>
                              obtain rfl := Option.some.inj ho
                              exact gg_no (b := false) rfl (hA.fact 11 (hA.dep 11 (by kernel_rfl) (by decide))) rfl
                            | 15, _ =>
                              obtain rfl := Option.some.inj ho
                              exact gg_no (b := false) rfl (hA.fact 11 (hA.dep 11 (by kernel_rfl) (by decide))) rfl
                            | 16, _ =>
                              obtain rfl := Option.some.inj ho
                              exact gg_no (b := false) rfl (hA.fact 11 (hA.dep 11 (by kernel_rfl) (by decide))) rfl
                            | 17, _ =>
                              obtain rfl := Option.some.inj ho
                              exact gg_yes (b := true) rfl (hA.fact 1 (hA.dep 1 (by kernel_rfl) (by decide))) (gstep_val (rk_pickT rfl (hA.fact 11 (hA.dep 11 (by kernel_rfl) (by decide))) rfl) rfl)
                            | 18, _ =>
                              obtain rfl := Option.some.inj ho
                              exact gg_plain rfl (gstep_val (rk_pickT rfl (hA.fact 1 (hA.dep 1 (by kernel_rfl) (by decide))) (hA.fact 17 (hA.dep 17 (by kernel_rfl) (by decide)))) rfl)
                            | k + 19, hk => exact absurd (show k + 19 < 19 from hk) (by omega)
                          · intro vs w5 hg5 hv
                            have HGX := Lib.hid ((Gr.refl wo).drew.trans hg5)
                            have v140 : vs 18 = .bool true := hv 18 (by omega)
                            clear hv hg5
                            simp only [putN, List.drop_succ_cons, List.drop_zero, List.getElem?_cons_succ, List.getElem?_cons_zero]
                            generalize vs 18 = z140 at *
                            subst v140
                            generalize vs 0 = z122 at *
                            generalize vs 1 = z123 at *
                            generalize vs 2 = z124 at *
                            generalize vs 3 = z125 at *
                            generalize vs 4 = z126 at *
                            generalize vs 5 = z127 at *
                            generalize vs 6 = z128 at *
                            generalize vs 7 = z129 at *
                            generalize vs 8 = z130 at *
                            generalize vs 9 = z131 at *
                            generalize vs 10 = z132 at *
                            generalize vs 11 = z133 at *
                            generalize vs 12 = z134 at *
                            generalize vs 13 = z135 at *
                            generalize vs 14 = z136 at *
                            generalize vs 15 = z137 at *
                            generalize vs 16 = z138 at *
                            generalize vs 17 = z139 at *
                            go_wp2
                            go_roundw
                            case measure => simp [intOf]; omega
                            case rel => exact ⟨o + 1, true, HOQ.out, by go_num, rfl, HFN, HGQ.out.trans HGX.out⟩
                · have HF0 : Hid (FT false (aq ≤ t ∧ tq < 0)) := Lib.hid (FT.false (by omega))
                  go_wp2
                  clear c0 d0 d1 d3
                  go_loopw [23, 115] (fun fv s wr => ∃ (o : Nat) (f : Bool), o ≤ q ∧ s = .int .i64 (o : Int) ∧ fv = .bool f ∧ Hid (FT f ((aq ≤ t ∧ tq < 0) ∧ ∀ o', o' < o → (L.getD o' .zero).fl = fq → 0 ≤ thr o')) ∧ Hid (Gr wq wr)) (fun _ s _ => NN - (intOf s).toNat)
                  case atStart => exact ⟨0, false, Nat.zero_le _, rfl, rfl, Lib.hid (FT.mk (fun h => ⟨HF0.out.1 h, fun o' ho' => absurd ho' (by omega)⟩) (fun h => HF0.out.2 h.1)), Gr.refl _⟩
                  case round =>
                    obtain ⟨o, f, ho, rfl, rfl, HFO, HGQ⟩ := hrel
                    obtain ⟨wo, hwo⟩ : ∃ u, u = wr := ⟨_, rfl⟩
                    subst hwo
                    have o0 : (0 : Int) ≤ (o : Int) := by omega
                    have o1 : (o : Int) < (NN : Int) := by omega
                    have HON : Hid (o < NN) := Lib.hid (by omega)
                    have c0 := HGQ.out.cell (HPT.out o HON.out)
                    have HCO2 := Lib.hid (HCQ.out.gr HGQ.out)
                    by_cases hoq : o = q
                    · subst hoq
                      have HFC : Hid (FT f (firstC L thr t o)) := Lib.hid (by
                        have h := HFO.out
                        unfold firstC
                        rw [← HCQQ.out, ← HAQ.out, ← HTQ.out, ← HFQ.out]
                        exact h)
                      have HEQ := Lib.hid (eqP_same wo (cp o))
                      go_upto_region 40 with (refine wpList_eqP (by rfl) _ _ (by rfl) _ _ (by rfl) (by rfl) _ HEQ.out ?_)
                      clear c0
                      have HGA : Hid (Gr wt wo) := Lib.hid (HGT.out.trans HGQ.out)
                      cases f with
                      | false =>
                        have HNX : Hid (bp = PV cp (rpick L T thr t (o + 1))) := Lib.hid (by rw [rpick_no HFC.out.no]; exact HBP.out)
                        go_wp2
                        go_roundw
                        case measure => simp [intOf]; omega
                        case rel => exact ⟨o + 1, bp, by have := HQL.out; omega, by go_num, rfl, HNX, HGA⟩
                      | true =>
                        by_cases hbn : rpick L T thr t o < 0
                        · obtain rfl : bp = none := HBP.out.trans (PV_none hbn)
                          have HNX : Hid (some ⟨cp o, 0, none⟩ = PV cp (rpick L T thr t (o + 1))) := Lib.hid (by rw [rpick_take HFC.out.yes (.inl hbn), PV_at])
                          clear hbn
                          go_wp2
                          go_roundw
                          case measure => simp [intOf]; omega
                          case rel => exact ⟨o + 1, some ⟨cp o, 0, none⟩, by have := HQL.out; omega, by go_num, rfl, HNX, HGA⟩
                        · obtain ⟨rb, hrb⟩ : ∃ rb : Nat, rpick L T thr t o = (rb : Int) := ⟨_, (Int.toNat_of_nonneg (by omega)).symm⟩
                          obtain rfl : bp = some ⟨cp rb, 0, none⟩ := by rw [HBP.out, hrb, PV_at]
                          have hrl : rb < L.length := by
                            have hl := HLQ.out
                            rcases rpick_spec L T thr t o with ⟨h1, _⟩ | ⟨q', h1, h2, _⟩
                            · omega
                            · omega
                          have HRB := Lib.hid hrb
                          obtain ⟨s1, hs1⟩ : ∃ s1, s1 = soon T (L.getD o .zero).due := ⟨_, rfl⟩
                          obtain ⟨s2, hs2⟩ : ∃ s2, s2 = soon T (L.getD rb .zero).due := ⟨_, rfl⟩
                          have HK1 := Lib.hid (key_any (cp o) T _ _ wo (HCO2.out.at_ o HLQ.out) (by have := HT200.out; omega))
                          have HK2 := Lib.hid (key_any (cp rb) T _ _ wo (HCO2.out.at_ rb hrl) (by have := HT200.out; omega))
                          rw [← hs1] at HK1
                          rw [← hs2] at HK2
                          have HS12 := Lib.hid (And.intro hs1 hs2)
                          clear hs1 hs2 hrl hrb hbn
                          by_cases h31 : s1 < s2
                          · have HNX : Hid (some ⟨cp o, 0, none⟩ = PV cp (rpick L T thr t (o + 1))) := Lib.hid (by rw [rpick_take HFC.out.yes (.inr (by rw [HRB.out, Int.toNat_natCast, ← HS12.out.1, ← HS12.out.2]; exact h31)), PV_at])
                            go_wp2_with (first | (go_at_call 14; have _ := tok1; refine HK2.out.mono ?_; rintro e w7 ⟨rfl, rfl⟩; clear tok1) | (go_at_call 14; refine HK1.out.mono ?_; rintro e w6 ⟨rfl, rfl⟩; have tok1 := trivial))
                            go_roundw
                            case measure => simp [intOf]; omega
                            case rel => exact ⟨o + 1, some ⟨cp o, 0, none⟩, by have := HQL.out; omega, by go_num, rfl, HNX, HGA⟩
                          · have HNX : Hid (some ⟨cp rb, 0, none⟩ = PV cp (rpick L T thr t (o + 1))) := Lib.hid (by rw [rpick_keep (by rw [HRB.out]; omega) (by rw [HRB.out, Int.toNat_natCast, ← HS12.out.1, ← HS12.out.2]; exact h31), HRB.out, PV_at])
                            go_wp2_with (first | (go_at_call 14; have _ := tok1; refine HK2.out.mono ?_; rintro e w7 ⟨rfl, rfl⟩; clear tok1) | (go_at_call 14; refine HK1.out.mono ?_; rintro e w6 ⟨rfl, rfl⟩; have tok1 := trivial))
                            go_roundw
                            case measure => simp [intOf]; omega
                            case rel => exact ⟨o + 1, some ⟨cp rb, 0, none⟩, by have := HQL.out; omega, by go_num, rfl, HNX, HGA⟩
                    · have hne : ¬ cp o = cp q := fun e => hoq (HC.out.inj o q (by rw [HLL.out.1]; exact HON.out) HLQ.out e)
                      have HOQ : Hid (o < q) := Lib.hid (by omega)
                      obtain ⟨fo, hfo⟩ : ∃ fo, fo = (L.getD o .zero).fl := ⟨_, rfl⟩
                      obtain ⟨tho, hto⟩ : ∃ tho, tho = thr o := ⟨_, rfl⟩
                      have E0 := Lib.hid (HCO2.out.at_ o (by rw [HLL.out.1]; exact HON.out)).c0
                      have E3 := Lib.hid (HCO2.out.at_ o (by rw [HLL.out.1]; exact HON.out)).c3
                      have E1 := Lib.hid (HCO2.out.at_ q HLQ.out).c0
                      rw [← hfo] at E0
                      rw [← hto] at E3
                      rw [← HCQQ.out, ← HFQ.out] at E1
                      have HFOO := Lib.hid hfo
                      have HTOO := Lib.hid hto
                      have HEQ := Lib.hid (eqP_other (HCO2.out.at_ o (by rw [HLL.out.1]; exact HON.out)).kd (HCO2.out.at_ q HLQ.out).kd hne)
                      clear hfo hto hoq hne
                      go_upto_region 38 with (refine wpList_eqP (by rfl) _ _ (by rfl) _ _ (by rfl) (by rfl) _ HEQ.out ?_)
                      clear c0
                      cases f with
                      | false =>
                        have HFN : Hid (FT false ((aq ≤ t ∧ tq < 0) ∧ ∀ o', o' < o + 1 → (L.getD o' .zero).fl = fq → 0 ≤ thr o')) := Lib.hid (FT.false (fun h => HFO.out.no ⟨h.1, fun o' ho' => h.2 o' (by omega)⟩))
                        refine wp_region_gg (n := 19) [Fg.eq (.bool false), Fg.eq (.bool false), Fg.eq undef, Fg.eq undef, Fg.eq undef, Fg.eq undef, Fg.eq undef, Fg.eq undef, Fg.eq undef, Fg.eq undef, Fg.eq undef, Fg.eq undef, Fg.eq undef, Fg.eq undef, Fg.eq undef, Fg.eq undef, Fg.eq undef, Fg.eq undef, Fg.eq (.bool false)] [122, 123, 124, 125, 126, 127, 128, 129, 130, 131, 132, 133, 134, 135, 136, 137, 138, 139, 140] (by kernel_rfl) (by kernel_rfl) (by kernel_rfl) ?_ ?_
                        · intro L i o' ac w1 hi ho hA
                          have hgr : Gr wo w1 := (Gr.refl wo).drew.trans hA.gr
                          match i, hi with
                          | 0, _ =>
                            obtain rfl := Option.some.inj ho
                            exact gg_plain rfl (gstep_val (q_move rfl (show ac.eval (.tmp 23) = .bool false from hA.other 23 (by decide))) rfl)
                          | 1, _ =>
                            obtain rfl := Option.some.inj ho
                            exact gg_plain rfl (gstep_val (q_move rfl (hA.fact 0 (hA.dep 0 (by kernel_rfl) (by decide)))) rfl)
                          | 2, _ =>
                            obtain rfl := Option.some.inj ho
                            exact gg_no (b := true) rfl (hA.fact 1 (hA.dep 1 (by kernel_rfl) (by decide))) rfl
                          | 3, _ =>
                            obtain rfl := Option.some.inj ho
                            exact gg_no (b := true) rfl (hA.fact 1 (hA.dep 1 (by kernel_rfl) (by decide))) rfl
                          | 4, _ =>
                            obtain rfl := Option.some.inj ho
                            exact gg_no (b := true) rfl (hA.fact 1 (hA.dep 1 (by kernel_rfl) (by decide))) rfl
                          | 5, _ =>
                            obtain rfl := Option.some.inj ho
                            exact gg_no (b := true) rfl (hA.fact 1 (hA.dep 1 (by kernel_rfl) (by decide))) rfl
                          | 6, _ =>
                            obtain rfl := Option.some.inj ho
                            exact gg_no (b := true) rfl (hA.fact 1 (hA.dep 1 (by kernel_rfl) (by decide))) rfl
                          | 7, _ =>
                            obtain rfl := Option.some.inj ho
                            exact gg_no (b := true) rfl (hA.fact 1 (hA.dep 1 (by kernel_rfl) (by decide))) rfl
                          | 8, _ =>
                            obtain rfl := Option.some.inj ho
                            exact gg_no (b := true) rfl (hA.fact 1 (hA.dep 1 (by kernel_rfl) (by decide))) rfl
                          | 9, _ =>
                            obtain rfl := Option.some.inj ho
                            exact gg_no (b := true) rfl (hA.fact 1 (hA.dep 1 (by kernel_rfl) (by decide))) rfl
                          | 10, _ =>
                            obtain rfl := Option.some.inj ho
                            exact gg_no (b := true) rfl (hA.fact 1 (hA.dep 1 (by kernel_rfl) (by decide))) rfl
                          | 11, _ =>
                            obtain rfl := Option.some.inj ho
                            exact gg_no (b := true) rfl (hA.fact 1 (hA.dep 1 (by kernel_rfl) (by decide))) rfl
                          | 12, _ =>
                            obtain rfl := Option.some.inj ho
                            exact gg_off (b := false) rfl (hA.fact 11 (hA.dep 11 (by kernel_rfl) (by decide))) rfl
                          | 13, _ =>
                            obtain rfl := Option.some.inj ho
                            exact gg_off (b := false) rfl (hA.fact 11 (hA.dep 11 (by kernel_rfl) (by decide))) rfl
                          | 14, _ =>
                            obtain rfl := Option.some.inj ho
                            exact gg_off (b := false) rfl (hA.fact 11 (hA.dep 11 (by kernel_rfl) (by decide))) rfl
                          | 15, _ =>
                            obtain rfl := Option.some.inj ho
                            exact gg_off (b := false) rfl (hA.fact 11 (hA.dep 11 (by kernel_rfl) (by decide))) rfl
                          | 16, _ =>
                            obtain rfl := Option.some.inj ho
                            exact gg_off (b := false) rfl (hA.fact 11 (hA.dep 11 (by kernel_rfl) (by decide))) rfl
                          | 17, _ =>
                            obtain rfl := Option.some.inj ho
                            exact gg_no (b := true) rfl (hA.fact 1 (hA.dep 1 (by kernel_rfl) (by decide))) rfl
                          | 18, _ =>
                            obtain rfl := Option.some.inj ho
                            exact gg_plain rfl (gstep_val (rk_pickF rfl (hA.fact 1 (hA.dep 1 (by kernel_rfl) (by decide))) rfl) rfl)
                          | k + 19, hk => exact absurd (show k + 19 < 19 from hk) (by omega)
                        · intro vs w5 hg5 hv
                          have HGX := Lib.hid ((Gr.refl wo).drew.trans hg5)
                          have v140 : vs 18 = .bool false := hv 18 (by omega)
                          clear hv hg5
                          simp only [putN, List.drop_succ_cons, List.drop_zero, List.getElem?_cons_succ, List.getElem?_cons_zero]
                          generalize vs 18 = z140 at *
                          subst v140
                          generalize vs 0 = z122 at *
                          generalize vs 1 = z123 at *
                          generalize vs 2 = z124 at *
                          generalize vs 3 = z125 at *
                          generalize vs 4 = z126 at *
                          generalize vs 5 = z127 at *
                          generalize vs 6 = z128 at *
                          generalize vs 7 = z129 at *
                          generalize vs 8 = z130 at *
                          generalize vs 9 = z131 at *
                          generalize vs 10 = z132 at *
                          generalize vs 11 = z133 at *
                          generalize vs 12 = z134 at *
                          generalize vs 13 = z135 at *
                          generalize vs 14 = z136 at *
                          generalize vs 15 = z137 at *
                          generalize vs 16 = z138 at *
                          generalize vs 17 = z139 at *
                          go_wp2
                          go_roundw
                          case measure => simp [intOf]; omega
                          case rel => exact ⟨o + 1, false, HOQ.out, by go_num, rfl, HFN, HGQ.out.trans HGX.out⟩
                      | true =>
                        by_cases hfl : fo = fq
                        · by_cases hto : 0 ≤ tho
                          · have HFN : Hid (FT true ((aq ≤ t ∧ tq < 0) ∧ ∀ o', o' < o + 1 → (L.getD o' .zero).fl = fq → 0 ≤ thr o')) := Lib.hid (FT.true ⟨HFO.out.yes.1, fun o' ho' hf => by
                              by_cases e : o' = o
                              · rw [e, ← HTOO.out]; exact hto
                              · exact HFO.out.yes.2 o' (by omega) hf⟩)
                            have C1 : Hid (decide ((fo : Int) ≠ (fq : Int)) = false) := Lib.hid (by rw [hfl]; simp)
                            have C2 : Hid (decide ((0 : Int) ≤ tho) = true) := Lib.hid (decide_eq_true hto)
                            clear hfl hto
                            refine wp_region_gg (n := 19) [Fg.eq (.bool true), Fg.eq (.bool true), Fg.eq (.pointer (some ⟨cp o, 0, none⟩)), Fg.eq (.pointer (some ⟨cp o, 0, none⟩)), Fg.eq (.pointer (some ⟨cp o, 0, none⟩)), Fg.eq (.int .i64 (fo : Int)), Fg.eq (.pointer (some ⟨cp q, 0, none⟩)), Fg.eq (.pointer (some ⟨cp q, 0, none⟩)), Fg.eq (.pointer (some ⟨cp q, 0, none⟩)), Fg.eq (.int .i64 (fq : Int)), Fg.eq (.bool false), Fg.eq (.bool false), Fg.eq (.pointer (some ⟨cp o, 0, none⟩)), Fg.eq (.pointer (some ⟨cp o, 0, none⟩)), Fg.eq (.pointer (some ⟨cp o, 3, none⟩)), Fg.eq (.int .i64 tho), Fg.eq (.bool true), Fg.eq (.bool true), Fg.eq (.bool true)] [122, 123, 124, 125, 126, 127, 128, 129, 130, 131, 132, 133, 134, 135, 136, 137, 138, 139, 140] (by kernel_rfl) (by kernel_rfl) (by kernel_rfl) ?_ ?_
                            · intro L i o' ac w1 hi ho hA
                              have hgr : Gr wo w1 := (Gr.refl wo).drew.trans hA.gr
                              match i, hi with
                              | 0, _ =>
                                obtain rfl := Option.some.inj ho
                                exact gg_plain rfl (gstep_val (q_move rfl (show ac.eval (.tmp 23) = .bool true from hA.other 23 (by decide))) rfl)
                              | 1, _ =>
                                obtain rfl := Option.some.inj ho
                                exact gg_plain rfl (gstep_val (q_move rfl (hA.fact 0 (hA.dep 0 (by kernel_rfl) (by decide)))) rfl)
                              | 2, _ =>
                                obtain rfl := Option.some.inj ho
                                exact gg_yes (b := true) rfl (hA.fact 1 (hA.dep 1 (by kernel_rfl) (by decide))) (gstep_val (q_move rfl (show ac.eval (.tmp 25) = .pointer (some ⟨cp o, 0, none⟩) from hA.other 25 (by decide))) rfl)
                              | 3, _ =>
                                obtain rfl := Option.some.inj ho
                                exact gg_yes (b := true) rfl (hA.fact 1 (hA.dep 1 (by kernel_rfl) (by decide))) (gstep_val (q_nil rfl (hA.fact 2 (hA.dep 2 (by kernel_rfl) (by decide)))) rfl)
                              | 4, _ =>
                                obtain rfl := Option.some.inj ho
                                exact gg_yes (b := true) rfl (hA.fact 1 (hA.dep 1 (by kernel_rfl) (by decide))) (gstep_val (rk_fa_millraceref_cell_0 rfl (hA.fact 3 (hA.dep 3 (by kernel_rfl) (by decide)))) rfl)
                              | 5, _ =>
                                obtain rfl := Option.some.inj ho
                                exact gg_yes (b := true) rfl (hA.fact 1 (hA.dep 1 (by kernel_rfl) (by decide))) (gstep_val (q_loadI rfl (hA.fact 4 (hA.dep 4 (by kernel_rfl) (by decide))) (hgr.cell E0.out)) rfl)
                              | 6, _ =>
                                obtain rfl := Option.some.inj ho
                                exact gg_yes (b := true) rfl (hA.fact 1 (hA.dep 1 (by kernel_rfl) (by decide))) (gstep_val (q_move rfl (show ac.eval (.tmp 22) = .pointer (some ⟨cp q, 0, none⟩) from hA.other 22 (by decide))) rfl)
                              | 7, _ =>
                                obtain rfl := Option.some.inj ho
                                exact gg_yes (b := true) rfl (hA.fact 1 (hA.dep 1 (by kernel_rfl) (by decide))) (gstep_val (q_nil rfl (hA.fact 6 (hA.dep 6 (by kernel_rfl) (by decide)))) rfl)
                              | 8, _ =>
                                obtain rfl := Option.some.inj ho
                                exact gg_yes (b := true) rfl (hA.fact 1 (hA.dep 1 (by kernel_rfl) (by decide))) (gstep_val (rk_fa_millraceref_cell_0 rfl (hA.fact 7 (hA.dep 7 (by kernel_rfl) (by decide)))) rfl)
                              | 9, _ =>
                                obtain rfl := Option.some.inj ho
                                exact gg_yes (b := true) rfl (hA.fact 1 (hA.dep 1 (by kernel_rfl) (by decide))) (gstep_val (q_loadI rfl (hA.fact 8 (hA.dep 8 (by kernel_rfl) (by decide))) (hgr.cell E1.out)) rfl)
                              | 10, _ =>
                                obtain rfl := Option.some.inj ho
                                exact gg_yes (b := true) rfl (hA.fact 1 (hA.dep 1 (by kernel_rfl) (by decide))) (gstep_val (rk_neq rfl (hA.fact 5 (hA.dep 5 (by kernel_rfl) (by decide))) (hA.fact 9 (hA.dep 9 (by kernel_rfl) (by decide))) (C1.out)) rfl)
                              | 11, _ =>
                                obtain rfl := Option.some.inj ho
                                exact gg_yes (b := true) rfl (hA.fact 1 (hA.dep 1 (by kernel_rfl) (by decide))) (gstep_val (q_move rfl (hA.fact 10 (hA.dep 10 (by kernel_rfl) (by decide)))) rfl)
                              | 12, _ =>
                                obtain rfl := Option.some.inj ho
                                exact gg_yes (b := false) rfl (hA.fact 11 (hA.dep 11 (by kernel_rfl) (by decide))) (gstep_val (q_move rfl (show ac.eval (.tmp 25) = .pointer (some ⟨cp o, 0, none⟩) from hA.other 25 (by decide))) rfl)
                              | 13, _ =>
                                obtain rfl := Option.some.inj ho
                                exact gg_yes (b := false) rfl (hA.fact 11 (hA.dep 11 (by kernel_rfl) (by decide))) (gstep_val (q_nil rfl (hA.fact 12 (hA.dep 12 (by kernel_rfl) (by decide)))) rfl)
                              | 14, _ =>
                                obtain rfl := Option.some.inj ho
                                exact gg_yes (b := false) rfl (hA.fact 11 (hA.dep 11 (by kernel_rfl) (by decide))) (gstep_val (rk_fa_millraceref_cell_3 rfl (hA.fact 13 (hA.dep 13 (by kernel_rfl) (by decide)))) rfl)
                              | 15, _ =>
                                obtain rfl := Option.some.inj ho
                                exact gg_yes (b := false) rfl (hA.fact 11 (hA.dep 11 (by kernel_rfl) (by decide))) (gstep_val (q_loadI rfl (hA.fact 14 (hA.dep 14 (by kernel_rfl) (by decide))) (hgr.cell E3.out)) rfl)
                              | 16, _ =>
                                obtain rfl := Option.some.inj ho
                                exact gg_yes (b := false) rfl (hA.fact 11 (hA.dep 11 (by kernel_rfl) (by decide))) (gstep_val (rk_geq rfl (hA.fact 15 (hA.dep 15 (by kernel_rfl) (by decide))) rfl (C2.out)) rfl)
                              | 17, _ =>
                                obtain rfl := Option.some.inj ho
                                exact gg_yes (b := true) rfl (hA.fact 1 (hA.dep 1 (by kernel_rfl) (by decide))) (gstep_val (rk_pickF rfl (hA.fact 11 (hA.dep 11 (by kernel_rfl) (by decide))) (hA.fact 16 (hA.dep 16 (by kernel_rfl) (by decide)))) rfl)
                              | 18, _ =>
                                obtain rfl := Option.some.inj ho
                                exact gg_plain rfl (gstep_val (rk_pickT rfl (hA.fact 1 (hA.dep 1 (by kernel_rfl) (by decide))) (hA.fact 17 (hA.dep 17 (by kernel_rfl) (by decide)))) rfl)
                              | k + 19, hk => exact absurd (show k + 19 < 19 from hk) (by omega)
                            · intro vs w5 hg5 hv
                              have HGX := Lib.hid ((Gr.refl wo).drew.trans hg5)
                              have v140 : vs 18 = .bool true := hv 18 (by omega)
                              clear hv hg5
                              simp only [putN, List.drop_succ_cons, List.drop_zero, List.getElem?_cons_succ, List.getElem?_cons_zero]
                              generalize vs 18 = z140 at *
                              subst v140
                              generalize vs 0 = z122 at *
                              generalize vs 1 = z123 at *
                              generalize vs 2 = z124 at *
                              generalize vs 3 = z125 at *
                              generalize vs 4 = z126 at *
                              generalize vs 5 = z127 at *
                              generalize vs 6 = z128 at *
                              generalize vs 7 = z129 at *
                              generalize vs 8 = z130 at *
                              generalize vs 9 = z131 at *
                              generalize vs 10 = z132 at *
                              generalize vs 11 = z133 at *
                              generalize vs 12 = z134 at *
                              generalize vs 13 = z135 at *
                              generalize vs 14 = z136 at *
                              generalize vs 15 = z137 at *
                              generalize vs 16 = z138 at *
                              generalize vs 17 = z139 at *
                              go_wp2
                              go_roundw
                              case measure => simp [intOf]; omega
                              case rel => exact ⟨o + 1, true, HOQ.out, by go_num, rfl, HFN, HGQ.out.trans HGX.out⟩
                          · have HFN : Hid (FT false ((aq ≤ t ∧ tq < 0) ∧ ∀ o', o' < o + 1 → (L.getD o' .zero).fl = fq → 0 ≤ thr o')) := Lib.hid (FT.false (fun h => absurd (h.2 o (by omega) (by rw [← HFOO.out]; exact hfl)) (by rw [← HTOO.out]; exact hto)))
                            have C1 : Hid (decide ((fo : Int) ≠ (fq : Int)) = false) := Lib.hid (by rw [hfl]; simp)
                            have C2 : Hid (decide ((0 : Int) ≤ tho) = false) := Lib.hid (decide_eq_false hto)
                            clear hfl hto
                            refine wp_region_gg (n := 19) [Fg.eq (.bool true), Fg.eq (.bool true), Fg.eq (.pointer (some ⟨cp o, 0, none⟩)), Fg.eq (.pointer (some ⟨cp o, 0, none⟩)), Fg.eq (.pointer (some ⟨cp o, 0, none⟩)), Fg.eq (.int .i64 (fo : Int)), Fg.eq (.pointer (some ⟨cp q, 0, none⟩)), Fg.eq (.pointer (some ⟨cp q, 0, none⟩)), Fg.eq (.pointer (some ⟨cp q, 0, none⟩)), Fg.eq (.int .i64 (fq : Int)), Fg.eq (.bool false), Fg.eq (.bool false), Fg.eq (.pointer (some ⟨cp o, 0, none⟩)), Fg.eq (.pointer (some ⟨cp o, 0, none⟩)), Fg.eq (.pointer (some ⟨cp o, 3, none⟩)), Fg.eq (.int .i64 tho), Fg.eq (.bool false), Fg.eq (.bool false), Fg.eq (.bool false)] [122, 123, 124, 125, 126, 127, 128, 129, 130, 131, 132, 133, 134, 135, 136, 137, 138, 139, 140] (by kernel_rfl) (by kernel_rfl) (by kernel_rfl) ?_ ?_
                            · intro L i o' ac w1 hi ho hA
                              have hgr : Gr wo w1 := (Gr.refl wo).drew.trans hA.gr
                              match i, hi with
                              | 0, _ =>
                                obtain rfl := Option.some.inj ho
                                exact gg_plain rfl (gstep_val (q_move rfl (show ac.eval (.tmp 23) = .bool true from hA.other 23 (by decide))) rfl)
                              | 1, _ =>
                                obtain rfl := Option.some.inj ho
                                exact gg_plain rfl (gstep_val (q_move rfl (hA.fact 0 (hA.dep 0 (by kernel_rfl) (by decide)))) rfl)
                              | 2, _ =>
                                obtain rfl := Option.some.inj ho
                                exact gg_yes (b := true) rfl (hA.fact 1 (hA.dep 1 (by kernel_rfl) (by decide))) (gstep_val (q_move rfl (show ac.eval (.tmp 25) = .pointer (some ⟨cp o, 0, none⟩) from hA.other 25 (by decide))) rfl)
                              | 3, _ =>
                                obtain rfl := Option.some.inj ho
                                exact gg_yes (b := true) rfl (hA.fact 1 (hA.dep 1 (by kernel_rfl) (by decide))) (gstep_val (q_nil rfl (hA.fact 2 (hA.dep 2 (by kernel_rfl) (by decide)))) rfl)
                              | 4, _ =>
                                obtain rfl := Option.some.inj ho
                                exact gg_yes (b := true) rfl (hA.fact 1 (hA.dep 1 (by kernel_rfl) (by decide))) (gstep_val (rk_fa_millraceref_cell_0 rfl (hA.fact 3 (hA.dep 3 (by kernel_rfl) (by decide)))) rfl)
                              | 5, _ =>
                                obtain rfl := Option.some.inj ho
                                exact gg_yes (b := true) rfl (hA.fact 1 (hA.dep 1 (by kernel_rfl) (by decide))) (gstep_val (q_loadI rfl (hA.fact 4 (hA.dep 4 (by kernel_rfl) (by decide))) (hgr.cell E0.out)) rfl)
                              | 6, _ =>
                                obtain rfl := Option.some.inj ho
                                exact gg_yes (b := true) rfl (hA.fact 1 (hA.dep 1 (by kernel_rfl) (by decide))) (gstep_val (q_move rfl (show ac.eval (.tmp 22) = .pointer (some ⟨cp q, 0, none⟩) from hA.other 22 (by decide))) rfl)
                              | 7, _ =>
                                obtain rfl := Option.some.inj ho
                                exact gg_yes (b := true) rfl (hA.fact 1 (hA.dep 1 (by kernel_rfl) (by decide))) (gstep_val (q_nil rfl (hA.fact 6 (hA.dep 6 (by kernel_rfl) (by decide)))) rfl)
                              | 8, _ =>
                                obtain rfl := Option.some.inj ho
                                exact gg_yes (b := true) rfl (hA.fact 1 (hA.dep 1 (by kernel_rfl) (by decide))) (gstep_val (rk_fa_millraceref_cell_0 rfl (hA.fact 7 (hA.dep 7 (by kernel_rfl) (by decide)))) rfl)
                              | 9, _ =>
                                obtain rfl := Option.some.inj ho
                                exact gg_yes (b := true) rfl (hA.fact 1 (hA.dep 1 (by kernel_rfl) (by decide))) (gstep_val (q_loadI rfl (hA.fact 8 (hA.dep 8 (by kernel_rfl) (by decide))) (hgr.cell E1.out)) rfl)
                              | 10, _ =>
                                obtain rfl := Option.some.inj ho
                                exact gg_yes (b := true) rfl (hA.fact 1 (hA.dep 1 (by kernel_rfl) (by decide))) (gstep_val (rk_neq rfl (hA.fact 5 (hA.dep 5 (by kernel_rfl) (by decide))) (hA.fact 9 (hA.dep 9 (by kernel_rfl) (by decide))) (C1.out)) rfl)
                              | 11, _ =>
                                obtain rfl := Option.some.inj ho
                                exact gg_yes (b := true) rfl (hA.fact 1 (hA.dep 1 (by kernel_rfl) (by decide))) (gstep_val (q_move rfl (hA.fact 10 (hA.dep 10 (by kernel_rfl) (by decide)))) rfl)
                              | 12, _ =>
                                obtain rfl := Option.some.inj ho
                                exact gg_yes (b := false) rfl (hA.fact 11 (hA.dep 11 (by kernel_rfl) (by decide))) (gstep_val (q_move rfl (show ac.eval (.tmp 25) = .pointer (some ⟨cp o, 0, none⟩) from hA.other 25 (by decide))) rfl)
                              | 13, _ =>
                                obtain rfl := Option.some.inj ho
                                exact gg_yes (b := false) rfl (hA.fact 11 (hA.dep 11 (by kernel_rfl) (by decide))) (gstep_val (q_nil rfl (hA.fact 12 (hA.dep 12 (by kernel_rfl) (by decide)))) rfl)
                              | 14, _ =>
                                obtain rfl := Option.some.inj ho
                                exact gg_yes (b := false) rfl (hA.fact 11 (hA.dep 11 (by kernel_rfl) (by decide))) (gstep_val (rk_fa_millraceref_cell_3 rfl (hA.fact 13 (hA.dep 13 (by kernel_rfl) (by decide)))) rfl)
                              | 15, _ =>
                                obtain rfl := Option.some.inj ho
                                exact gg_yes (b := false) rfl (hA.fact 11 (hA.dep 11 (by kernel_rfl) (by decide))) (gstep_val (q_loadI rfl (hA.fact 14 (hA.dep 14 (by kernel_rfl) (by decide))) (hgr.cell E3.out)) rfl)
                              | 16, _ =>
                                obtain rfl := Option.some.inj ho
                                exact gg_yes (b := false) rfl (hA.fact 11 (hA.dep 11 (by kernel_rfl) (by decide))) (gstep_val (rk_geq rfl (hA.fact 15 (hA.dep 15 (by kernel_rfl) (by decide))) rfl (C2.out)) rfl)
                              | 17, _ =>
                                obtain rfl := Option.some.inj ho
                                exact gg_yes (b := true) rfl (hA.fact 1 (hA.dep 1 (by kernel_rfl) (by decide))) (gstep_val (rk_pickF rfl (hA.fact 11 (hA.dep 11 (by kernel_rfl) (by decide))) (hA.fact 16 (hA.dep 16 (by kernel_rfl) (by decide)))) rfl)
                              | 18, _ =>
                                obtain rfl := Option.some.inj ho
                                exact gg_plain rfl (gstep_val (rk_pickT rfl (hA.fact 1 (hA.dep 1 (by kernel_rfl) (by decide))) (hA.fact 17 (hA.dep 17 (by kernel_rfl) (by decide)))) rfl)
                              | k + 19, hk => exact absurd (show k + 19 < 19 from hk) (by omega)
                            · intro vs w5 hg5 hv
                              have HGX := Lib.hid ((Gr.refl wo).drew.trans hg5)
                              have v140 : vs 18 = .bool false := hv 18 (by omega)
                              clear hv hg5
                              simp only [putN, List.drop_succ_cons, List.drop_zero, List.getElem?_cons_succ, List.getElem?_cons_zero]
                              generalize vs 18 = z140 at *
                              subst v140
                              generalize vs 0 = z122 at *
                              generalize vs 1 = z123 at *
                              generalize vs 2 = z124 at *
                              generalize vs 3 = z125 at *
                              generalize vs 4 = z126 at *
                              generalize vs 5 = z127 at *
                              generalize vs 6 = z128 at *
                              generalize vs 7 = z129 at *
                              generalize vs 8 = z130 at *
                              generalize vs 9 = z131 at *
                              generalize vs 10 = z132 at *
                              generalize vs 11 = z133 at *
                              generalize vs 12 = z134 at *
                              generalize vs 13 = z135 at *
                              generalize vs 14 = z136 at *
                              generalize vs 15 = z137 at *
                              generalize vs 16 = z138 at *
                              generalize vs 17 = z139 at *
                              go_wp2
                              go_roundw
                              case measure => simp [intOf]; omega
                              case rel => exact ⟨o + 1, false, HOQ.out, by go_num, rfl, HFN, HGQ.out.trans HGX.out⟩
                        · have HFN : Hid (FT true ((aq ≤ t ∧ tq < 0) ∧ ∀ o', o' < o + 1 → (L.getD o' .zero).fl = fq → 0 ≤ thr o')) := Lib.hid (FT.true ⟨HFO.out.yes.1, fun o' ho' hf => by
                            by_cases e : o' = o
                            · subst e; exact absurd (HFOO.out.trans hf) hfl
                            · exact HFO.out.yes.2 o' (by omega) hf⟩)
                          have C1 : Hid (decide ((fo : Int) ≠ (fq : Int)) = true) := Lib.hid (decide_eq_true (by omega))
                          clear hfl
                          refine wp_region_gg (n := 19) [Fg.eq (.bool true), Fg.eq (.bool true), Fg.eq (.pointer (some ⟨cp o, 0, none⟩)), Fg.eq (.pointer (some ⟨cp o, 0, none⟩)), Fg.eq (.pointer (some ⟨cp o, 0, none⟩)), Fg.eq (.int .i64 (fo : Int)), Fg.eq (.pointer (some ⟨cp q, 0, none⟩)), Fg.eq (.pointer (some ⟨cp q, 0, none⟩)), Fg.eq (.pointer (some ⟨cp q, 0, none⟩)), Fg.eq (.int .i64 (fq : Int)), Fg.eq (.bool true), Fg.eq (.bool true), Fg.eq undef, Fg.eq undef, Fg.eq undef, Fg.eq undef, Fg.eq undef, Fg.eq (.bool true), Fg.eq (.bool true)] [122, 123, 124, 125, 126, 127, 128, 129, 130, 131, 132, 133, 134, 135, 136, 137, 138, 139, 140] (by kernel_rfl) (by kernel_rfl) (by kernel_rfl) ?_ ?_
                          · intro L i o' ac w1 hi ho hA
                            have hgr : Gr wo w1 := (Gr.refl wo).drew.trans hA.gr
                            match i, hi with
                            | 0, _ =>
                              obtain rfl := Option.some.inj ho
                              exact gg_plain rfl (gstep_val (q_move rfl (show ac.eval (.tmp 23) = .bool true from hA.other 23 (by decide))) rfl)
                            | 1, _ =>
                              obtain rfl := Option.some.inj ho
                              exact gg_plain rfl (gstep_val (q_move rfl (hA.fact 0 (hA.dep 0 (by kernel_rfl) (by decide)))) rfl)
                            | 2, _ =>
                              obtain rfl := Option.some.inj ho
                              exact gg_yes (b := true) rfl (hA.fact 1 (hA.dep 1 (by kernel_rfl) (by decide))) (gstep_val (q_move rfl (show ac.eval (.tmp 25) = .pointer (some ⟨cp o, 0, none⟩) from hA.other 25 (by decide))) rfl)
                            | 3, _ =>
                              obtain rfl := Option.some.inj ho
                              exact gg_yes (b := true) rfl (hA.fact 1 (hA.dep 1 (by kernel_rfl) (by decide))) (gstep_val (q_nil rfl (hA.fact 2 (hA.dep 2 (by kernel_rfl) (by decide)))) rfl)
                            | 4, _ =>
                              obtain rfl := Option.some.inj ho
                              exact gg_yes (b := true) rfl (hA.fact 1 (hA.dep 1 (by kernel_rfl) (by decide))) (gstep_val (rk_fa_millraceref_cell_0 rfl (hA.fact 3 (hA.dep 3 (by kernel_rfl) (by decide)))) rfl)
                            | 5, _ =>
                              obtain rfl := Option.some.inj ho
                              exact gg_yes (b := true) rfl (hA.fact 1 (hA.dep 1 (by kernel_rfl) (by decide))) (gstep_val (q_loadI rfl (hA.fact 4 (hA.dep 4 (by kernel_rfl) (by decide))) (hgr.cell E0.out)) rfl)
                            | 6, _ =>
                              obtain rfl := Option.some.inj ho
                              exact gg_yes (b := true) rfl (hA.fact 1 (hA.dep 1 (by kernel_rfl) (by decide))) (gstep_val (q_move rfl (show ac.eval (.tmp 22) = .pointer (some ⟨cp q, 0, none⟩) from hA.other 22 (by decide))) rfl)
                            | 7, _ =>
                              obtain rfl := Option.some.inj ho
                              exact gg_yes (b := true) rfl (hA.fact 1 (hA.dep 1 (by kernel_rfl) (by decide))) (gstep_val (q_nil rfl (hA.fact 6 (hA.dep 6 (by kernel_rfl) (by decide)))) rfl)
                            | 8, _ =>
                              obtain rfl := Option.some.inj ho
                              exact gg_yes (b := true) rfl (hA.fact 1 (hA.dep 1 (by kernel_rfl) (by decide))) (gstep_val (rk_fa_millraceref_cell_0 rfl (hA.fact 7 (hA.dep 7 (by kernel_rfl) (by decide)))) rfl)
                            | 9, _ =>
                              obtain rfl := Option.some.inj ho
                              exact gg_yes (b := true) rfl (hA.fact 1 (hA.dep 1 (by kernel_rfl) (by decide))) (gstep_val (q_loadI rfl (hA.fact 8 (hA.dep 8 (by kernel_rfl) (by decide))) (hgr.cell E1.out)) rfl)
                            | 10, _ =>
                              obtain rfl := Option.some.inj ho
                              exact gg_yes (b := true) rfl (hA.fact 1 (hA.dep 1 (by kernel_rfl) (by decide))) (gstep_val (rk_neq rfl (hA.fact 5 (hA.dep 5 (by kernel_rfl) (by decide))) (hA.fact 9 (hA.dep 9 (by kernel_rfl) (by decide))) (C1.out)) rfl)
                            | 11, _ =>
                              obtain rfl := Option.some.inj ho
                              exact gg_yes (b := true) rfl (hA.fact 1 (hA.dep 1 (by kernel_rfl) (by decide))) (gstep_val (q_move rfl (hA.fact 10 (hA.dep 10 (by kernel_rfl) (by decide)))) rfl)
                            | 12, _ =>
                              obtain rfl := Option.some.inj ho
                              exact gg_no (b := false) rfl (hA.fact 11 (hA.dep 11 (by kernel_rfl) (by decide))) rfl
                            | 13, _ =>
                              obtain rfl := Option.some.inj ho
                              exact gg_no (b := false) rfl (hA.fact 11 (hA.dep 11 (by kernel_rfl) (by decide))) rfl
                            | 14, _ =>
                              obtain rfl := Option.some.inj ho
                              exact gg_no (b := false) rfl (hA.fact 11 (hA.dep 11 (by kernel_rfl) (by decide))) rfl
                            | 15, _ =>
                              obtain rfl := Option.some.inj ho
                              exact gg_no (b := false) rfl (hA.fact 11 (hA.dep 11 (by kernel_rfl) (by decide))) rfl
                            | 16, _ =>
                              obtain rfl := Option.some.inj ho
                              exact gg_no (b := false) rfl (hA.fact 11 (hA.dep 11 (by kernel_rfl) (by decide))) rfl
                            | 17, _ =>
                              obtain rfl := Option.some.inj ho
                              exact gg_yes (b := true) rfl (hA.fact 1 (hA.dep 1 (by kernel_rfl) (by decide))) (gstep_val (rk_pickT rfl (hA.fact 11 (hA.dep 11 (by kernel_rfl) (by decide))) rfl) rfl)
                            | 18, _ =>
                              obtain rfl := Option.some.inj ho
                              exact gg_plain rfl (gstep_val (rk_pickT rfl (hA.fact 1 (hA.dep 1 (by kernel_rfl) (by decide))) (hA.fact 17 (hA.dep 17 (by kernel_rfl) (by decide)))) rfl)
                            | k + 19, hk => exact absurd (show k + 19 < 19 from hk) (by omega)
                          · intro vs w5 hg5 hv
                            have HGX := Lib.hid ((Gr.refl wo).drew.trans hg5)
                            have v140 : vs 18 = .bool true := hv 18 (by omega)
                            clear hv hg5
                            simp only [putN, List.drop_succ_cons, List.drop_zero, List.getElem?_cons_succ, List.getElem?_cons_zero]
                            generalize vs 18 = z140 at *
                            subst v140
                            generalize vs 0 = z122 at *
                            generalize vs 1 = z123 at *
                            generalize vs 2 = z124 at *
                            generalize vs 3 = z125 at *
                            generalize vs 4 = z126 at *
                            generalize vs 5 = z127 at *
                            generalize vs 6 = z128 at *
                            generalize vs 7 = z129 at *
                            generalize vs 8 = z130 at *
                            generalize vs 9 = z131 at *
                            generalize vs 10 = z132 at *
                            generalize vs 11 = z133 at *
                            generalize vs 12 = z134 at *
                            generalize vs 13 = z135 at *
                            generalize vs 14 = z136 at *
                            generalize vs 15 = z137 at *
                            generalize vs 16 = z138 at *
                            generalize vs 17 = z139 at *
                            go_wp2
                            go_roundw
                            case measure => simp [intOf]; omega
                            case rel => exact ⟨o + 1, true, HOQ.out, by go_num, rfl, HFN, HGQ.out.trans HGX.out⟩
              · have a1 : ¬ (aq : Int) ≤ (t : Int) := by omega
                have HF0 : Hid (FT false (aq ≤ t ∧ tq < 0)) := Lib.hid (FT.false (by omega))
                go_wp2
                clear c0 d0 d1 d3
                go_loopw [23, 115] (fun fv s wr => ∃ (o : Nat) (f : Bool), o ≤ q ∧ s = .int .i64 (o : Int) ∧ fv = .bool f ∧ Hid (FT f ((aq ≤ t ∧ tq < 0) ∧ ∀ o', o' < o → (L.getD o' .zero).fl = fq → 0 ≤ thr o')) ∧ Hid (Gr wq wr)) (fun _ s _ => NN - (intOf s).toNat)
                case atStart => exact ⟨0, false, Nat.zero_le _, rfl, rfl, Lib.hid (FT.mk (fun h => ⟨HF0.out.1 h, fun o' ho' => absurd ho' (by omega)⟩) (fun h => HF0.out.2 h.1)), Gr.refl _⟩
                case round =>
                  obtain ⟨o, f, ho, rfl, rfl, HFO, HGQ⟩ := hrel
                  obtain ⟨wo, hwo⟩ : ∃ u, u = wr := ⟨_, rfl⟩
                  subst hwo
                  have o0 : (0 : Int) ≤ (o : Int) := by omega
                  have o1 : (o : Int) < (NN : Int) := by omega
                  have HON : Hid (o < NN) := Lib.hid (by omega)
                  have c0 := HGQ.out.cell (HPT.out o HON.out)
                  have HCO2 := Lib.hid (HCQ.out.gr HGQ.out)
                  by_cases hoq : o = q
                  · subst hoq
                    have HFC : Hid (FT f (firstC L thr t o)) := Lib.hid (by
                      have h := HFO.out
                      unfold firstC
                      rw [← HCQQ.out, ← HAQ.out, ← HTQ.out, ← HFQ.out]
                      exact h)
                    have HEQ := Lib.hid (eqP_same wo (cp o))
                    go_upto_region 40 with (refine wpList_eqP (by rfl) _ _ (by rfl) _ _ (by rfl) (by rfl) _ HEQ.out ?_)
                    clear c0
                    have HGA : Hid (Gr wt wo) := Lib.hid (HGT.out.trans HGQ.out)
                    cases f with
                    | false =>
                      have HNX : Hid (bp = PV cp (rpick L T thr t (o + 1))) := Lib.hid (by rw [rpick_no HFC.out.no]; exact HBP.out)
                      go_wp2
                      go_roundw
                      case measure => simp [intOf]; omega
                      case rel => exact ⟨o + 1, bp, by have := HQL.out; omega, by go_num, rfl, HNX, HGA⟩
                    | true =>
                      by_cases hbn : rpick L T thr t o < 0
                      · obtain rfl : bp = none := HBP.out.trans (PV_none hbn)
                        have HNX : Hid (some ⟨cp o, 0, none⟩ = PV cp (rpick L T thr t (o + 1))) := Lib.hid (by rw [rpick_take HFC.out.yes (.inl hbn), PV_at])
                        clear hbn
                        go_wp2
                        go_roundw
                        case measure => simp [intOf]; omega
                        case rel => exact ⟨o + 1, some ⟨cp o, 0, none⟩, by have := HQL.out; omega, by go_num, rfl, HNX, HGA⟩
                      · obtain ⟨rb, hrb⟩ : ∃ rb : Nat, rpick L T thr t o = (rb : Int) := ⟨_, (Int.toNat_of_nonneg (by omega)).symm⟩
                        obtain rfl : bp = some ⟨cp rb, 0, none⟩ := by rw [HBP.out, hrb, PV_at]
                        have hrl : rb < L.length := by
                          have hl := HLQ.out
                          rcases rpick_spec L T thr t o with ⟨h1, _⟩ | ⟨q', h1, h2, _⟩
                          · omega
                          · omega
                        have HRB := Lib.hid hrb
                        obtain ⟨s1, hs1⟩ : ∃ s1, s1 = soon T (L.getD o .zero).due := ⟨_, rfl⟩
                        obtain ⟨s2, hs2⟩ : ∃ s2, s2 = soon T (L.getD rb .zero).due := ⟨_, rfl⟩
                        have HK1 := Lib.hid (key_any (cp o) T _ _ wo (HCO2.out.at_ o HLQ.out) (by have := HT200.out; omega))
                        have HK2 := Lib.hid (key_any (cp rb) T _ _ wo (HCO2.out.at_ rb hrl) (by have := HT200.out; omega))
                        rw [← hs1] at HK1
                        rw [← hs2] at HK2
                        have HS12 := Lib.hid (And.intro hs1 hs2)
                        clear hs1 hs2 hrl hrb hbn
                        by_cases h31 : s1 < s2
                        · have HNX : Hid (some ⟨cp o, 0, none⟩ = PV cp (rpick L T thr t (o + 1))) := Lib.hid (by rw [rpick_take HFC.out.yes (.inr (by rw [HRB.out, Int.toNat_natCast, ← HS12.out.1, ← HS12.out.2]; exact h31)), PV_at])
                          go_wp2_with (first | (go_at_call 14; have _ := tok1; refine HK2.out.mono ?_; rintro e w7 ⟨rfl, rfl⟩; clear tok1) | (go_at_call 14; refine HK1.out.mono ?_; rintro e w6 ⟨rfl, rfl⟩; have tok1 := trivial))
                          go_roundw
                          case measure => simp [intOf]; omega
                          case rel => exact ⟨o + 1, some ⟨cp o, 0, none⟩, by have := HQL.out; omega, by go_num, rfl, HNX, HGA⟩
                        · have HNX : Hid (some ⟨cp rb, 0, none⟩ = PV cp (rpick L T thr t (o + 1))) := Lib.hid (by rw [rpick_keep (by rw [HRB.out]; omega) (by rw [HRB.out, Int.toNat_natCast, ← HS12.out.1, ← HS12.out.2]; exact h31), HRB.out, PV_at])
                          go_wp2_with (first | (go_at_call 14; have _ := tok1; refine HK2.out.mono ?_; rintro e w7 ⟨rfl, rfl⟩; clear tok1) | (go_at_call 14; refine HK1.out.mono ?_; rintro e w6 ⟨rfl, rfl⟩; have tok1 := trivial))
                          go_roundw
                          case measure => simp [intOf]; omega
                          case rel => exact ⟨o + 1, some ⟨cp rb, 0, none⟩, by have := HQL.out; omega, by go_num, rfl, HNX, HGA⟩
                  · have hne : ¬ cp o = cp q := fun e => hoq (HC.out.inj o q (by rw [HLL.out.1]; exact HON.out) HLQ.out e)
                    have HOQ : Hid (o < q) := Lib.hid (by omega)
                    obtain ⟨fo, hfo⟩ : ∃ fo, fo = (L.getD o .zero).fl := ⟨_, rfl⟩
                    obtain ⟨tho, hto⟩ : ∃ tho, tho = thr o := ⟨_, rfl⟩
                    have E0 := Lib.hid (HCO2.out.at_ o (by rw [HLL.out.1]; exact HON.out)).c0
                    have E3 := Lib.hid (HCO2.out.at_ o (by rw [HLL.out.1]; exact HON.out)).c3
                    have E1 := Lib.hid (HCO2.out.at_ q HLQ.out).c0
                    rw [← hfo] at E0
                    rw [← hto] at E3
                    rw [← HCQQ.out, ← HFQ.out] at E1
                    have HFOO := Lib.hid hfo
                    have HTOO := Lib.hid hto
                    have HEQ := Lib.hid (eqP_other (HCO2.out.at_ o (by rw [HLL.out.1]; exact HON.out)).kd (HCO2.out.at_ q HLQ.out).kd hne)
                    clear hfo hto hoq hne
                    go_upto_region 38 with (refine wpList_eqP (by rfl) _ _ (by rfl) _ _ (by rfl) (by rfl) _ HEQ.out ?_)
                    clear c0
                    cases f with
                    | false =>
                      have HFN : Hid (FT false ((aq ≤ t ∧ tq < 0) ∧ ∀ o', o' < o + 1 → (L.getD o' .zero).fl = fq → 0 ≤ thr o')) := Lib.hid (FT.false (fun h => HFO.out.no ⟨h.1, fun o' ho' => h.2 o' (by omega)⟩))
                      refine wp_region_gg (n := 19) [Fg.eq (.bool false), Fg.eq (.bool false), Fg.eq undef, Fg.eq undef, Fg.eq undef, Fg.eq undef, Fg.eq undef, Fg.eq undef, Fg.eq undef, Fg.eq undef, Fg.eq undef, Fg.eq undef, Fg.eq undef, Fg.eq undef, Fg.eq undef, Fg.eq undef, Fg.eq undef, Fg.eq undef, Fg.eq (.bool false)] [122, 123, 124, 125, 126, 127, 128, 129, 130, 131, 132, 133, 134, 135, 136, 137, 138, 139, 140] (by kernel_rfl) (by kernel_rfl) (by kernel_rfl) ?_ ?_
                      · intro L i o' ac w1 hi ho hA
                        have hgr : Gr wo w1 := (Gr.refl wo).drew.trans hA.gr
                        match i, hi with
                        | 0, _ =>
                          obtain rfl := Option.some.inj ho
                          exact gg_plain rfl (gstep_val (q_move rfl (show ac.eval (.tmp 23) = .bool false from hA.other 23 (by decide))) rfl)
                        | 1, _ =>
                          obtain rfl := Option.some.inj ho
                          exact gg_plain rfl (gstep_val (q_move rfl (hA.fact 0 (hA.dep 0 (by kernel_rfl) (by decide)))) rfl)
                        | 2, _ =>
                          obtain rfl := Option.some.inj ho
                          exact gg_no (b := true) rfl (hA.fact 1 (hA.dep 1 (by kernel_rfl) (by decide))) rfl
                        | 3, _ =>
                          obtain rfl := Option.some.inj ho
                          exact gg_no (b := true) rfl (hA.fact 1 (hA.dep 1 (by kernel_rfl) (by decide))) rfl
                        | 4, _ =>
                          obtain rfl := Option.some.inj ho
                          exact gg_no (b := true) rfl (hA.fact 1 (hA.dep 1 (by kernel_rfl) (by decide))) rfl
                        | 5, _ =>
                          obtain rfl := Option.some.inj ho
                          exact gg_no (b := true) rfl (hA.fact 1 (hA.dep 1 (by kernel_rfl) (by decide))) rfl
                        | 6, _ =>
                          obtain rfl := Option.some.inj ho
                          exact gg_no (b := true) rfl (hA.fact 1 (hA.dep 1 (by kernel_rfl) (by decide))) rfl
                        | 7, _ =>
                          obtain rfl := Option.some.inj ho
                          exact gg_no (b := true) rfl (hA.fact 1 (hA.dep 1 (by kernel_rfl) (by decide))) rfl
                        | 8, _ =>
                          obtain rfl := Option.some.inj ho
                          exact gg_no (b := true) rfl (hA.fact 1 (hA.dep 1 (by kernel_rfl) (by decide))) rfl
                        | 9, _ =>
                          obtain rfl := Option.some.inj ho
                          exact gg_no (b := true) rfl (hA.fact 1 (hA.dep 1 (by kernel_rfl) (by decide))) rfl
                        | 10, _ =>
                          obtain rfl := Option.some.inj ho
                          exact gg_no (b := true) rfl (hA.fact 1 (hA.dep 1 (by kernel_rfl) (by decide))) rfl
                        | 11, _ =>
                          obtain rfl := Option.some.inj ho
                          exact gg_no (b := true) rfl (hA.fact 1 (hA.dep 1 (by kernel_rfl) (by decide))) rfl
                        | 12, _ =>
                          obtain rfl := Option.some.inj ho
                          exact gg_off (b := false) rfl (hA.fact 11 (hA.dep 11 (by kernel_rfl) (by decide))) rfl
                        | 13, _ =>
                          obtain rfl := Option.some.inj ho
                          exact gg_off (b := false) rfl (hA.fact 11 (hA.dep 11 (by kernel_rfl) (by decide))) rfl
                        | 14, _ =>
                          obtain rfl := Option.some.inj ho
                          exact gg_off (b := false) rfl (hA.fact 11 (hA.dep 11 (by kernel_rfl) (by decide))) rfl
                        | 15, _ =>
                          obtain rfl := Option.some.inj ho
                          exact gg_off (b := false) rfl (hA.fact 11 (hA.dep 11 (by kernel_rfl) (by decide))) rfl
                        | 16, _ =>
                          obtain rfl := Option.some.inj ho
                          exact gg_off (b := false) rfl (hA.fact 11 (hA.dep 11 (by kernel_rfl) (by decide))) rfl
                        | 17, _ =>
                          obtain rfl := Option.some.inj ho
                          exact gg_no (b := true) rfl (hA.fact 1 (hA.dep 1 (by kernel_rfl) (by decide))) rfl
                        | 18, _ =>
                          obtain rfl := Option.some.inj ho
                          exact gg_plain rfl (gstep_val (rk_pickF rfl (hA.fact 1 (hA.dep 1 (by kernel_rfl) (by decide))) rfl) rfl)
                        | k + 19, hk => exact absurd (show k + 19 < 19 from hk) (by omega)
                      · intro vs w5 hg5 hv
                        have HGX := Lib.hid ((Gr.refl wo).drew.trans hg5)
                        have v140 : vs 18 = .bool false := hv 18 (by omega)
                        clear hv hg5
                        simp only [putN, List.drop_succ_cons, List.drop_zero, List.getElem?_cons_succ, List.getElem?_cons_zero]
                        generalize vs 18 = z140 at *
                        subst v140
                        generalize vs 0 = z122 at *
                        generalize vs 1 = z123 at *
                        generalize vs 2 = z124 at *
                        generalize vs 3 = z125 at *
                        generalize vs 4 = z126 at *
                        generalize vs 5 = z127 at *
                        generalize vs 6 = z128 at *
                        generalize vs 7 = z129 at *
                        generalize vs 8 = z130 at *
                        generalize vs 9 = z131 at *
                        generalize vs 10 = z132 at *
                        generalize vs 11 = z133 at *
                        generalize vs 12 = z134 at *
                        generalize vs 13 = z135 at *
                        generalize vs 14 = z136 at *
                        generalize vs 15 = z137 at *
                        generalize vs 16 = z138 at *
                        generalize vs 17 = z139 at *
                        go_wp2
                        go_roundw
                        case measure => simp [intOf]; omega
                        case rel => exact ⟨o + 1, false, HOQ.out, by go_num, rfl, HFN, HGQ.out.trans HGX.out⟩
                    | true =>
                      by_cases hfl : fo = fq
                      · by_cases hto : 0 ≤ tho
                        · have HFN : Hid (FT true ((aq ≤ t ∧ tq < 0) ∧ ∀ o', o' < o + 1 → (L.getD o' .zero).fl = fq → 0 ≤ thr o')) := Lib.hid (FT.true ⟨HFO.out.yes.1, fun o' ho' hf => by
                            by_cases e : o' = o
                            · rw [e, ← HTOO.out]; exact hto
                            · exact HFO.out.yes.2 o' (by omega) hf⟩)
                          have C1 : Hid (decide ((fo : Int) ≠ (fq : Int)) = false) := Lib.hid (by rw [hfl]; simp)
                          have C2 : Hid (decide ((0 : Int) ≤ tho) = true) := Lib.hid (decide_eq_true hto)
                          clear hfl hto
                          refine wp_region_gg (n := 19) [Fg.eq (.bool true), Fg.eq (.bool true), Fg.eq (.pointer (some ⟨cp o, 0, none⟩)), Fg.eq (.pointer (some ⟨cp o, 0, none⟩)), Fg.eq (.pointer (some ⟨cp o, 0, none⟩)), Fg.eq (.int .i64 (fo : Int)), Fg.eq (.pointer (some ⟨cp q, 0, none⟩)), Fg.eq (.pointer (some ⟨cp q, 0, none⟩)), Fg.eq (.pointer (some ⟨cp q, 0, none⟩)), Fg.eq (.int .i64 (fq : Int)), Fg.eq (.bool false), Fg.eq (.bool false), Fg.eq (.pointer (some ⟨cp o, 0, none⟩)), Fg.eq (.pointer (some ⟨cp o, 0, none⟩)), Fg.eq (.pointer (some ⟨cp o, 3, none⟩)), Fg.eq (.int .i64 tho), Fg.eq (.bool true), Fg.eq (.bool true), Fg.eq (.bool true)] [122, 123, 124, 125, 126, 127, 128, 129, 130, 131, 132, 133, 134, 135, 136, 137, 138, 139, 140] (by kernel_rfl) (by kernel_rfl) (by kernel_rfl) ?_ ?_
                          · intro L i o' ac w1 hi ho hA
                            have hgr : Gr wo w1 := (Gr.refl wo).drew.trans hA.gr
                            match i, hi with
                            | 0, _ =>
                              obtain rfl := Option.some.inj ho
                              exact gg_plain rfl (gstep_val (q_move rfl (show ac.eval (.tmp 23) = .bool true from hA.other 23 (by decide))) rfl)
                            | 1, _ =>
                              obtain rfl := Option.some.inj ho
                              exact gg_plain rfl (gstep_val (q_move rfl (hA.fact 0 (hA.dep 0 (by kernel_rfl) (by decide)))) rfl)
                            | 2, _ =>
                              obtain rfl := Option.some.inj ho
                              exact gg_yes (b := true) rfl (hA.fact 1 (hA.dep 1 (by kernel_rfl) (by decide))) (gstep_val (q_move rfl (show ac.eval (.tmp 25) = .pointer (some ⟨cp o, 0, none⟩) from hA.other 25 (by decide))) rfl)
                            | 3, _ =>
                              obtain rfl := Option.some.inj ho
                              exact gg_yes (b := true) rfl (hA.fact 1 (hA.dep 1 (by kernel_rfl) (by decide))) (gstep_val (q_nil rfl (hA.fact 2 (hA.dep 2 (by kernel_rfl) (by decide)))) rfl)
                            | 4, _ =>
                              obtain rfl := Option.some.inj ho
                              exact gg_yes (b := true) rfl (hA.fact 1 (hA.dep 1 (by kernel_rfl) (by decide))) (gstep_val (rk_fa_millraceref_cell_0 rfl (hA.fact 3 (hA.dep 3 (by kernel_rfl) (by decide)))) rfl)
                            | 5, _ =>
                              obtain rfl := Option.some.inj ho
                              exact gg_yes (b := true) rfl (hA.fact 1 (hA.dep 1 (by kernel_rfl) (by decide))) (gstep_val (q_loadI rfl (hA.fact 4 (hA.dep 4 (by kernel_rfl) (by decide))) (hgr.cell E0.out)) rfl)
                            | 6, _ =>
                              obtain rfl := Option.some.inj ho
                              exact gg_yes (b := true) rfl (hA.fact 1 (hA.dep 1 (by kernel_rfl) (by decide))) (gstep_val (q_move rfl (show ac.eval (.tmp 22) = .pointer (some ⟨cp q, 0, none⟩) from hA.other 22 (by decide))) rfl)
                            | 7, _ =>
                              obtain rfl := Option.some.inj ho
                              exact gg_yes (b := true) rfl (hA.fact 1 (hA.dep 1 (by kernel_rfl) (by decide))) (gstep_val (q_nil rfl (hA.fact 6 (hA.dep 6 (by kernel_rfl) (by decide)))) rfl)
                            | 8, _ =>
                              obtain rfl := Option.some.inj ho
                              exact gg_yes (b := true) rfl (hA.fact 1 (hA.dep 1 (by kernel_rfl) (by decide))) (gstep_val (rk_fa_millraceref_cell_0 rfl (hA.fact 7 (hA.dep 7 (by kernel_rfl) (by decide)))) rfl)
                            | 9, _ =>
                              obtain rfl := Option.some.inj ho
                              exact gg_yes (b := true) rfl (hA.fact 1 (hA.dep 1 (by kernel_rfl) (by decide))) (gstep_val (q_loadI rfl (hA.fact 8 (hA.dep 8 (by kernel_rfl) (by decide))) (hgr.cell E1.out)) rfl)
                            | 10, _ =>
                              obtain rfl := Option.some.inj ho
                              exact gg_yes (b := true) rfl (hA.fact 1 (hA.dep 1 (by kernel_rfl) (by decide))) (gstep_val (rk_neq rfl (hA.fact 5 (hA.dep 5 (by kernel_rfl) (by decide))) (hA.fact 9 (hA.dep 9 (by kernel_rfl) (by decide))) (C1.out)) rfl)
                            | 11, _ =>
                              obtain rfl := Option.some.inj ho
                              exact gg_yes (b := true) rfl (hA.fact 1 (hA.dep 1 (by kernel_rfl) (by decide))) (gstep_val (q_move rfl (hA.fact 10 (hA.dep 10 (by kernel_rfl) (by decide)))) rfl)
                            | 12, _ =>
                              obtain rfl := Option.some.inj ho
                              exact gg_yes (b := false) rfl (hA.fact 11 (hA.dep 11 (by kernel_rfl) (by decide))) (gstep_val (q_move rfl (show ac.eval (.tmp 25) = .pointer (some ⟨cp o, 0, none⟩) from hA.other 25 (by decide))) rfl)
                            | 13, _ =>
                              obtain rfl := Option.some.inj ho
                              exact gg_yes (b := false) rfl (hA.fact 11 (hA.dep 11 (by kernel_rfl) (by decide))) (gstep_val (q_nil rfl (hA.fact 12 (hA.dep 12 (by kernel_rfl) (by decide)))) rfl)
                            | 14, _ =>
                              obtain rfl := Option.some.inj ho
                              exact gg_yes (b := false) rfl (hA.fact 11 (hA.dep 11 (by kernel_rfl) (by decide))) (gstep_val (rk_fa_millraceref_cell_3 rfl (hA.fact 13 (hA.dep 13 (by kernel_rfl) (by decide)))) rfl)
                            | 15, _ =>
                              obtain rfl := Option.some.inj ho
                              exact gg_yes (b := false) rfl (hA.fact 11 (hA.dep 11 (by kernel_rfl) (by decide))) (gstep_val (q_loadI rfl (hA.fact 14 (hA.dep 14 (by kernel_rfl) (by decide))) (hgr.cell E3.out)) rfl)
                            | 16, _ =>
                              obtain rfl := Option.some.inj ho
                              exact gg_yes (b := false) rfl (hA.fact 11 (hA.dep 11 (by kernel_rfl) (by decide))) (gstep_val (rk_geq rfl (hA.fact 15 (hA.dep 15 (by kernel_rfl) (by decide))) rfl (C2.out)) rfl)
                            | 17, _ =>
                              obtain rfl := Option.some.inj ho
                              exact gg_yes (b := true) rfl (hA.fact 1 (hA.dep 1 (by kernel_rfl) (by decide))) (gstep_val (rk_pickF rfl (hA.fact 11 (hA.dep 11 (by kernel_rfl) (by decide))) (hA.fact 16 (hA.dep 16 (by kernel_rfl) (by decide)))) rfl)
                            | 18, _ =>
                              obtain rfl := Option.some.inj ho
                              exact gg_plain rfl (gstep_val (rk_pickT rfl (hA.fact 1 (hA.dep 1 (by kernel_rfl) (by decide))) (hA.fact 17 (hA.dep 17 (by kernel_rfl) (by decide)))) rfl)
                            | k + 19, hk => exact absurd (show k + 19 < 19 from hk) (by omega)
                          · intro vs w5 hg5 hv
                            have HGX := Lib.hid ((Gr.refl wo).drew.trans hg5)
                            have v140 : vs 18 = .bool true := hv 18 (by omega)
                            clear hv hg5
                            simp only [putN, List.drop_succ_cons, List.drop_zero, List.getElem?_cons_succ, List.getElem?_cons_zero]
                            generalize vs 18 = z140 at *
                            subst v140
                            generalize vs 0 = z122 at *
                            generalize vs 1 = z123 at *
                            generalize vs 2 = z124 at *
                            generalize vs 3 = z125 at *
                            generalize vs 4 = z126 at *
                            generalize vs 5 = z127 at *
                            generalize vs 6 = z128 at *
                            generalize vs 7 = z129 at *
                            generalize vs 8 = z130 at *
                            generalize vs 9 = z131 at *
                            generalize vs 10 = z132 at *
                            generalize vs 11 = z133 at *
                            generalize vs 12 = z134 at *
                            generalize vs 13 = z135 at *
                            generalize vs 14 = z136 at *
                            generalize vs 15 = z137 at *
                            generalize vs 16 = z138 at *
                            generalize vs 17 = z139 at *
                            go_wp2
                            go_roundw
                            case measure => simp [intOf]; omega
                            case rel => exact ⟨o + 1, true, HOQ.out, by go_num, rfl, HFN, HGQ.out.trans HGX.out⟩
                        · have HFN : Hid (FT false ((aq ≤ t ∧ tq < 0) ∧ ∀ o', o' < o + 1 → (L.getD o' .zero).fl = fq → 0 ≤ thr o')) := Lib.hid (FT.false (fun h => absurd (h.2 o (by omega) (by rw [← HFOO.out]; exact hfl)) (by rw [← HTOO.out]; exact hto)))
                          have C1 : Hid (decide ((fo : Int) ≠ (fq : Int)) = false) := Lib.hid (by rw [hfl]; simp)
                          have C2 : Hid (decide ((0 : Int) ≤ tho) = false) := Lib.hid (decide_eq_false hto)
                          clear hfl hto
                          refine wp_region_gg (n := 19) [Fg.eq (.bool true), Fg.eq (.bool true), Fg.eq (.pointer (some ⟨cp o, 0, none⟩)), Fg.eq (.pointer (some ⟨cp o, 0, none⟩)), Fg.eq (.pointer (some ⟨cp o, 0, none⟩)), Fg.eq (.int .i64 (fo : Int)), Fg.eq (.pointer (some ⟨cp q, 0, none⟩)), Fg.eq (.pointer (some ⟨cp q, 0, none⟩)), Fg.eq (.pointer (some ⟨cp q, 0, none⟩)), Fg.eq (.int .i64 (fq : Int)), Fg.eq (.bool false), Fg.eq (.bool false), Fg.eq (.pointer (some ⟨cp o, 0, none⟩)), Fg.eq (.pointer (some ⟨cp o, 0, none⟩)), Fg.eq (.pointer (some ⟨cp o, 3, none⟩)), Fg.eq (.int .i64 tho), Fg.eq (.bool false), Fg.eq (.bool false), Fg.eq (.bool false)] [122, 123, 124, 125, 126, 127, 128, 129, 130, 131, 132, 133, 134, 135, 136, 137, 138, 139, 140] (by kernel_rfl) (by kernel_rfl) (by kernel_rfl) ?_ ?_
                          · intro L i o' ac w1 hi ho hA
                            have hgr : Gr wo w1 := (Gr.refl wo).drew.trans hA.gr
                            match i, hi with
                            | 0, _ =>
                              obtain rfl := Option.some.inj ho
                              exact gg_plain rfl (gstep_val (q_move rfl (show ac.eval (.tmp 23) = .bool true from hA.other 23 (by decide))) rfl)
                            | 1, _ =>
                              obtain rfl := Option.some.inj ho
                              exact gg_plain rfl (gstep_val (q_move rfl (hA.fact 0 (hA.dep 0 (by kernel_rfl) (by decide)))) rfl)
                            | 2, _ =>
                              obtain rfl := Option.some.inj ho
                              exact gg_yes (b := true) rfl (hA.fact 1 (hA.dep 1 (by kernel_rfl) (by decide))) (gstep_val (q_move rfl (show ac.eval (.tmp 25) = .pointer (some ⟨cp o, 0, none⟩) from hA.other 25 (by decide))) rfl)
                            | 3, _ =>
                              obtain rfl := Option.some.inj ho
                              exact gg_yes (b := true) rfl (hA.fact 1 (hA.dep 1 (by kernel_rfl) (by decide))) (gstep_val (q_nil rfl (hA.fact 2 (hA.dep 2 (by kernel_rfl) (by decide)))) rfl)
                            | 4, _ =>
                              obtain rfl := Option.some.inj ho
                              exact gg_yes (b := true) rfl (hA.fact 1 (hA.dep 1 (by kernel_rfl) (by decide))) (gstep_val (rk_fa_millraceref_cell_0 rfl (hA.fact 3 (hA.dep 3 (by kernel_rfl) (by decide)))) rfl)
                            | 5, _ =>
                              obtain rfl := Option.some.inj ho
                              exact gg_yes (b := true) rfl (hA.fact 1 (hA.dep 1 (by kernel_rfl) (by decide))) (gstep_val (q_loadI rfl (hA.fact 4 (hA.dep 4 (by kernel_rfl) (by decide))) (hgr.cell E0.out)) rfl)
                            | 6, _ =>
                              obtain rfl := Option.some.inj ho
                              exact gg_yes (b := true) rfl (hA.fact 1 (hA.dep 1 (by kernel_rfl) (by decide))) (gstep_val (q_move rfl (show ac.eval (.tmp 22) = .pointer (some ⟨cp q, 0, none⟩) from hA.other 22 (by decide))) rfl)
                            | 7, _ =>
                              obtain rfl := Option.some.inj ho
                              exact gg_yes (b := true) rfl (hA.fact 1 (hA.dep 1 (by kernel_rfl) (by decide))) (gstep_val (q_nil rfl (hA.fact 6 (hA.dep 6 (by kernel_rfl) (by decide)))) rfl)
                            | 8, _ =>
                              obtain rfl := Option.some.inj ho
                              exact gg_yes (b := true) rfl (hA.fact 1 (hA.dep 1 (by kernel_rfl) (by decide))) (gstep_val (rk_fa_millraceref_cell_0 rfl (hA.fact 7 (hA.dep 7 (by kernel_rfl) (by decide)))) rfl)
                            | 9, _ =>
                              obtain rfl := Option.some.inj ho
                              exact gg_yes (b := true) rfl (hA.fact 1 (hA.dep 1 (by kernel_rfl) (by decide))) (gstep_val (q_loadI rfl (hA.fact 8 (hA.dep 8 (by kernel_rfl) (by decide))) (hgr.cell E1.out)) rfl)
                            | 10, _ =>
                              obtain rfl := Option.some.inj ho
                              exact gg_yes (b := true) rfl (hA.fact 1 (hA.dep 1 (by kernel_rfl) (by decide))) (gstep_val (rk_neq rfl (hA.fact 5 (hA.dep 5 (by kernel_rfl) (by decide))) (hA.fact 9 (hA.dep 9 (by kernel_rfl) (by decide))) (C1.out)) rfl)
                            | 11, _ =>
                              obtain rfl := Option.some.inj ho
                              exact gg_yes (b := true) rfl (hA.fact 1 (hA.dep 1 (by kernel_rfl) (by decide))) (gstep_val (q_move rfl (hA.fact 10 (hA.dep 10 (by kernel_rfl) (by decide)))) rfl)
                            | 12, _ =>
                              obtain rfl := Option.some.inj ho
                              exact gg_yes (b := false) rfl (hA.fact 11 (hA.dep 11 (by kernel_rfl) (by decide))) (gstep_val (q_move rfl (show ac.eval (.tmp 25) = .pointer (some ⟨cp o, 0, none⟩) from hA.other 25 (by decide))) rfl)
                            | 13, _ =>
                              obtain rfl := Option.some.inj ho
                              exact gg_yes (b := false) rfl (hA.fact 11 (hA.dep 11 (by kernel_rfl) (by decide))) (gstep_val (q_nil rfl (hA.fact 12 (hA.dep 12 (by kernel_rfl) (by decide)))) rfl)
                            | 14, _ =>
                              obtain rfl := Option.some.inj ho
                              exact gg_yes (b := false) rfl (hA.fact 11 (hA.dep 11 (by kernel_rfl) (by decide))) (gstep_val (rk_fa_millraceref_cell_3 rfl (hA.fact 13 (hA.dep 13 (by kernel_rfl) (by decide)))) rfl)
                            | 15, _ =>
                              obtain rfl := Option.some.inj ho
                              exact gg_yes (b := false) rfl (hA.fact 11 (hA.dep 11 (by kernel_rfl) (by decide))) (gstep_val (q_loadI rfl (hA.fact 14 (hA.dep 14 (by kernel_rfl) (by decide))) (hgr.cell E3.out)) rfl)
                            | 16, _ =>
                              obtain rfl := Option.some.inj ho
                              exact gg_yes (b := false) rfl (hA.fact 11 (hA.dep 11 (by kernel_rfl) (by decide))) (gstep_val (rk_geq rfl (hA.fact 15 (hA.dep 15 (by kernel_rfl) (by decide))) rfl (C2.out)) rfl)
                            | 17, _ =>
                              obtain rfl := Option.some.inj ho
                              exact gg_yes (b := true) rfl (hA.fact 1 (hA.dep 1 (by kernel_rfl) (by decide))) (gstep_val (rk_pickF rfl (hA.fact 11 (hA.dep 11 (by kernel_rfl) (by decide))) (hA.fact 16 (hA.dep 16 (by kernel_rfl) (by decide)))) rfl)
                            | 18, _ =>
                              obtain rfl := Option.some.inj ho
                              exact gg_plain rfl (gstep_val (rk_pickT rfl (hA.fact 1 (hA.dep 1 (by kernel_rfl) (by decide))) (hA.fact 17 (hA.dep 17 (by kernel_rfl) (by decide)))) rfl)
                            | k + 19, hk => exact absurd (show k + 19 < 19 from hk) (by omega)
                          · intro vs w5 hg5 hv
                            have HGX := Lib.hid ((Gr.refl wo).drew.trans hg5)
                            have v140 : vs 18 = .bool false := hv 18 (by omega)
                            clear hv hg5
                            simp only [putN, List.drop_succ_cons, List.drop_zero, List.getElem?_cons_succ, List.getElem?_cons_zero]
                            generalize vs 18 = z140 at *
                            subst v140
                            generalize vs 0 = z122 at *
                            generalize vs 1 = z123 at *
                            generalize vs 2 = z124 at *
                            generalize vs 3 = z125 at *
                            generalize vs 4 = z126 at *
                            generalize vs 5 = z127 at *
                            generalize vs 6 = z128 at *
                            generalize vs 7 = z129 at *
                            generalize vs 8 = z130 at *
                            generalize vs 9 = z131 at *
                            generalize vs 10 = z132 at *
                            generalize vs 11 = z133 at *
                            generalize vs 12 = z134 at *
                            generalize vs 13 = z135 at *
                            generalize vs 14 = z136 at *
                            generalize vs 15 = z137 at *
                            generalize vs 16 = z138 at *
                            generalize vs 17 = z139 at *
                            go_wp2
                            go_roundw
                            case measure => simp [intOf]; omega
                            case rel => exact ⟨o + 1, false, HOQ.out, by go_num, rfl, HFN, HGQ.out.trans HGX.out⟩
                      · have HFN : Hid (FT true ((aq ≤ t ∧ tq < 0) ∧ ∀ o', o' < o + 1 → (L.getD o' .zero).fl = fq → 0 ≤ thr o')) := Lib.hid (FT.true ⟨HFO.out.yes.1, fun o' ho' hf => by
                          by_cases e : o' = o
                          · subst e; exact absurd (HFOO.out.trans hf) hfl
                          · exact HFO.out.yes.2 o' (by omega) hf⟩)
                        have C1 : Hid (decide ((fo : Int) ≠ (fq : Int)) = true) := Lib.hid (decide_eq_true (by omega))
                        clear hfl
                        refine wp_region_gg (n := 19) [Fg.eq (.bool true), Fg.eq (.bool true), Fg.eq (.pointer (some ⟨cp o, 0, none⟩)), Fg.eq (.pointer (some ⟨cp o, 0, none⟩)), Fg.eq (.pointer (some ⟨cp o, 0, none⟩)), Fg.eq (.int .i64 (fo : Int)), Fg.eq (.pointer (some ⟨cp q, 0, none⟩)), Fg.eq (.pointer (some ⟨cp q, 0, none⟩)), Fg.eq (.pointer (some ⟨cp q, 0, none⟩)), Fg.eq (.int .i64 (fq : Int)), Fg.eq (.bool true), Fg.eq (.bool true), Fg.eq undef, Fg.eq undef, Fg.eq undef, Fg.eq undef, Fg.eq undef, Fg.eq (.bool true), Fg.eq (.bool true)] [122, 123, 124, 125, 126, 127, 128, 129, 130, 131, 132, 133, 134, 135, 136, 137, 138, 139, 140] (by kernel_rfl) (by kernel_rfl) (by kernel_rfl) ?_ ?_
                        · intro L i o' ac w1 hi ho hA
                          have hgr : Gr wo w1 := (Gr.refl wo).drew.trans hA.gr
                          match i, hi with
                          | 0, _ =>
                            obtain rfl := Option.some.inj ho
                            exact gg_plain rfl (gstep_val (q_move rfl (show ac.eval (.tmp 23) = .bool true from hA.other 23 (by decide))) rfl)
                          | 1, _ =>
                            obtain rfl := Option.some.inj ho
                            exact gg_plain rfl (gstep_val (q_move rfl (hA.fact 0 (hA.dep 0 (by kernel_rfl) (by decide)))) rfl)
                          | 2, _ =>
                            obtain rfl := Option.some.inj ho
                            exact gg_yes (b := true) rfl (hA.fact 1 (hA.dep 1 (by kernel_rfl) (by decide))) (gstep_val (q_move rfl (show ac.eval (.tmp 25) = .pointer (some ⟨cp o, 0, none⟩) from hA.other 25 (by decide))) rfl)
                          | 3, _ =>
                            obtain rfl := Option.some.inj ho
                            exact gg_yes (b := true) rfl (hA.fact 1 (hA.dep 1 (by kernel_rfl) (by decide))) (gstep_val (q_nil rfl (hA.fact 2 (hA.dep 2 (by kernel_rfl) (by decide)))) rfl)
                          | 4, _ =>
                            obtain rfl := Option.some.inj ho
                            exact gg_yes (b := true) rfl (hA.fact 1 (hA.dep 1 (by kernel_rfl) (by decide))) (gstep_val (rk_fa_millraceref_cell_0 rfl (hA.fact 3 (hA.dep 3 (by kernel_rfl) (by decide)))) rfl)
                          | 5, _ =>
                            obtain rfl := Option.some.inj ho
                            exact gg_yes (b := true) rfl (hA.fact 1 (hA.dep 1 (by kernel_rfl) (by decide))) (gstep_val (q_loadI rfl (hA.fact 4 (hA.dep 4 (by kernel_rfl) (by decide))) (hgr.cell E0.out)) rfl)
                          | 6, _ =>
                            obtain rfl := Option.some.inj ho
                            exact gg_yes (b := true) rfl (hA.fact 1 (hA.dep 1 (by kernel_rfl) (by decide))) (gstep_val (q_move rfl (show ac.eval (.tmp 22) = .pointer (some ⟨cp q, 0, none⟩) from hA.other 22 (by decide))) rfl)
                          | 7, _ =>
                            obtain rfl := Option.some.inj ho
                            exact gg_yes (b := true) rfl (hA.fact 1 (hA.dep 1 (by kernel_rfl) (by decide))) (gstep_val (q_nil rfl (hA.fact 6 (hA.dep 6 (by kernel_rfl) (by decide)))) rfl)
                          | 8, _ =>
                            obtain rfl := Option.some.inj ho
                            exact gg_yes (b := true) rfl (hA.fact 1 (hA.dep 1 (by kernel_rfl) (by decide))) (gstep_val (rk_fa_millraceref_cell_0 rfl (hA.fact 7 (hA.dep 7 (by kernel_rfl) (by decide)))) rfl)
                          | 9, _ =>
                            obtain rfl := Option.some.inj ho
                            exact gg_yes (b := true) rfl (hA.fact 1 (hA.dep 1 (by kernel_rfl) (by decide))) (gstep_val (q_loadI rfl (hA.fact 8 (hA.dep 8 (by kernel_rfl) (by decide))) (hgr.cell E1.out)) rfl)
                          | 10, _ =>
                            obtain rfl := Option.some.inj ho
                            exact gg_yes (b := true) rfl (hA.fact 1 (hA.dep 1 (by kernel_rfl) (by decide))) (gstep_val (rk_neq rfl (hA.fact 5 (hA.dep 5 (by kernel_rfl) (by decide))) (hA.fact 9 (hA.dep 9 (by kernel_rfl) (by decide))) (C1.out)) rfl)
                          | 11, _ =>
                            obtain rfl := Option.some.inj ho
                            exact gg_yes (b := true) rfl (hA.fact 1 (hA.dep 1 (by kernel_rfl) (by decide))) (gstep_val (q_move rfl (hA.fact 10 (hA.dep 10 (by kernel_rfl) (by decide)))) rfl)
                          | 12, _ =>
                            obtain rfl := Option.some.inj ho
                            exact gg_no (b := false) rfl (hA.fact 11 (hA.dep 11 (by kernel_rfl) (by decide))) rfl
                          | 13, _ =>
                            obtain rfl := Option.some.inj ho
                            exact gg_no (b := false) rfl (hA.fact 11 (hA.dep 11 (by kernel_rfl) (by decide))) rfl
                          | 14, _ =>
                            obtain rfl := Option.some.inj ho
                            exact gg_no (b := false) rfl (hA.fact 11 (hA.dep 11 (by kernel_rfl) (by decide))) rfl
                          | 15, _ =>
                            obtain rfl := Option.some.inj ho
                            exact gg_no (b := false) rfl (hA.fact 11 (hA.dep 11 (by kernel_rfl) (by decide))) rfl
                          | 16, _ =>
                            obtain rfl := Option.some.inj ho
                            exact gg_no (b := false) rfl (hA.fact 11 (hA.dep 11 (by kernel_rfl) (by decide))) rfl
                          | 17, _ =>
                            obtain rfl := Option.some.inj ho
                            exact gg_yes (b := true) rfl (hA.fact 1 (hA.dep 1 (by kernel_rfl) (by decide))) (gstep_val (rk_pickT rfl (hA.fact 11 (hA.dep 11 (by kernel_rfl) (by decide))) rfl) rfl)
                          | 18, _ =>
                            obtain rfl := Option.some.inj ho
                            exact gg_plain rfl (gstep_val (rk_pickT rfl (hA.fact 1 (hA.dep 1 (by kernel_rfl) (by decide))) (hA.fact 17 (hA.dep 17 (by kernel_rfl) (by decide)))) rfl)
                          | k + 19, hk => exact absurd (show k + 19 < 19 from hk) (by omega)
                        · intro vs w5 hg5 hv
                          have HGX := Lib.hid ((Gr.refl wo).drew.trans hg5)
                          have v140 : vs 18 = .bool true := hv 18 (by omega)
                          clear hv hg5
                          simp only [putN, List.drop_succ_cons, List.drop_zero, List.getElem?_cons_succ, List.getElem?_cons_zero]
                          generalize vs 18 = z140 at *
                          subst v140
                          generalize vs 0 = z122 at *
                          generalize vs 1 = z123 at *
                          generalize vs 2 = z124 at *
                          generalize vs 3 = z125 at *
                          generalize vs 4 = z126 at *
                          generalize vs 5 = z127 at *
                          generalize vs 6 = z128 at *
                          generalize vs 7 = z129 at *
                          generalize vs 8 = z130 at *
                          generalize vs 9 = z131 at *
                          generalize vs 10 = z132 at *
                          generalize vs 11 = z133 at *
                          generalize vs 12 = z134 at *
                          generalize vs 13 = z135 at *
                          generalize vs 14 = z136 at *
                          generalize vs 15 = z137 at *
                          generalize vs 16 = z138 at *
                          generalize vs 17 = z139 at *
                          go_wp2
                          go_roundw
                          case measure => simp [intOf]; omega
                          case rel => exact ⟨o + 1, true, HOQ.out, by go_num, rfl, HFN, HGQ.out.trans HGX.out⟩
            · obtain rfl : NN = q := by omega
              have r1 : ¬ (NN : Int) < (NN : Int) := by omega
              have HRBE : Hid (rpick L T thr t NN = rbest L T t) := Lib.hid (by unfold rbest; rw [← HTH.out, HLL.out.1])
              have HCX := Lib.hid (HC.out.gr HGT.out)
              have HSR := Lib.hid (And.intro (HSE.out.1.gr HGT.out) HSE.out.2)
              have HGX6 : Hid (Gr w wq ∧ M2 ≤ wq.heap.size) := Lib.hid ⟨HG.out.1.trans HGT.out, Nat.le_trans HG.out.2 HGT.out.size⟩
              clear HC HSE HG
              by_cases hbn : rpick L T thr t NN < 0
              · obtain rfl : bp = none := HBP.out.trans (PV_none hbn)
                have HVL : Hid (rsent L T t = -1) := Lib.hid (by unfold rsent; rw [← HRBE.out, if_pos hbn])
                have HRN : Hid (thr = rrun L T (t + 1)) := Lib.hid (by rw [rrun, ← HTH.out, HLL.out.1, if_pos hbn])
                clear hbn
                go_wp2_with (at_builtin; refine wpList_append_intR rfl _ _ _ (by rfl) Tryd.underlying28 _ _ (-1) (by rfl) (HSR.out.1.gr ((Gr.refl _).alloc _)) ⟨wq.heap.size, 0, none⟩ 1 (by rfl) (by simp) (by rw [upTo_len]; have := HTL.out; have := HT200.out; omega) ?_; intro v5 w5 hrow hgr hown; rw [← HVL.out, upTo_succ] at hrow; obtain ⟨a5, c5, e5⟩ := IntRow.shape hrow; rw [upTo_len] at e5; subst e5; have HC6 := Lib.hid ((HCX.out.gr ((Gr.refl wq).alloc (.cells #[.int .i64 (-1)] 3))).sav (.of_grown (B := fun g => (Value.slice sa t sc).ownBlock = some g) hgr (fun _ h => h)) (fun g e e2 => by have := HSR.out.2 g e2; have := HLO.out.2.1 g e; omega) (fun q hq e2 => by have := HSR.out.2 _ e2; have := HLO.out.1 q (by rw [← HLL.out.1]; exact hq); omega)); have HS6 : Hid (IntRow w5 (.slice a5 (t + 1) c5) (upTo (rsent L T) (t + 1)) ∧ ∀ g, (Value.slice a5 (t + 1) c5).ownBlock = some g → M2 ≤ g) := Lib.hid ⟨hrow, fun g e => by rcases hown g e with h | h; (exact HSR.out.2 g h); (have := HGX6.out.2; simp at h; omega)⟩; have HG6 : Hid (Gr w w5 ∧ M2 ≤ w5.heap.size) := Lib.hid ⟨gr_grown hgr (HGX6.out.1.alloc _) (fun g e => by have := HSR.out.2 g e; have := HLO.out.2.2.1; omega), Nat.le_trans HGX6.out.2 (Nat.le_trans ((Gr.refl wq).alloc (.cells #[.int .i64 (-1)] 3)).size hgr.size)⟩; clear hrow hgr hown)
                rw [HRN.out] at HC6
                go_roundw
                case measure => simp [intOf]; omega
                case rel => exact ⟨t + 1, a5, c5, by have := HTL.out; omega, by go_num, rfl, HC6, HS6, HG6⟩
              · obtain ⟨rb, hrb⟩ : ∃ rb : Nat, rpick L T thr t NN = (rb : Int) := ⟨_, (Int.toNat_of_nonneg (by omega)).symm⟩
                obtain rfl : bp = some ⟨cp rb, 0, none⟩ := by rw [HBP.out, hrb, PV_at]
                have hrl : rb < L.length := by
                  rcases rpick_spec L T thr t NN with ⟨h1, _⟩ | ⟨q', h1, h2, _⟩
                  · omega
                  · rw [HLL.out.1]; omega
                obtain ⟨fl, hfl⟩ : ∃ fl, fl = (L.getD rb .zero).fl := ⟨_, rfl⟩
                have HVL : Hid (rsent L T t = (fl : Int)) := Lib.hid (by unfold rsent; rw [← HRBE.out, hrb, if_neg (by omega), Int.toNat_natCast, hfl])
                have HRN : Hid (upd thr rb ((t : Int) + 1) = rrun L T (t + 1)) := Lib.hid (by rw [rrun, ← HTH.out, HLL.out.1, hrb, if_neg (by omega), Int.toNat_natCast])
                have c3 := (HCX.out.at_ rb hrl).c3
                have f3 := (HCX.out.at_ rb hrl).f3
                have HCY := Lib.hid (HCX.out.thru hrl ((t : Int) + 1))
                have HRLL := Lib.hid hrl
                have HFL := Lib.hid hfl
                clear hrb hfl hbn hrl
                go_upto_region 46 with fail
                clear c3 f3
                obtain ⟨wy, hwy⟩ : ∃ u, u = wq.setCell ⟨cp rb, 3, none⟩ (.int .i64 ((t : Int) + 1)) := ⟨_, rfl⟩
                have HSV : Hid (Sav (fun g => g = cp rb) wq wy) := Lib.hid (by rw [hwy]; exact .set (cp rb) 3 _)
                rw [← hwy] at HCY
                rw [← hwy]
                clear hwy
                have HCP : Hid (cp rb < M2 ∧ w.heap.size ≤ cp rb) := Lib.hid ⟨HLO.out.1 rb (by rw [← HLL.out.1]; exact HRLL.out), HCX.out.lo rb HRLL.out⟩
                obtain ⟨HCX, HSR, HGX6⟩ : Hid (Cells wy w.heap.size (.slice va NN vc) cp L (upd thr rb ((t : Int) + 1))) ∧ Hid (IntRow wy (.slice sa t sc) (upTo (rsent L T) t) ∧ ∀ g, (Value.slice sa t sc).ownBlock = some g → M2 ≤ g) ∧ Hid (Gr w wy ∧ M2 ≤ wy.heap.size) :=
                  ⟨HCY, Lib.hid ⟨Row.sav HSR.out.1 HSV.out (fun g e e2 => by have := HSR.out.2 g e; have := HCP.out.1; omega), HSR.out.2⟩, Lib.hid ⟨Sav.gr HGX6.out.1 HSV.out (fun g e => by have := HCP.out.2; omega), Nat.le_trans HGX6.out.2 HSV.out.size⟩⟩
                have d0 := (HCX.out.at_ rb HRLL.out).c0
                rw [← HFL.out] at d0
                go_wp2_with (at_builtin; refine wpList_append_intR rfl _ _ _ (by rfl) Tryd.underlying28 _ _ ((fl : Int)) (by rfl) (HSR.out.1.gr ((Gr.refl _).alloc _)) ⟨wy.heap.size, 0, none⟩ 1 (by rfl) (by simp) (by rw [upTo_len]; have := HTL.out; have := HT200.out; omega) ?_; intro v5 w5 hrow hgr hown; rw [← HVL.out, upTo_succ] at hrow; obtain ⟨a5, c5, e5⟩ := IntRow.shape hrow; rw [upTo_len] at e5; subst e5; have HC6 := Lib.hid ((HCX.out.gr ((Gr.refl wy).alloc (.cells #[.int .i64 ((fl : Int))] 3))).sav (.of_grown (B := fun g => (Value.slice sa t sc).ownBlock = some g) hgr (fun _ h => h)) (fun g e e2 => by have := HSR.out.2 g e2; have := HLO.out.2.1 g e; omega) (fun q hq e2 => by have := HSR.out.2 _ e2; have := HLO.out.1 q (by rw [← HLL.out.1]; exact hq); omega)); have HS6 : Hid (IntRow w5 (.slice a5 (t + 1) c5) (upTo (rsent L T) (t + 1)) ∧ ∀ g, (Value.slice a5 (t + 1) c5).ownBlock = some g → M2 ≤ g) := Lib.hid ⟨hrow, fun g e => by rcases hown g e with h | h; (exact HSR.out.2 g h); (have := HGX6.out.2; simp at h; omega)⟩; have HG6 : Hid (Gr w w5 ∧ M2 ≤ w5.heap.size) := Lib.hid ⟨gr_grown hgr (HGX6.out.1.alloc _) (fun g e => by have := HSR.out.2 g e; have := HLO.out.2.2.1; omega), Nat.le_trans HGX6.out.2 (Nat.le_trans ((Gr.refl wy).alloc (.cells #[.int .i64 ((fl : Int))] 3)).size hgr.size)⟩; clear hrow hgr hown)
                rw [HRN.out] at HC6
                go_roundw
                case measure => simp [intOf]; omega
                case rel => exact ⟨t + 1, a5, c5, by have := HTL.out; omega, by go_num, rfl, HC6, HS6, HG6⟩
        · have hTt : T = t := by omega
          subst hTt
          have k1 : ¬ (T : Int) < (T : Int) := by omega
          go_upto_region 48 with fail
          refine wp_region_gc (n := 7) (triC 5 2 6) [Fg.eq (.slice la n lc), Fg.eq (.int .i64 (n : Int)), Fg.vb wt.heap.size 28 n (.slice none 0 0), Fg.eq (.slice la n lc), Fg.eq (.int .i64 (n : Int)), Fg.vb wt.heap.size 28 n (.slice none 0 0), Fg.vb wt.heap.size 28 n (.slice none 0 0)] [176, 177, 178, 179, 180, 181, 26] (by kernel_rfl) (by kernel_rfl) (by kernel_rfl) (triC_sym 5 2 6) (triC_irr (by decide) (by decide)) ?_ ?_
          · intro L i o a w1 hi ho hA
            have hgr : Gr wt w1 := (Gr.refl wt).drew.trans hA.gr
            match i, hi with
            | 0, _ =>
              obtain rfl := Option.some.inj ho
              exact cstep_val (triC_no (by decide) (by decide) (by decide)) (mk_move rfl (show a.eval (.tmp 0) = .slice la n lc from hA.other 0 (by decide))) rfl
            | 1, _ =>
              obtain rfl := Option.some.inj ho
              exact cstep_val (triC_no (by decide) (by decide) (by decide)) (q_len rfl ⟨_, Tryd.underlying23⟩ (hA.fact 0 (hA.dep 0 (by kernel_rfl) (by decide)))) rfl
            | 2, _ =>
              obtain rfl := Option.some.inj ho
              refine cstep_make (n := n) info_slice rfl Tryd.underlying31 rfl (hA.fact 1 (hA.dep 1 (by kernel_rfl) (by decide))) (hA.fact 1 (hA.dep 1 (by kernel_rfl) (by decide))) (by have := H8.out; omega) (by have := H8.out; omega) (fun w' hb hg => ⟨_, rfl, hgr.size, hb⟩) (fun j hj hC e => ?_)
              have hjj := triC_iff.1 hC
              obtain rfl : j = 5 := by omega
              obtain ⟨g', h0, _, h2⟩ := hA.fact 5 hj
              have e2 := e.trans h0
              injection e2 with e3
              injection e3 with e4
              injection e4 with e5
              have := h2.lt
              omega
            | 3, _ =>
              obtain rfl := Option.some.inj ho
              exact cstep_val (triC_no (by decide) (by decide) (by decide)) (mk_move rfl (show a.eval (.tmp 0) = .slice la n lc from hA.other 0 (by decide))) rfl
            | 4, _ =>
              obtain rfl := Option.some.inj ho
              exact cstep_val (triC_no (by decide) (by decide) (by decide)) (q_len rfl ⟨_, Tryd.underlying23⟩ (hA.fact 3 (hA.dep 3 (by kernel_rfl) (by decide)))) rfl
            | 5, _ =>
              obtain rfl := Option.some.inj ho
              refine cstep_make (n := n) info_slice rfl Tryd.underlying31 rfl (hA.fact 4 (hA.dep 4 (by kernel_rfl) (by decide))) (hA.fact 4 (hA.dep 4 (by kernel_rfl) (by decide))) (by have := H8.out; omega) (by have := H8.out; omega) (fun w' hb hg => ⟨_, rfl, hgr.size, hb⟩) (fun j hj hC e => ?_)
              have hjj := triC_iff.1 hC
              rcases (show j = 2 ∨ j = 6 by omega) with rfl | rfl
              · obtain ⟨g', h0, _, h2⟩ := hA.fact 2 hj
                have e2 := e.trans h0
                injection e2 with e3
                injection e3 with e4
                injection e4 with e5
                have := h2.lt
                omega
              · obtain ⟨g', h0, _, h2⟩ := hA.fact 6 hj
                have e2 := e.trans h0
                injection e2 with e3
                injection e3 with e4
                injection e4 with e5
                have := h2.lt
                omega
            | 6, _ =>
              obtain rfl := Option.some.inj ho
              obtain ⟨g1', a1, a2, a3⟩ := (hA.fact 2 (hA.dep 2 (by kernel_rfl) (by decide)))
              exact cstep_new (mk_assign rfl a1) (Gr.refl _) ⟨g1', rfl, a2, a3⟩ (fun j hj hC e => by
                obtain rfl : j = 5 := by have := triC_iff.1 hC; omega
                exact hA.apart 2 5 (hA.dep 2 (by kernel_rfl) (by decide)) hj (by decide) (a1.trans e))
            | k + 7, hk => exact absurd (show k + 7 < 7 from hk) (by omega)
          · intro vs w3 hg3 hv hap
            have hg2 := (Gr.refl wt).drew.trans hg3
            obtain ⟨g5, e26, hg5', hb5⟩ := hv 6 (by omega)
            obtain ⟨g6, e27, hg6', hb6⟩ := hv 5 (by omega)
            have hne2 : g5 ≠ g6 := fun e => hap 6 5 (by omega) (by omega) (by decide) (by rw [e26, e27, e])
            clear hv hap hg3
            simp only [putN, List.drop_succ_cons, List.drop_zero, List.getElem?_cons_succ, List.getElem?_cons_zero]
            generalize vs 6 = z26 at *
            generalize vs 5 = z27 at *
            subst e26
            subst e27
            obtain ⟨N3, hN3⟩ : ∃ N3, N3 = w3.heap.size := ⟨_, rfl⟩
            have HL5 : Hid (Lists w3 g5 n (fun _ => .slice none 0 0) (fun i => gather L (fun q => (L.getD q .zero).due) i 0) N3 ∧ Lists w3 g6 n (fun _ => .slice none 0 0) (fun i => gather L (rrun L T T) i 0) N3 ∧ g5 ≠ g6 ∧ M2 ≤ g5 ∧ M2 ≤ g6) := Lib.hid ⟨.none (fun j hj => hb5.cell hj) (fun j _ => hb5.free j) (by rw [hN3]; exact hb5.lt), .none (fun j hj => hb6.cell hj) (fun j _ => hb6.free j) (by rw [hN3]; exact hb6.lt), hne2, Nat.le_trans HG.out.2 hg5', Nat.le_trans HG.out.2 hg6'⟩
            have HC3 := Lib.hid (HC.out.gr hg2)
            have HS3 : Hid (IntRow w3 (.slice sa T sc) (upTo (rsent L T) T) ∧ ∀ g, (Value.slice sa T sc).ownBlock = some g → M2 ≤ g ∧ g ≠ g5 ∧ g ≠ g6) := Lib.hid ⟨HSE.out.1.gr hg2, fun g e => ⟨HSE.out.2 g e, by have := Row.lt HSE.out.1 e; omega, by have := Row.lt HSE.out.1 e; omega⟩⟩
            have HG3 : Hid (Gr w w3 ∧ N3 ≤ w3.heap.size ∧ M2 ≤ N3) := Lib.hid ⟨HG.out.1.trans hg2, by omega, by have := HG.out.2; have := hg2.size; omega⟩
            have HN3 := Lib.hid hN3
            clear hg2 hg5' hb5 hg6' hb6 hne2 hN3 HC HSE HG
            go_wp2
            go_loopw [184] (fun s wr => ∃ (q : Nat) (pv tv : Nat → Value), q ≤ NN ∧ s = .int .i64 (q : Int) ∧ Hid (Cells wr w.heap.size (.slice va NN vc) cp L (rrun L T T)) ∧ Hid (Lists wr g5 n pv (fun i => gather L (fun q => (L.getD q .zero).due) i q) N3 ∧ Lists wr g6 n tv (fun i => gather L (rrun L T T) i q) N3 ∧ ∀ i j g, i < n → j < n → (pv i).ownBlock = some g → (tv j).ownBlock ≠ some g) ∧ Hid (IntRow wr (.slice sa T sc) (upTo (rsent L T) T) ∧ ∀ g, (Value.slice sa T sc).ownBlock = some g → (M2 ≤ g ∧ g ≠ g5 ∧ g ≠ g6) ∧ g < N3) ∧ Hid (Gr w wr ∧ N3 ≤ wr.heap.size)) (fun s _ => NN - (intOf s).toNat)
            case atStart => exact ⟨0, _, _, Nat.zero_le _, rfl, HC3, Lib.hid ⟨HL5.out.1, HL5.out.2.1, fun i j g _ _ e => by simp [Value.ownBlock] at e⟩, Lib.hid ⟨HS3.out.1, fun g e => ⟨HS3.out.2 g e, by have := Row.lt HS3.out.1 e; rw [HN3.out]; exact this⟩⟩, Lib.hid ⟨HG3.out.1, HG3.out.2.1⟩⟩
            case round =>
              obtain ⟨q, pv, tv, hq, rfl, HC, HLS, HSE, HG⟩ := hrel
              clear HC3 HS3 HG3
              by_cases hql : q < NN
              · have r0 : (0 : Int) ≤ (q : Int) := by omega
                have r1 : (q : Int) < (NN : Int) := by omega
                have HQL := Lib.hid hql
                have HLQ : Hid (q < L.length) := Lib.hid (by rw [HLL.out.1]; exact HQL.out)
                obtain ⟨vb, vo, vcap, hve, _, _, hcell⟩ := Row.cells HC.out.row (by have := HLQ.out; omega)
                injection hve with ev1 ev2 ev3
                subst ev1
                have c0 := hcell q _ (ptL_get cp HLQ.out)
                clear hcell ev2 ev3
                obtain ⟨fl, hfl⟩ : ∃ fl, fl = (L.getD q .zero).fl := ⟨_, rfl⟩
                obtain ⟨du, hdu⟩ : ∃ du, du = (L.getD q .zero).due := ⟨_, rfl⟩
                obtain ⟨th, hth⟩ : ∃ th, th = rrun L T T q := ⟨_, rfl⟩
                obtain ⟨X, hX⟩ : ∃ X, X = gather L (fun q => (L.getD q .zero).due) fl q := ⟨_, rfl⟩
                obtain ⟨Y, hY⟩ : ∃ Y, Y = gather L (rrun L T T) fl q := ⟨_, rfl⟩
                have HFL : Hid (fl < n ∧ q ≤ 1000) := Lib.hid ⟨by rw [hfl, ← HPn.out.1]; exact HLL.out.2.fl_lt HLQ.out, by have := HLO.out.2.2.2; omega⟩
                have HCE : Hid (wr.cell? ⟨cp q, 0, none⟩ = some (.int .i64 (fl : Int)) ∧ wr.cell? ⟨cp q, 2, none⟩ = some (.int .i64 du) ∧ wr.cell? ⟨cp q, 3, none⟩ = some (.int .i64 th)) := Lib.hid (by
                  rw [hfl, hdu, hth]
                  exact ⟨(HC.out.at_ q HLQ.out).c0, (HC.out.at_ q HLQ.out).c2, (HC.out.at_ q HLQ.out).c3⟩)
                have hr1 := HLS.out.1.row fl HFL.out.1
                have hr2 := HLS.out.2.1.row fl HFL.out.1
                rw [← hX] at hr1
                rw [← hY] at hr2
                obtain ⟨pa, pc, hpv⟩ := IntRow.shape hr1
                obtain ⟨ta, tc, htv⟩ := IntRow.shape hr2
                have HPV := Lib.hid hpv
                have HTV := Lib.hid htv
                have HRW : Hid (IntRow wr (.slice pa X.length pc) X ∧ IntRow wr (.slice ta Y.length tc) Y) := Lib.hid ⟨by rw [← hpv]; exact hr1, by rw [← htv]; exact hr2⟩
                have HOW : Hid ((∀ g, (Value.slice pa X.length pc).ownBlock = some g → N3 ≤ g ∧ g < wr.heap.size) ∧ (∀ g, (Value.slice ta Y.length tc).ownBlock = some g → N3 ≤ g ∧ g < wr.heap.size) ∧ ∀ g, (Value.slice pa X.length pc).ownBlock = some g → (Value.slice ta Y.length tc).ownBlock ≠ some g) := Lib.hid (by
                  rw [← hpv, ← htv]
                  exact ⟨fun g e => ⟨HLS.out.1.own fl g HFL.out.1 e, Row.lt hr1 e⟩, fun g e => ⟨HLS.out.2.1.own fl g HFL.out.1 e, Row.lt hr2 e⟩, fun g e => HLS.out.2.2 fl fl g HFL.out.1 HFL.out.1 e⟩)
                have HLX : Hid (X.length ≤ 999999 ∧ Y.length ≤ 999999) := Lib.hid ⟨by rw [hX]; have := gather_len L (fun q => (L.getD q .zero).due) fl q; have := HFL.out.2; omega, by rw [hY]; have := gather_len L (rrun L T T) fl q; have := HFL.out.2; omega⟩
                have HGB : Hid (g5 < N3 ∧ g6 < N3 ∧ g5 ≠ g6 ∧ M2 ≤ g5 ∧ M2 ≤ g6 ∧ N3 ≤ wr.heap.size ∧ cp q < M2 ∧ w.heap.size ≤ M2) := Lib.hid ⟨HLS.out.1.gb, HLS.out.2.1.gb, HL5.out.2.2.1, HL5.out.2.2.2.1, HL5.out.2.2.2.2, HG.out.2, HLO.out.1 q HQL.out, HLO.out.2.2.1⟩
                have HK5 : Hid (wr.cell? ⟨g5, fl, none⟩ = some (.slice pa X.length pc) ∧ wr.cell? ⟨g6, fl, none⟩ = some (.slice ta Y.length tc)) := Lib.hid ⟨by rw [← hpv]; exact HLS.out.1.cell fl HFL.out.1, by rw [← htv]; exact HLS.out.2.1.cell fl HFL.out.1⟩
                have HX0 : Hid (fl = (L.getD q .zero).fl ∧ du = (L.getD q .zero).due ∧ th = rrun L T T q ∧ X = gather L (fun q => (L.getD q .zero).due) fl q ∧ Y = gather L (rrun L T T) fl q) := Lib.hid ⟨hfl, hdu, hth, hX, hY⟩
                clear hfl hdu hth hX hY hr1 hr2 hpv htv
                go_upto_region 52 with fail
                clear c0
                refine wp_region_l (n := 38) (TwoRow wr (.slice pa X.length pc) (.slice ta Y.length tc) X Y g5) 37 [Fv.of 0 (Fg.eq (.slice (some ⟨g5, 0, none⟩) n n)), Fv.of 1 (Fg.eq (.pointer (some ⟨cp q, 0, none⟩))), Fv.of 2 (Fg.eq (.pointer (some ⟨cp q, 0, none⟩))), Fv.of 3 (Fg.eq (.pointer (some ⟨cp q, 0, none⟩))), Fv.of 4 (Fg.eq (.int .i64 (fl : Int))), Fv.of 5 (Fg.eq (.slice (some ⟨g6, 0, none⟩) n n)), Fv.of 6 (Fg.eq (.pointer (some ⟨cp q, 0, none⟩))), Fv.of 7 (Fg.eq (.pointer (some ⟨cp q, 0, none⟩))), Fv.of 8 (Fg.eq (.pointer (some ⟨cp q, 0, none⟩))), Fv.of 9 (Fg.eq (.int .i64 (fl : Int))), Fv.of 10 (Fg.eq (.slice (some ⟨g5, 0, none⟩) n n)), Fv.of 11 (Fg.eq (.pointer (some ⟨cp q, 0, none⟩))), Fv.of 12 (Fg.eq (.pointer (some ⟨cp q, 0, none⟩))), Fv.of 13 (Fg.eq (.pointer (some ⟨cp q, 0, none⟩))), Fv.of 14 (Fg.eq (.int .i64 (fl : Int))), Fv.of 15 (Fg.eq (.pointer (some ⟨g5, fl, none⟩))), Fv.of 16 (Fg.eq (.slice pa X.length pc)), Fv.of 17 (Fg.eq (.pointer (some ⟨cp q, 0, none⟩))), Fv.of 18 (Fg.eq (.pointer (some ⟨cp q, 0, none⟩))), Fv.of 19 (Fg.eq (.pointer (some ⟨cp q, 2, none⟩))), Fv.of 20 (Fg.eq (.int .i64 du)), Fv.of 21 (Fg.one wr.heap.size du), Fv.of 22 (Fg.irowA wr.heap.size (.slice pa X.length pc) (X ++ [du])), Fv.of 23 (Fg.eq (.slice (some ⟨g6, 0, none⟩) n n)), Fv.of 24 (Fg.eq (.pointer (some ⟨cp q, 0, none⟩))), Fv.of 25 (Fg.eq (.pointer (some ⟨cp q, 0, none⟩))), Fv.of 26 (Fg.eq (.pointer (some ⟨cp q, 0, none⟩))), Fv.of 27 (Fg.eq (.int .i64 (fl : Int))), Fv.of 28 (Fg.eq (.pointer (some ⟨g6, fl, none⟩))), Fv.of 29 (Fg.eq (.slice ta Y.length tc)), Fv.of 30 (Fg.eq (.pointer (some ⟨cp q, 0, none⟩))), Fv.of 31 (Fg.eq (.pointer (some ⟨cp q, 0, none⟩))), Fv.of 32 (Fg.eq (.pointer (some ⟨cp q, 3, none⟩))), Fv.of 33 (Fg.eq (.int .i64 th)), Fv.of 34 (Fg.one wr.heap.size th), Fv.apart 35 22 wr.heap.size (.slice ta Y.length tc) (Y ++ [th]), Fv.of 36 (Fg.eq (.pointer (some ⟨g5, fl, none⟩))), Fv.cells 22 g5 n fl pv] [188, 189, 190, 191, 192, 193, 194, 195, 196, 197, 198, 199, 200, 201, 202, 203, 204, 205, 206, 207, 208, 209, 210, 211, 212, 213, 214, 215, 216, 217, 218, 219, 220, 221, 222, 223, 224] (⟨.of_gr (Gr.refl wr).drew, HRW.out.1.gr (Gr.refl wr).drew, HRW.out.2.gr (Gr.refl wr).drew⟩) (by decide) (by kernel_rfl) (by kernel_rfl) (by kernel_rfl) (by kernel_rfl) ?_ ?_
                · intro L' i o ac w1 hi ho hA
                  match i, hi with
                  | 0, _ =>
                    obtain rfl := Option.some.inj ho
                    exact lstep_val hA (by decide) (mk_move rfl (show ac.eval (.tmp 26) = .slice (some ⟨g5, 0, none⟩) n n from hA.other 26 (by decide))) (fun _ hf => hf)
                  | 1, _ =>
                    obtain rfl := Option.some.inj ho
                    exact lstep_val hA (by decide) (mk_move rfl (show ac.eval (.tmp 29) = .pointer (some ⟨cp q, 0, none⟩) from hA.other 29 (by decide))) (fun _ hf => hf)
                  | 2, _ =>
                    obtain rfl := Option.some.inj ho
                    exact lstep_val hA (by decide) (q_nil rfl (hA.fact 1 (hA.dep 1 (by kernel_rfl) (by decide)))) (fun _ hf => hf)
                  | 3, _ =>
                    obtain rfl := Option.some.inj ho
                    exact lstep_val hA (by decide) (sr_fa_millraceref_cell_0 rfl (hA.fact 2 (hA.dep 2 (by kernel_rfl) (by decide)))) (fun _ hf => hf)
                  | 4, _ =>
                    obtain rfl := Option.some.inj ho
                    have hI := hA.no (fun h => hA.self (hA.closed 37 4 h (by kernel_rfl) (by decide)))
                    exact lstep_val hA (by decide) (q_loadI rfl (hA.fact 3 (hA.dep 3 (by kernel_rfl) (by decide))) (hI.sav.cell HCE.out.1 (fun e => by rcases e with e | e | e; (have h8 : N3 ≤ cp q := (HOW.out.1 _ e).1; have := HGB.out; omega); (have h8 : N3 ≤ cp q := (HOW.out.2.1 _ e).1; have := HGB.out; omega); (have h9 : cp q = g5 := e.2; have := HGB.out; omega)))) (fun _ hf => hf)
                  | 5, _ =>
                    obtain rfl := Option.some.inj ho
                    exact lstep_val hA (by decide) (mk_move rfl (show ac.eval (.tmp 27) = .slice (some ⟨g6, 0, none⟩) n n from hA.other 27 (by decide))) (fun _ hf => hf)
                  | 6, _ =>
                    obtain rfl := Option.some.inj ho
                    exact lstep_val hA (by decide) (mk_move rfl (show ac.eval (.tmp 29) = .pointer (some ⟨cp q, 0, none⟩) from hA.other 29 (by decide))) (fun _ hf => hf)
                  | 7, _ =>
                    obtain rfl := Option.some.inj ho
                    exact lstep_val hA (by decide) (q_nil rfl (hA.fact 6 (hA.dep 6 (by kernel_rfl) (by decide)))) (fun _ hf => hf)
                  | 8, _ =>
                    obtain rfl := Option.some.inj ho
                    exact lstep_val hA (by decide) (sr_fa_millraceref_cell_0 rfl (hA.fact 7 (hA.dep 7 (by kernel_rfl) (by decide)))) (fun _ hf => hf)
                  | 9, _ =>
                    obtain rfl := Option.some.inj ho
                    have hI := hA.no (fun h => hA.self (hA.closed 37 9 h (by kernel_rfl) (by decide)))
                    exact lstep_val hA (by decide) (q_loadI rfl (hA.fact 8 (hA.dep 8 (by kernel_rfl) (by decide))) (hI.sav.cell HCE.out.1 (fun e => by rcases e with e | e | e; (have h8 : N3 ≤ cp q := (HOW.out.1 _ e).1; have := HGB.out; omega); (have h8 : N3 ≤ cp q := (HOW.out.2.1 _ e).1; have := HGB.out; omega); (have h9 : cp q = g5 := e.2; have := HGB.out; omega)))) (fun _ hf => hf)
                  | 10, _ =>
                    obtain rfl := Option.some.inj ho
                    exact lstep_val hA (by decide) (mk_move rfl (show ac.eval (.tmp 26) = .slice (some ⟨g5, 0, none⟩) n n from hA.other 26 (by decide))) (fun _ hf => hf)
                  | 11, _ =>
                    obtain rfl := Option.some.inj ho
                    exact lstep_val hA (by decide) (mk_move rfl (show ac.eval (.tmp 29) = .pointer (some ⟨cp q, 0, none⟩) from hA.other 29 (by decide))) (fun _ hf => hf)
                  | 12, _ =>
                    obtain rfl := Option.some.inj ho
                    exact lstep_val hA (by decide) (q_nil rfl (hA.fact 11 (hA.dep 11 (by kernel_rfl) (by decide)))) (fun _ hf => hf)
                  | 13, _ =>
                    obtain rfl := Option.some.inj ho
                    exact lstep_val hA (by decide) (sr_fa_millraceref_cell_0 rfl (hA.fact 12 (hA.dep 12 (by kernel_rfl) (by decide)))) (fun _ hf => hf)
                  | 14, _ =>
                    obtain rfl := Option.some.inj ho
                    have hI := hA.no (fun h => hA.self (hA.closed 37 14 h (by kernel_rfl) (by decide)))
                    exact lstep_val hA (by decide) (q_loadI rfl (hA.fact 13 (hA.dep 13 (by kernel_rfl) (by decide))) (hI.sav.cell HCE.out.1 (fun e => by rcases e with e | e | e; (have h8 : N3 ≤ cp q := (HOW.out.1 _ e).1; have := HGB.out; omega); (have h8 : N3 ≤ cp q := (HOW.out.2.1 _ e).1; have := HGB.out; omega); (have h9 : cp q = g5 := e.2; have := HGB.out; omega)))) (fun _ hf => hf)
                  | 15, _ =>
                    obtain rfl := Option.some.inj ho
                    exact lstep_val hA (by decide) (mk_idxL0 rfl (hA.fact 10 (hA.dep 10 (by kernel_rfl) (by decide))) (hA.fact 14 (hA.dep 14 (by kernel_rfl) (by decide))) HFL.out.1) (fun _ hf => hf)
                  | 16, _ =>
                    obtain rfl := Option.some.inj ho
                    have hI := hA.no (fun h => hA.self (hA.closed 37 16 h (by kernel_rfl) (by decide)))
                    exact lstep_val hA (by decide) (mk_loadS rfl (hA.fact 15 (hA.dep 15 (by kernel_rfl) (by decide))) (hI.sav.cell HK5.out.1 (fun e => by rcases e with e | e | e; (have h8 : N3 ≤ g5 := (HOW.out.1 _ e).1; have := HGB.out.1; omega); (have h8 : N3 ≤ g5 := (HOW.out.2.1 _ e).1; have := HGB.out.1; omega); (cases e.1)))) (fun _ hf => hf)
                  | 17, _ =>
                    obtain rfl := Option.some.inj ho
                    exact lstep_val hA (by decide) (mk_move rfl (show ac.eval (.tmp 29) = .pointer (some ⟨cp q, 0, none⟩) from hA.other 29 (by decide))) (fun _ hf => hf)
                  | 18, _ =>
                    obtain rfl := Option.some.inj ho
                    exact lstep_val hA (by decide) (q_nil rfl (hA.fact 17 (hA.dep 17 (by kernel_rfl) (by decide)))) (fun _ hf => hf)
                  | 19, _ =>
                    obtain rfl := Option.some.inj ho
                    exact lstep_val hA (by decide) (sr_fa_millraceref_cell_2 rfl (hA.fact 18 (hA.dep 18 (by kernel_rfl) (by decide)))) (fun _ hf => hf)
                  | 20, _ =>
                    obtain rfl := Option.some.inj ho
                    have hI := hA.no (fun h => hA.self (hA.closed 37 20 h (by kernel_rfl) (by decide)))
                    exact lstep_val hA (by decide) (q_loadI rfl (hA.fact 19 (hA.dep 19 (by kernel_rfl) (by decide))) (hI.sav.cell HCE.out.2.1 (fun e => by rcases e with e | e | e; (have h8 : N3 ≤ cp q := (HOW.out.1 _ e).1; have := HGB.out; omega); (have h8 : N3 ≤ cp q := (HOW.out.2.1 _ e).1; have := HGB.out; omega); (have h9 : cp q = g5 := e.2; have := HGB.out; omega)))) (fun _ hf => hf)
                  | 21, _ =>
                    obtain rfl := Option.some.inj ho
                    have hI := hA.no (fun h => hA.self (hA.closed 37 21 h (by kernel_rfl) (by decide)))
                    exact lstep_new hA (by decide) (mk_slice1 rfl (hA.fact 20 (hA.dep 20 (by kernel_rfl) (by decide)))) ((Gr.refl _).alloc _) (fun b h => h.gr ((Gr.refl _).alloc _)) (fun f hf => ⟨_, hf, hI.sav.size, by simp⟩)
                  | 22, _ =>
                    obtain rfl := Option.some.inj ho
                    have hI := hA.no (fun h => hA.self (hA.closed 37 22 h (by kernel_rfl) (by decide)))
                    obtain ⟨g, hv, hge, hcg⟩ := (hA.fact 21 (hA.dep 21 (by kernel_rfl) (by decide)))
                    obtain ⟨v', w', hr, hrow, hgrow, hown, hold⟩ := hI.r1.app (g := g) (c := 1) hcg HLX.out.1
                    have sv : Sav (fun g => (Value.slice pa X.length pc).ownBlock = some g) w1 w' := .of_grown hgrow fun _ h => h
                    have hown' : ∀ q, v'.ownBlock = some q → (Value.slice pa X.length pc).ownBlock = some q ∨ wr.heap.size ≤ q := fun q hq => (hown q hq).imp id (Nat.le_trans hI.sav.size)
                    refine lstep_keep hA (by decide) (mk_app rfl (hA.fact 16 (hA.dep 16 (by kernel_rfl) (by decide))) hv hr) (fun b h => h.app1 HOW.out.2.2 sv hold) (fun f hf _ => ⟨by rw [show f 22 = v' from hf]; exact hrow, by rw [show f 22 = v' from hf]; exact hown'⟩) (fun j hj hu => ?_)
                    match j, hj, hu with
                    | 0, _, hu => exact hu
                    | 1, _, hu => exact hu
                    | 2, _, hu => exact hu
                    | 3, _, hu => exact hu
                    | 4, _, hu => exact hu
                    | 5, _, hu => exact hu
                    | 6, _, hu => exact hu
                    | 7, _, hu => exact hu
                    | 8, _, hu => exact hu
                    | 9, _, hu => exact hu
                    | 10, _, hu => exact hu
                    | 11, _, hu => exact hu
                    | 12, _, hu => exact hu
                    | 13, _, hu => exact hu
                    | 14, _, hu => exact hu
                    | 15, _, hu => exact hu
                    | 16, _, hu => exact hu
                    | 17, _, hu => exact hu
                    | 18, _, hu => exact hu
                    | 19, _, hu => exact hu
                    | 20, _, hu => exact hu
                    | 23, _, hu => exact hu
                    | 24, _, hu => exact hu
                    | 25, _, hu => exact hu
                    | 26, _, hu => exact hu
                    | 27, _, hu => exact hu
                    | 28, _, hu => exact hu
                    | 29, _, hu => exact hu
                    | 30, _, hu => exact hu
                    | 31, _, hu => exact hu
                    | 32, _, hu => exact hu
                    | 33, _, hu => exact hu
                    | 36, _, hu => exact hu
                    | 21, _, hu => obtain ⟨g', h0, h1, h2⟩ := hu; exact ⟨g', h0, h1, sv.cell h2 (fun e => by have := (HOW.out.1 g' e).2; omega)⟩
                    | 34, _, hu => obtain ⟨g', h0, h1, h2⟩ := hu; exact ⟨g', h0, h1, sv.cell h2 (fun e => by have := (HOW.out.1 g' e).2; omega)⟩
                    | 22, hj, _ => exact (hA.self hj).elim
                    | 35, hj, _ => exact (hA.self (hA.closed 35 22 hj (by kernel_rfl) (by decide))).elim
                    | 37, hj, _ => exact (hA.self (hA.closed 37 22 hj (by kernel_rfl) (by decide))).elim
                    | j + 38, hj, _ => exact absurd (hA.low _ hj) (by omega)
                  | 23, _ =>
                    obtain rfl := Option.some.inj ho
                    exact lstep_val hA (by decide) (mk_move rfl (show ac.eval (.tmp 27) = .slice (some ⟨g6, 0, none⟩) n n from hA.other 27 (by decide))) (fun _ hf => hf)
                  | 24, _ =>
                    obtain rfl := Option.some.inj ho
                    exact lstep_val hA (by decide) (mk_move rfl (show ac.eval (.tmp 29) = .pointer (some ⟨cp q, 0, none⟩) from hA.other 29 (by decide))) (fun _ hf => hf)
                  | 25, _ =>
                    obtain rfl := Option.some.inj ho
                    exact lstep_val hA (by decide) (q_nil rfl (hA.fact 24 (hA.dep 24 (by kernel_rfl) (by decide)))) (fun _ hf => hf)
                  | 26, _ =>
                    obtain rfl := Option.some.inj ho
                    exact lstep_val hA (by decide) (sr_fa_millraceref_cell_0 rfl (hA.fact 25 (hA.dep 25 (by kernel_rfl) (by decide)))) (fun _ hf => hf)
                  | 27, _ =>
                    obtain rfl := Option.some.inj ho
                    have hI := hA.no (fun h => hA.self (hA.closed 37 27 h (by kernel_rfl) (by decide)))
                    exact lstep_val hA (by decide) (q_loadI rfl (hA.fact 26 (hA.dep 26 (by kernel_rfl) (by decide))) (hI.sav.cell HCE.out.1 (fun e => by rcases e with e | e | e; (have h8 : N3 ≤ cp q := (HOW.out.1 _ e).1; have := HGB.out; omega); (have h8 : N3 ≤ cp q := (HOW.out.2.1 _ e).1; have := HGB.out; omega); (have h9 : cp q = g5 := e.2; have := HGB.out; omega)))) (fun _ hf => hf)
                  | 28, _ =>
                    obtain rfl := Option.some.inj ho
                    exact lstep_val hA (by decide) (mk_idxL0 rfl (hA.fact 23 (hA.dep 23 (by kernel_rfl) (by decide))) (hA.fact 27 (hA.dep 27 (by kernel_rfl) (by decide))) HFL.out.1) (fun _ hf => hf)
                  | 29, _ =>
                    obtain rfl := Option.some.inj ho
                    have hI := hA.no (fun h => hA.self (hA.closed 37 29 h (by kernel_rfl) (by decide)))
                    exact lstep_val hA (by decide) (mk_loadS rfl (hA.fact 28 (hA.dep 28 (by kernel_rfl) (by decide))) (hI.sav.cell HK5.out.2 (fun e => by rcases e with e | e | e; (have h8 : N3 ≤ g6 := (HOW.out.1 _ e).1; have := HGB.out.2.1; omega); (have h8 : N3 ≤ g6 := (HOW.out.2.1 _ e).1; have := HGB.out.2.1; omega); (exact HGB.out.2.2.1 e.2.symm)))) (fun _ hf => hf)
                  | 30, _ =>
                    obtain rfl := Option.some.inj ho
                    exact lstep_val hA (by decide) (mk_move rfl (show ac.eval (.tmp 29) = .pointer (some ⟨cp q, 0, none⟩) from hA.other 29 (by decide))) (fun _ hf => hf)
                  | 31, _ =>
                    obtain rfl := Option.some.inj ho
                    exact lstep_val hA (by decide) (q_nil rfl (hA.fact 30 (hA.dep 30 (by kernel_rfl) (by decide)))) (fun _ hf => hf)
                  | 32, _ =>
                    obtain rfl := Option.some.inj ho
                    exact lstep_val hA (by decide) (sr_fa_millraceref_cell_3 rfl (hA.fact 31 (hA.dep 31 (by kernel_rfl) (by decide)))) (fun _ hf => hf)
                  | 33, _ =>
                    obtain rfl := Option.some.inj ho
                    have hI := hA.no (fun h => hA.self (hA.closed 37 33 h (by kernel_rfl) (by decide)))
                    exact lstep_val hA (by decide) (q_loadI rfl (hA.fact 32 (hA.dep 32 (by kernel_rfl) (by decide))) (hI.sav.cell HCE.out.2.2 (fun e => by rcases e with e | e | e; (have h8 : N3 ≤ cp q := (HOW.out.1 _ e).1; have := HGB.out; omega); (have h8 : N3 ≤ cp q := (HOW.out.2.1 _ e).1; have := HGB.out; omega); (have h9 : cp q = g5 := e.2; have := HGB.out; omega)))) (fun _ hf => hf)
                  | 34, _ =>
                    obtain rfl := Option.some.inj ho
                    have hI := hA.no (fun h => hA.self (hA.closed 35 34 (hA.closed 37 35 h (by kernel_rfl) (by decide)) (by kernel_rfl) (by decide)))
                    exact lstep_new hA (by decide) (mk_slice1 rfl (hA.fact 33 (hA.dep 33 (by kernel_rfl) (by decide)))) ((Gr.refl _).alloc _) (fun b h => h.gr ((Gr.refl _).alloc _)) (fun f hf => ⟨_, hf, hI.sav.size, by simp⟩)
                  | 35, _ =>
                    obtain rfl := Option.some.inj ho
                    have hI := hA.no (fun h => hA.self (hA.closed 37 35 h (by kernel_rfl) (by decide)))
                    obtain ⟨g, hv, hge, hcg⟩ := (hA.fact 34 (hA.dep 34 (by kernel_rfl) (by decide)))
                    obtain ⟨v', w', hr, hrow, hgrow, hown, hold⟩ := hI.r2.app (g := g) (c := 1) hcg HLX.out.2
                    have sv : Sav (fun g => (Value.slice ta Y.length tc).ownBlock = some g) w1 w' := .of_grown hgrow fun _ h => h
                    have hown' : ∀ q, v'.ownBlock = some q → (Value.slice ta Y.length tc).ownBlock = some q ∨ wr.heap.size ≤ q := fun q hq => (hown q hq).imp id (Nat.le_trans hI.sav.size)
                    have h22 := hA.fact 22 (hA.dep 22 (by kernel_rfl) (by decide))
                    have h22' : IntRow w1 (valOf _ ac 22) (X ++ [du]) ∧ ∀ g, (valOf _ ac 22).ownBlock = some g → (Value.slice pa X.length pc).ownBlock = some g ∨ wr.heap.size ≤ g := h22
                    have hap : ∀ q, (valOf _ ac 22).ownBlock = some q → ¬ (Value.slice ta Y.length tc).ownBlock = some q := fun q e e2 => by
                      rcases h22'.2 q e with h | h
                      · exact HOW.out.2.2 q h e2
                      · have := (HOW.out.2.1 q e2).2; omega
                    refine lstep_keep hA (by decide) (mk_app rfl (hA.fact 29 (hA.dep 29 (by kernel_rfl) (by decide))) hv hr) (fun b h => h.app2 HOW.out.2.2 sv hold) (fun f hf hL => ⟨by rw [show f 35 = v' from hf]; exact hrow, by rw [show f 35 = v' from hf]; exact hown', fun g e e2 => ?_⟩) (fun j hj hu => ?_)
                    · rw [show f 35 = v' from hf] at e
                      rw [hL 22 (hA.dep 22 (by kernel_rfl) (by decide))] at e2
                      rcases hown g e with h | h
                      · exact hap g e2 h
                      · have := Row.lt h22'.1 e2; omega
                    match j, hj, hu with
                    | 0, _, hu => exact hu
                    | 1, _, hu => exact hu
                    | 2, _, hu => exact hu
                    | 3, _, hu => exact hu
                    | 4, _, hu => exact hu
                    | 5, _, hu => exact hu
                    | 6, _, hu => exact hu
                    | 7, _, hu => exact hu
                    | 8, _, hu => exact hu
                    | 9, _, hu => exact hu
                    | 10, _, hu => exact hu
                    | 11, _, hu => exact hu
                    | 12, _, hu => exact hu
                    | 13, _, hu => exact hu
                    | 14, _, hu => exact hu
                    | 15, _, hu => exact hu
                    | 16, _, hu => exact hu
                    | 17, _, hu => exact hu
                    | 18, _, hu => exact hu
                    | 19, _, hu => exact hu
                    | 20, _, hu => exact hu
                    | 23, _, hu => exact hu
                    | 24, _, hu => exact hu
                    | 25, _, hu => exact hu
                    | 26, _, hu => exact hu
                    | 27, _, hu => exact hu
                    | 28, _, hu => exact hu
                    | 29, _, hu => exact hu
                    | 30, _, hu => exact hu
                    | 31, _, hu => exact hu
                    | 32, _, hu => exact hu
                    | 33, _, hu => exact hu
                    | 36, _, hu => exact hu
                    | 21, _, hu => obtain ⟨g', h0, h1, h2⟩ := hu; exact ⟨g', h0, h1, sv.cell h2 (fun e => by have := (HOW.out.2.1 g' e).2; omega)⟩
                    | 34, _, hu => obtain ⟨g', h0, h1, h2⟩ := hu; exact ⟨g', h0, h1, sv.cell h2 (fun e => by have := (HOW.out.2.1 g' e).2; omega)⟩
                    | 22, _, _ => exact ⟨Row.sav h22'.1 sv hap, h22'.2⟩
                    | 35, hj, _ => exact (hA.self hj).elim
                    | 37, hj, _ => exact (hA.self (hA.closed 37 35 hj (by kernel_rfl) (by decide))).elim
                    | j + 38, hj, _ => exact absurd (hA.low _ hj) (by omega)
                  | 36, _ =>
                    obtain rfl := Option.some.inj ho
                    exact lstep_val hA (by decide) (mk_idxL0 rfl (hA.fact 0 (hA.dep 0 (by kernel_rfl) (by decide))) (hA.fact 4 (hA.dep 4 (by kernel_rfl) (by decide))) HFL.out.1) (fun _ hf => hf)
                  | 37, _ =>
                    obtain rfl := Option.some.inj ho
                    have hF := hA.no hA.self
                    have h22 := hA.fact 22 (hA.dep 22 (by kernel_rfl) (by decide))
                    have h22' : IntRow w1 (valOf _ ac 22) (X ++ [du]) ∧ ∀ g, (valOf _ ac 22).ownBlock = some g → (Value.slice pa X.length pc).ownBlock = some g ∨ wr.heap.size ≤ g := h22
                    have h35 := hA.fact 35 (hA.dep 35 (by kernel_rfl) (by decide))
                    have h35' : IntRow w1 (valOf _ ac 35) (Y ++ [th]) ∧ (∀ g, (valOf _ ac 35).ownBlock = some g → (Value.slice ta Y.length tc).ownBlock = some g ∨ wr.heap.size ≤ g) ∧ ∀ g, (valOf _ ac 35).ownBlock = some g → (valOf _ ac 22).ownBlock ≠ some g := h35
                    obtain ⟨l1, l2, l3, l4, l5, l6, l7, l8⟩ := HGB.out
                    have n1' : ∀ q, q = g5 → (Value.slice pa X.length pc).ownBlock ≠ some q := fun q e e2 => by have := (HOW.out.1 q e2).1; omega
                    have n2' : ∀ q, q = g5 → (Value.slice ta Y.length tc).ownBlock ≠ some q := fun q e e2 => by have := (HOW.out.2.1 q e2).1; omega
                    obtain ⟨z22, hzz, hr22⟩ := (show ∀ z, IntRow w1 z (X ++ [du]) → ∃ y, z = y ∧ IntRow w1 y (X ++ [du]) from fun z h => ⟨z, rfl, h⟩) _ h22'.1
                    have k5 : Sav (fun q => q = g5) w1 (w1.setCell ⟨g5, fl, none⟩ z22) := .set g5 fl z22
                    have h51 : ∀ l, l < n → w1.cell? ⟨g5, l, none⟩ = some (pv l) := fun l hl => hF.sav.cell (HLS.out.1.cell l hl) (fun e => by rcases e with e | e | e; (have h8 : N3 ≤ g5 := (HOW.out.1 _ e).1; have := HGB.out.1; omega); (have h8 : N3 ≤ g5 := (HOW.out.2.1 _ e).1; have := HGB.out.1; omega); (cases e.1))
                    have h52 : ∀ l, l < n → w1.frozen? ⟨g5, l, none⟩ = false := fun l hl => hF.sav.frozen (p := ⟨g5, l, none⟩) (cell_lt (HLS.out.1.cell l hl)) (HLS.out.1.free l hl) (fun e => by rcases e with e | e | e; (have h8 : N3 ≤ g5 := (HOW.out.1 _ e).1; have := HGB.out.1; omega); (have h8 : N3 ≤ g5 := (HOW.out.2.1 _ e).1; have := HGB.out.1; omega); (cases e.1))
                    obtain ⟨za, zc, hz⟩ := IntRow.shape hr22
                    refine lstep_setc hA rfl rfl (sr_store rfl (hA.fact 36 (hA.dep 36 (by kernel_rfl) (by decide))) hzz hz (h51 fl HFL.out.1) (h52 fl HFL.out.1)) (hF.set (n1' g5 rfl) (n2' g5 rfl) _ _) (fun f hL l hl => ?_) (fun j hj hu => ?_)
                    · rw [(hL 22 (hA.dep 22 (by kernel_rfl) (by decide))).trans hzz]
                      refine ⟨?_, by simpa using h52 l hl⟩
                      by_cases e : l = fl
                      · subst e; rw [updA_at]; exact World.cell?_setCell_same _ _ _ (h51 l hl)
                      · rw [updA_ne _ _ e, World.cell?_setCell_other _ _ _ _ (fun e2 => e (by injection e2 with _ e3; exact e3.symm))]; exact h51 l hl
                    match j, hj, hu with
                    | 0, _, hu => exact hu
                    | 1, _, hu => exact hu
                    | 2, _, hu => exact hu
                    | 3, _, hu => exact hu
                    | 4, _, hu => exact hu
                    | 5, _, hu => exact hu
                    | 6, _, hu => exact hu
                    | 7, _, hu => exact hu
                    | 8, _, hu => exact hu
                    | 9, _, hu => exact hu
                    | 10, _, hu => exact hu
                    | 11, _, hu => exact hu
                    | 12, _, hu => exact hu
                    | 13, _, hu => exact hu
                    | 14, _, hu => exact hu
                    | 15, _, hu => exact hu
                    | 16, _, hu => exact hu
                    | 17, _, hu => exact hu
                    | 18, _, hu => exact hu
                    | 19, _, hu => exact hu
                    | 20, _, hu => exact hu
                    | 23, _, hu => exact hu
                    | 24, _, hu => exact hu
                    | 25, _, hu => exact hu
                    | 26, _, hu => exact hu
                    | 27, _, hu => exact hu
                    | 28, _, hu => exact hu
                    | 29, _, hu => exact hu
                    | 30, _, hu => exact hu
                    | 31, _, hu => exact hu
                    | 32, _, hu => exact hu
                    | 33, _, hu => exact hu
                    | 36, _, hu => exact hu
                    | 21, _, hu => obtain ⟨g', h0, h1, h2⟩ := hu; exact ⟨g', h0, h1, k5.cell h2 (fun e => by have h9 : g' = g5 := e; omega)⟩
                    | 34, _, hu => obtain ⟨g', h0, h1, h2⟩ := hu; exact ⟨g', h0, h1, k5.cell h2 (fun e => by have h9 : g' = g5 := e; omega)⟩
                    | 22, _, _ => exact ⟨Row.sav h22'.1 k5 (fun b e e2 => (h22'.2 b e).elim (n1' b e2) (fun h => by have h9 : b = g5 := e2; omega)), h22'.2⟩
                    | 35, _, _ => exact ⟨Row.sav h35'.1 k5 (fun b e e2 => (h35'.2.1 b e).elim (n2' b e2) (fun h => by have h9 : b = g5 := e2; omega)), h35'.2⟩
                    | 37, hj, _ => exact (hA.self hj).elim
                    | j + 38, hj, _ => exact absurd (hA.low _ hj) (by omega)
                  | k + 38, hk => exact absurd (show k + 38 < 38 from hk) (by omega)
                · intro vs w5 hI hv
                  have hsv := hI.sav
                  have h22 : IntRow w5 (vs 22) (X ++ [du]) ∧ ∀ g, (vs 22).ownBlock = some g → (Value.slice pa X.length pc).ownBlock = some g ∨ wr.heap.size ≤ g := hv 22 (by omega)
                  have h35 : IntRow w5 (vs 35) (Y ++ [th]) ∧ (∀ g, (vs 35).ownBlock = some g → (Value.slice ta Y.length tc).ownBlock = some g ∨ wr.heap.size ≤ g) ∧ ∀ g, (vs 35).ownBlock = some g → (vs 22).ownBlock ≠ some g := hv 35 (by omega)
                  have h37 : ∀ l, l < n → w5.cell? ⟨g5, l, none⟩ = some (updA pv fl (vs 22) l) ∧ w5.frozen? ⟨g5, l, none⟩ = false := hv 37 (by omega)
                  have v5 : vs 5 = .slice (some ⟨g6, 0, none⟩) n n := hv 5 (by omega)
                  have v9 : vs 9 = .int .i64 (fl : Int) := hv 9 (by omega)
                  clear hv hI
                  simp only [putN, List.drop_succ_cons, List.drop_zero, List.getElem?_cons_succ, List.getElem?_cons_zero]
                  generalize vs 22 = z22 at *
                  generalize vs 35 = z35 at *
                  generalize vs 5 = z5 at *
                  generalize vs 9 = z9 at *
                  subst v5
                  subst v9
                  obtain ⟨ra, rc, er⟩ := IntRow.shape h35.1
                  rw [show (Y ++ [th]).length = Y.length + 1 from by simp] at er
                  subst er
                  have hnb : ∀ g, g < N3 → g ≠ g5 → ¬ ((Value.slice pa X.length pc).ownBlock = some g ∨ (Value.slice ta Y.length tc).ownBlock = some g ∨ (true = true ∧ g = g5)) := fun g h1 h2 h3 => by
                    rcases h3 with h3 | h3 | h3
                    · have := (HOW.out.1 g h3).1; omega
                    · have := (HOW.out.2.1 g h3).1; omega
                    · exact h2 h3.2
                  obtain ⟨l1, l2, l3, l4, l5, l6, l7, l8⟩ := HGB.out
                  have hg6 := hnb g6 l2 (fun e => l3 e.symm)
                  have d0 := hsv.cell HK5.out.2 hg6
                  have d1 := hsv.frozen (p := ⟨g6, fl, none⟩) (cell_lt HK5.out.2) (HLS.out.2.1.free fl HFL.out.1) hg6
                  have HGW : Hid (Gr w w5 ∧ N3 ≤ w5.heap.size) := Lib.hid ⟨Sav.gr HG.out.1 hsv (fun g e => by
                    rcases e with e | e | e
                    · have := (HOW.out.1 g e).1; omega
                    · have := (HOW.out.2.1 g e).1; omega
                    · rw [e.2]; omega), Nat.le_trans l6 hsv.size⟩
                  have hL5 := lists_put HLS.out.1 HFL.out.1 l6 h22.1 hsv (fun j b hj hne e e2 => by
                    rcases e2 with e2 | e2 | e2
                    · rw [← HPV.out] at e2; exact HLS.out.1.inj j fl b hj HFL.out.1 hne e e2
                    · rw [← HTV.out] at e2; exact HLS.out.2.2 j fl b hj HFL.out.1 e e2
                    · have := HLS.out.1.own j b hj e; omega) (by rw [HPV.out]; exact h22.2) (fun j hj => (h37 j hj).1) (fun j hj => (h37 j hj).2)
                  have k6 : Sav (fun q => q = g6) w5 (w5.setCell ⟨g6, fl, none⟩ (.slice ra (Y.length + 1) rc)) := .set g6 fl (.slice ra (Y.length + 1) rc)
                  have ka : Sav (fun q => (Value.slice pa X.length pc).ownBlock = some q ∨ (Value.slice ta Y.length tc).ownBlock = some q ∨ (true = true ∧ q = g5) ∨ q = g6) wr (w5.setCell ⟨g6, fl, none⟩ (.slice ra (Y.length + 1) rc)) :=
                    (hsv.mono fun q e => e.imp id (fun e => e.imp id .inl)).then (k6.mono fun q e => .inr (.inr (.inr e)))
                  have hlo : ∀ g, ((Value.slice pa X.length pc).ownBlock = some g ∨ (Value.slice ta Y.length tc).ownBlock = some g ∨ (true = true ∧ g = g5) ∨ g = g6) → N3 ≤ g ∨ g = g5 ∨ g = g6 := fun g e => by
                    rcases e with e | e | e | e
                    · exact .inl (HOW.out.1 g e).1
                    · exact .inl (HOW.out.2.1 g e).1
                    · exact .inr (.inl e.2)
                    · exact .inr (.inr e)
                  have hL6 := lists_put HLS.out.2.1 HFL.out.1 l6 (Row.sav h35.1 k6 (fun b e e2 => by
                    rcases h35.2.1 b e with h | h
                    · have := (HOW.out.2.1 b h).1; omega
                    · omega)) ka (fun j b hj hne e e2 => by
                    have := HLS.out.2.1.own j b hj e
                    rcases e2 with e2 | e2 | e2 | e2
                    · rw [← HPV.out] at e2; exact HLS.out.2.2 fl j b HFL.out.1 hj e2 e
                    · rw [← HTV.out] at e2; exact HLS.out.2.1.inj j fl b hj HFL.out.1 hne e e2
                    · have := e2.2; omega
                    · omega) (by rw [HTV.out]; exact h35.2.1) (fun j hj => by
                    by_cases e : j = fl
                    · subst e; rw [updA_at]; exact World.cell?_setCell_same _ _ _ d0
                    · rw [updA_ne _ _ e, World.cell?_setCell_other _ _ _ _ (fun e2 => e (by injection e2 with _ e3; exact e3.symm))]
                      exact hsv.cell (HLS.out.2.1.cell j hj) hg6) (fun j hj => by simpa using hsv.frozen (p := ⟨g6, j, none⟩) (cell_lt (HLS.out.2.1.cell j hj)) (HLS.out.2.1.free j hj) hg6)
                  have hL5b := hL5.sav k6 l3 (fun i b hi e e2 => by have := hL5.own i b hi e; omega)
                  obtain ⟨y1, y2, y3, y4, y5⟩ := HX0.out
                  have HL56 : Hid (Lists (w5.setCell ⟨g6, fl, none⟩ (.slice ra (Y.length + 1) rc)) g5 n (updA pv fl z22) (fun i => gather L (fun q => (L.getD q .zero).due) i (q + 1)) N3 ∧ Lists (w5.setCell ⟨g6, fl, none⟩ (.slice ra (Y.length + 1) rc)) g6 n (updA tv fl (.slice ra (Y.length + 1) rc)) (fun i => gather L (rrun L T T) i (q + 1)) N3 ∧ ∀ i j g, i < n → j < n → (updA pv fl z22 i).ownBlock = some g → (updA tv fl (.slice ra (Y.length + 1) rc) j).ownBlock ≠ some g) := Lib.hid (by
                    rw [show (fun i => gather L (fun q => (L.getD q .zero).due) i (q + 1)) = updA (fun i => gather L (fun q => (L.getD q .zero).due) i q) fl (X ++ [du]) from by rw [gather_upd, y4, y2, y1],
                      show (fun i => gather L (rrun L T T) i (q + 1)) = updA (fun i => gather L (rrun L T T) i q) fl (Y ++ [th]) from by rw [gather_upd, y5, y3, y1]]
                    refine ⟨hL5b, hL6, fun i j g hi hj e e2 => ?_⟩
                    have hlp : ∀ k, k < n → ∀ g, (pv k).ownBlock = some g → g < wr.heap.size := fun k hk g e => Row.lt (HLS.out.1.row k hk) e
                    have hlt : ∀ k, k < n → ∀ g, (tv k).ownBlock = some g → g < wr.heap.size := fun k hk g e => Row.lt (HLS.out.2.1.row k hk) e
                    have e5 : (pv i).ownBlock = some g ∨ (i = fl ∧ z22.ownBlock = some g ∧ wr.heap.size ≤ g) := by
                      by_cases h : i = fl
                      · subst h
                        rw [updA_at] at e
                        rcases h22.2 g e with h | h
                        · rw [← HPV.out] at h; exact .inl h
                        · exact .inr ⟨rfl, e, h⟩
                      · rw [updA_ne _ _ h] at e; exact .inl e
                    have e6 : (tv j).ownBlock = some g ∨ ((Value.slice ra (Y.length + 1) rc).ownBlock = some g ∧ wr.heap.size ≤ g) := by
                      by_cases h : j = fl
                      · subst h
                        rw [updA_at] at e2
                        rcases h35.2.1 g e2 with h | h
                        · rw [← HTV.out] at h; exact .inl h
                        · exact .inr ⟨e2, h⟩
                      · rw [updA_ne _ _ h] at e2; exact .inl e2
                    rcases e5 with e5 | ⟨e5, e7, e8⟩
                    · rcases e6 with e6 | ⟨e6, e9⟩
                      · exact HLS.out.2.2 i j g hi hj e5 e6
                      · have := hlp i hi g e5; omega
                    · rcases e6 with e6 | ⟨e6, e9⟩
                      · have := hlt j hj g e6; omega
                      · exact h35.2.2 g e6 e7)
                  have HC6 := Lib.hid (HC.out.sav ka (fun g e e2 => by have := hlo g e2; have := HLO.out.2.1 g e; omega) (fun q' hq' e2 => by have := hlo _ e2; have := HLO.out.1 q' (by rw [← HLL.out.1]; exact hq'); omega))
                  have HS6 : Hid (IntRow (w5.setCell ⟨g6, fl, none⟩ (.slice ra (Y.length + 1) rc)) (.slice sa T sc) (upTo (rsent L T) T) ∧ ∀ g, (Value.slice sa T sc).ownBlock = some g → (M2 ≤ g ∧ g ≠ g5 ∧ g ≠ g6) ∧ g < N3) := Lib.hid ⟨Row.sav HSE.out.1 ka (fun g e e2 => by have := hlo g e2; have := HSE.out.2 g e; omega), HSE.out.2⟩
                  have HG6 : Hid (Gr w (w5.setCell ⟨g6, fl, none⟩ (.slice ra (Y.length + 1) rc)) ∧ N3 ≤ (w5.setCell ⟨g6, fl, none⟩ (.slice ra (Y.length + 1) rc)).heap.size) := Lib.hid ⟨Sav.gr HGW.out.1 k6 (fun q e => by omega), Nat.le_trans HGW.out.2 k6.size⟩
                  have f0 : (0 : Int) ≤ (fl : Int) := by omega
                  have f1 : (fl : Int) < (n : Int) := by have := HFL.out.1; omega
                  clear hlo ka k6 hL5 hL5b hL6 hg6 hnb h22 h35 h37 hsv l1 l2 l3 l4 l5 l6 l7 l8 y1 y2 y3 y4 y5
                  go_wp2
                  go_roundw
                  case measure => simp [intOf]; omega
                  case rel => exact ⟨q + 1, updA pv fl z22, updA tv fl (.slice ra (Y.length + 1) rc), by omega, by go_num, HC6, HL56, HS6, HG6⟩
              · obtain rfl : NN = q := by omega
                have r1 : ¬ (NN : Int) < (NN : Int) := by omega
                go_wp2
                refine bodyPost_ret (v := .tuple #[.slice sa T sc, .slice (some ⟨g5, 0, none⟩) n n, .slice (some ⟨g6, 0, none⟩) n n]) (by simp [results, Tryd.results6, go_sem]) rfl ?_
                have hh := HLL.out.2
                have hT := HPn.out.2.1
                have hn := HPn.out.1
                refine ⟨.slice sa T sc, g5, g6, pv, tv, by rw [hn], ?_, fun i hi => ?_, fun i hi => ?_, HG.out.1⟩
                · rw [hT, ← upTo_congr (fun t _ => (show rsent L T t = P.best t by have h := hh.sent t; rw [hT, PlanP.best_tidy] at h; exact h))]
                  exact HSE.out.1
                · have hi' := hi
                  rw [hn] at hi'
                  have h := hh.gathers (f := fun q => (L.getD q .zero).due) (g := P.D) (fun i k hi hk => hh.due i k hi hk) hi
                  refine ⟨HLS.out.1.cell i hi', ?_⟩
                  have hr := (HLS.out.1.row i hi').ints
                  rw [← HLL.out.1, h] at hr
                  exact hr
                · have hi' := hi
                  rw [hn] at hi'
                  have h := hh.gathers (f := rrun L T T) (g := (P.run P.T).2) (fun i k hi hk => by have h2 := hh.rel P.T i k hi hk; rw [hT] at h2 ⊢; exact h2) hi
                  refine ⟨HLS.out.2.1.cell i hi', ?_⟩
                  have hr := (HLS.out.2.1.row i hi').ints
                  rw [← HLL.out.1, h] at hr
                  exact hr
end Go.Proofs.YtfdmmfjheiiiiaaDoor

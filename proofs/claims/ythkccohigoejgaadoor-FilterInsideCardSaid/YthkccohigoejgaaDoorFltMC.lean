/-
  The program's several, and Meant of any filter.
-/
import Derived.Test.YthkccohigoejgaaDoorFltMB
import Derived.Test.YthkccohigoejgaaDoorRegL
namespace Go.Proofs.YthkccohigoejgaaDoor
open Go Go.RowKit

section
variable {ev : Operand → Value} {o : Oper} {w : World} {x y : Operand} {u : Value}
theorem m_move (ho : o.op = .move x) (h : ev x = u) : (execOp ev o).run Tryd.prog w = .ok (.value u) w := by simp [execOp, ho, h, go_sem]
theorem m_item {q : Nat} {X : Itm} (ho : o.op = .load 23 x) (h : ev x = .pointer (some ⟨q, 0, none⟩)) (hb : HB w q #[.int .i64 X.t, .int .i64 X.len, .int .i64 X.flow, .int .i64 X.band, .int .i64 X.mark] 23) : (execOp ev o).run Tryd.prog w = .ok (.value (.agg #[.int .i64 X.t, .int .i64 X.len, .int .i64 X.flow, .int .i64 X.band, .int .i64 X.mark])) w := by
  have d0 := hb.c 0 (v := .int .i64 X.t) rfl
  have d1 := hb.c 1 (v := .int .i64 X.len) rfl
  have d2 := hb.c 2 (v := .int .i64 X.flow) rfl
  have d3 := hb.c 3 (v := .int .i64 X.band) rfl
  have d4 := hb.c 4 (v := .int .i64 X.mark) rfl
  simp [execOp, ho, h, d0, d1, d2, d3, d4, go_sem]
theorem m_fa1 {q : Nat} (ho : o.op = .fieldAddr 66 x 1) (h : ev x = .pointer (some ⟨q, 0, none⟩)) : (execOp ev o).run Tryd.prog w = .ok (.value (.pointer (some ⟨q, 1, none⟩))) w := by simp [execOp, ho, h, go_sem]
theorem m_loadB {ad : Addr} {b : Bool} (ho : o.op = .load 4 x) (h : ev x = .pointer (some ad)) (hc : w.cell? ad = some (.bool b)) : (execOp ev o).run Tryd.prog w = .ok (.value (.bool b)) w := by simp [execOp, ho, h, hc, go_sem]
theorem m_eqlB {b c : Bool} (ho : o.op = .binOp .eql 4 x y 4) (h : ev x = .bool b) (k : ev y = .bool c) : (execOp ev o).run Tryd.prog w = .ok (.value (.bool (b == c))) w := by simp [execOp, ho, h, k, go_sem]
theorem m_notB {b : Bool} (ho : o.op = .unOp .not 4 x) (h : ev x = .bool b) : (execOp ev o).run Tryd.prog w = .ok (.value (.bool (!b))) w := by simp [execOp, ho, h, go_sem]
end
set_option maxRecDepth 100000 in
set_option maxHeartbeats 8000000 in
theorem mean_several (x : Itm) (d : Nat) (s : Value) (vs : List Value) (l : List Flt) (o : Bool) (w : World) (row : IfRow w s vs) (hl : vs.length = l.length) (h0 : 0 < l.length) (h1 : l.length ≤ 2001)
    (hk : ∀ i, i < l.length → (∃ ti yi, vs.getD i .nilIface = .iface ti yi) ∧ MeanF x (vs.getD i .nilIface) (meantF x d (l.getD i .any)) w) :
    Calls Tryd.prog 95 #[.agg #[s, .bool o], x.val] w fun E w' => E = .returned (.bool (meantF x (d + 1) (.many l o))) ∧ Gr w w' := by
  obtain ⟨g, off, cap, rfl, hc1, hc2, hcell⟩ := Row.cells row (by rw [hl]; exact h0)
  obtain ⟨n, hn⟩ : ∃ n, n = l.length := ⟨_, rfl⟩
  rw [hl] at hc1 ⊢
  rw [← hn] at hc1 h0 h1 hk ⊢
  have HN := Lib.hid hn
  have HL := Lib.hid (hl.trans hn.symm)
  have HK := Lib.hid hk
  have HCELL : Hid (∀ i, i < n → w.cell? ⟨g, off + i, none⟩ = some (vs.getD i .nilIface)) := Lib.hid (fun i hi => hcell i _ (by rw [List.getD_eq_getElem?_getD, List.getElem?_eq_getElem (by rw [hl, ← hn]; exact hi)]; rfl))
  clear hk hcell row hl hn
  have n0 : (0 : Int) < (n : Int) := by omega
  have n1 : (n : Int) ≤ 2001 := by omega
  unfold Itm.val
  go_enter Tryd.func95, Tryd.ntmps95
  go_upto_region 1 with fail
  obtain ⟨q, hq⟩ : ∃ q, q = w.heap.size := ⟨_, rfl⟩
  obtain ⟨w1, hw1⟩ : ∃ w1, w1 = (w.alloc (.cells #[.slice (some ⟨g, off, none⟩) n cap, .bool o] 66)).alloc (.cells #[.int .i64 x.t, .int .i64 x.len, .int .i64 x.flow, .int .i64 x.band, .int .i64 x.mark] 23) := ⟨_, rfl⟩
  have HW1 : Hid (HB w1 q #[.slice (some ⟨g, off, none⟩) n cap, .bool o] 66 ∧ HB w1 (q + 1) #[.int .i64 x.t, .int .i64 x.len, .int .i64 x.flow, .int .i64 x.band, .int .i64 x.mark] 23 ∧ Gr w w1) := Lib.hid (by
    rw [hw1, hq]
    exact ⟨(HB.new _ _ _).gr ((Gr.refl _).alloc _), by simpa using HB.new (w.alloc (.cells #[.slice (some ⟨g, off, none⟩) n cap, .bool o] 66)) #[.int .i64 x.t, .int .i64 x.len, .int .i64 x.flow, .int .i64 x.band, .int .i64 x.mark] 23, ((Gr.refl w).alloc _).alloc _⟩)
  rw [← hw1, ← hq]
  clear hw1 hq
  have c0 : w1.cell? ⟨q, 0, none⟩ = some (.slice (some ⟨g, off, none⟩) n cap) := HW1.out.1.c 0 rfl
  go_wp2
  go_loopw [10] (fun s10 wr => ∃ i : Nat, i ≤ n ∧ s10 = .int .i64 (i : Int) ∧ Hid (NoneF x d l o i) ∧ Hid (Gr w1 wr)) (fun s _ => n - (intOf s).toNat)
  case atStart => exact ⟨0, Nat.zero_le _, rfl, Lib.hid (NoneF.zero x d l o), Lib.hid (Gr.refl _)⟩
  case round =>
    obtain ⟨i, hi, rfl, HNO, HG⟩ := hrel
    have i0 : (0 : Int) ≤ (i : Int) := by omega
    by_cases hlt : i < n
    · have i1 : (i : Int) < (n : Int) := by omega
      obtain ⟨⟨ti, yi, hv⟩, hmean⟩ := HK.out i hlt
      have hce : wr.cell? ⟨g, off + i, none⟩ = some (.iface ti yi) := by rw [← hv]; exact (HW1.out.2.2.trans HG.out).cell (HCELL.out i hlt)
      rw [hv] at hmean
      clear hv
      obtain ⟨b, hb⟩ : ∃ b, b = meantF x d (l.getD i .any) := ⟨_, rfl⟩
      rw [← hb] at hmean
      obtain ⟨f, r, hm, hcc⟩ := hmean
      have HM := Lib.hid hm
      have HC := Lib.hid hcc
      have HBV := Lib.hid hb.symm
      have HIL : Hid (i < l.length) := Lib.hid (by rw [← HN.out]; exact hlt)
      clear hm hcc hb
      go_upto_region 4 with fail
      refine wp_region_gr (n := 5) [Fg.eq (.iface ti yi), Fg.eq (.agg #[.int .i64 x.t, .int .i64 x.len, .int .i64 x.flow, .int .i64 x.band, .int .i64 x.mark]), Fg.eq (.bool b), Fg.eq (.pointer (some ⟨q, 1, none⟩)), Fg.eq (.bool o)] [14, 15, 16, 17, 18] (by kernel_rfl) (by kernel_rfl) (by kernel_rfl) ?_ ?_
      · intro L i' o' ac w1' hi' ho hA
        have hgr : Gr wr w1' := (Gr.refl wr).drew.trans hA.gr
        match i', hi' with
        | 0, _ =>
          obtain rfl := Option.some.inj ho
          exact gstep_val (m_move rfl (show ac.eval (.tmp 6) = .iface ti yi from hA.other 6 (by decide))) rfl
        | 1, _ =>
          obtain rfl := Option.some.inj ho
          exact gstep_val (m_item rfl (show ac.eval (.tmp 3) = .pointer (some ⟨q + 1, 0, none⟩) from hA.other 3 (by decide)) ((HW1.out.2.1.gr HG.out).gr hgr)) rfl
        | 2, _ =>
          obtain rfl := Option.some.inj ho
          exact gstep_call (inv1_run HM.out rfl (hA.fact 0 (hA.dep 0 (by kernel_rfl) (by decide))) (hA.fact 1 (hA.dep 1 (by kernel_rfl) (by decide)))) ((HC.out _ ((HW1.out.2.2.trans HG.out).trans hgr)).mono (fun e w' ⟨h1, h2⟩ => ⟨_, h1, h2, rfl⟩))
        | 3, _ =>
          obtain rfl := Option.some.inj ho
          exact gstep_val (m_fa1 rfl (show ac.eval (.tmp 2) = .pointer (some ⟨q, 0, none⟩) from hA.other 2 (by decide))) rfl
        | 4, _ =>
          obtain rfl := Option.some.inj ho
          exact gstep_val (m_loadB rfl (hA.fact 3 (hA.dep 3 (by kernel_rfl) (by decide))) (((HW1.out.1.gr HG.out).gr hgr).c 1 rfl)) rfl
        | k + 5, hk => exact absurd (show k + 5 < 5 from hk) (by omega)
      · intro vs5 w5 hg5 hv
        have HG5 := Lib.hid (HG.out.trans ((Gr.refl wr).drew.trans hg5))
        have v2 : vs5 2 = .bool b := hv 2 (by omega)
        have v4 : vs5 4 = .bool o := hv 4 (by omega)
        have k1 : w5.cell? ⟨q, 1, none⟩ = some (.bool o) := (HW1.out.1.gr HG5.out).c 1 rfl
        clear hv hg5
        simp only [putN, List.drop_succ_cons, List.drop_zero, List.getElem?_cons_succ, List.getElem?_cons_zero, v2, v4]
        clear v2 v4
        generalize vs5 0 = z0
        generalize vs5 1 = z1
        generalize vs5 3 = z3
        cases b
        all_goals cases o
        · go_wp2
          go_ret
          exact ⟨by rw [NoneF.found HIL.out HBV.out]; rfl, HW1.out.2.2.trans HG5.out⟩
        · have HNX := HNO.out.next (HBV.out.trans (show false = !true from rfl))
          have HNX := Lib.hid HNX
          go_wp2
          go_roundw
          case rel => exact ⟨i + 1, by omega, by go_num, HNX, HG5⟩
          case measure => simp [intOf]; omega
        · have HNX := HNO.out.next (HBV.out.trans (show true = !false from rfl))
          have HNX := Lib.hid HNX
          go_wp2
          go_roundw
          case rel => exact ⟨i + 1, by omega, by go_num, HNX, HG5⟩
          case measure => simp [intOf]; omega
        · go_wp2
          go_ret
          exact ⟨by rw [NoneF.found HIL.out HBV.out]; rfl, HW1.out.2.2.trans HG5.out⟩
    · obtain rfl : i = n := by omega
      have k1 : wr.cell? ⟨q, 1, none⟩ = some (.bool o) := (HW1.out.1.gr HG.out).c 1 rfl
      go_wp2
      go_ret
      exact ⟨by rw [show meantF x (d + 1) (.many l o) = !o from NoneF.done (by rw [← HN.out]; exact HNO.out)]; rfl, HW1.out.2.2.trans HG.out⟩
theorem MeanF.at {x : Itm} {v : Value} {b : Bool} {w w' : World} (h : MeanF x v b w) (g : Gr w w') : MeanF x v b w' := by
  obtain ⟨f, r, h1, h2⟩ := h
  exact ⟨f, r, h1, fun w2 g2 => h2 w2 (g.trans g2)⟩
theorem mean_any (x : Itm) {S : Nat → Prop} : ∀ {d : Nat} {w : World} {v : Value} {f : Flt}, FltV S d w v f → MeanF x v (meantF x d f) w
  | 0, _, _, _, h => h.elim
  | d + 1, w, v, f, h => by
    cases f with
    | any =>
      obtain rfl : v = _ := h
      exact ⟨_, _, meth_always _, fun w' _ => mean_always x w'⟩
    | test i lo hi =>
      obtain ⟨rfl, h1, _⟩ := h
      exact ⟨_, _, meth_test _, fun w' _ => mean_test x i h1 lo hi w'⟩
    | has i lo =>
      obtain ⟨rfl, h1, _⟩ := h
      exact ⟨_, _, meth_test _, fun w' _ => mean_has x i h1 lo w'⟩
    | not g =>
      obtain ⟨u, rfl, h1⟩ := h
      obtain ⟨t, y, rfl⟩ := h1.iface
      exact ⟨_, _, meth_not _, fun w' g' => mean_not x t y _ w' ((mean_any x h1).at g')⟩
    | many l o =>
      obtain ⟨s, vs, rfl, h2, _, h4, h5, h6, h7⟩ := h
      exact ⟨_, _, meth_several _, fun w' g' => mean_several x d s vs l o w' (Row.gr h2 g') h4 h5 h6 fun i hi => ⟨(h7 i hi).iface, (mean_any x (h7 i hi)).at g'⟩⟩
end Go.Proofs.YthkccohigoejgaaDoor

/-
  The program's Rounds: Put. (Printed by genrnd.py.)
-/
import Derived.Test.YtbpofdfehcbppaaDoorRndB
namespace Go.Proofs.YtbpofdfehcbppaaDoor
open Go.RowKit Go.Extern.Stop Go.Stop Go.Extern

section
variable {ev : Operand → Value} {o : Oper} {w : World} {x y z : Operand} {u : Value}
theorem rnp_fa_queue_Held_0 {p o' : Nat} (ho : o.op = .fieldAddr 139 x 0) (h : ev x = .pointer (some ⟨p, o', none⟩)) : (execOp ev o).run Tryd.prog w = .ok (.value (.pointer (some ⟨p, o', none⟩))) w := by
  simp [execOp, ho, h, go_sem]
theorem rnp_fa_api_Item_2 {p o' : Nat} (ho : o.op = .fieldAddr 103 x 2) (h : ev x = .pointer (some ⟨p, o', none⟩)) : (execOp ev o).run Tryd.prog w = .ok (.value (.pointer (some ⟨p, o' + 2, none⟩))) w := by
  simp [execOp, ho, h, go_sem]
theorem rnp_fa_fair_Rounds_0 {p o' : Nat} (ho : o.op = .fieldAddr 131 x 0) (h : ev x = .pointer (some ⟨p, o', none⟩)) : (execOp ev o).run Tryd.prog w = .ok (.value (.pointer (some ⟨p, o', none⟩))) w := by
  simp [execOp, ho, h, go_sem]
theorem rnp_idx__16_queue_List0 {p j : Nat} (ho : o.op = .indexAddr 128 x y) (h : ev x = .pointer (some ⟨p, 0, none⟩)) (k : ev y = .int .i64 (j : Int)) (hj : j < 16) : (execOp ev o).run Tryd.prog w = .ok (.value (.pointer (some ⟨p, j * 2, none⟩))) w := by
  have h0 : (0 : Int) ≤ (j : Int) := by omega
  have h1 : (j : Int) < 16 := by omega
  simp [execOp, ho, h, k, h0, h1, go_sem]
theorem rnp_fa_fair_Rounds_3 {p o' : Nat} (ho : o.op = .fieldAddr 131 x 3) (h : ev x = .pointer (some ⟨p, o', none⟩)) : (execOp ev o).run Tryd.prog w = .ok (.value (.pointer (some ⟨p, o' + 49, none⟩))) w := by
  simp [execOp, ho, h, go_sem]
theorem rnp_idx__16_int {p o' j : Nat} (ho : o.op = .indexAddr 129 x y) (h : ev x = .pointer (some ⟨p, o', none⟩)) (k : ev y = .int .i64 (j : Int)) (hj : j < 16) : (execOp ev o).run Tryd.prog w = .ok (.value (.pointer (some ⟨p, o' + j, none⟩))) w := by
  have h0 : (0 : Int) ≤ (j : Int) := by omega
  have h1 : (j : Int) < 16 := by omega
  simp [execOp, ho, h, k, h0, h1, go_sem]
theorem rnp_fa_fair_Rounds_6 {p o' : Nat} (ho : o.op = .fieldAddr 131 x 6) (h : ev x = .pointer (some ⟨p, o', none⟩)) : (execOp ev o).run Tryd.prog w = .ok (.value (.pointer (some ⟨p, o' + 67, none⟩))) w := by
  simp [execOp, ho, h, go_sem]
theorem rnp_fa_api_Item_1 {p o' : Nat} (ho : o.op = .fieldAddr 103 x 1) (h : ev x = .pointer (some ⟨p, o', none⟩)) : (execOp ev o).run Tryd.prog w = .ok (.value (.pointer (some ⟨p, o' + 1, none⟩))) w := by
  simp [execOp, ho, h, go_sem]
theorem rnp_add {m n r : Int} (ho : o.op = .binOp .add 3 x y 3) (h : ev x = .int .i64 m) (k : ev y = .int .i64 n) (hb : IntKind.i64.wrap (m + n) = r) : (execOp ev o).run Tryd.prog w = .ok (.value (.int .i64 r)) w := by
  subst hb
  simp [execOp, ho, h, k, go_sem]
theorem rnp_call___millrace_queue_List__Len {x0 : Operand} {v0 : Value} (ho : o.op = .call { callee := .value (.func 75), args := #[x0], argTypes := #[193] }) (hf : ev (.func 75) = .func (.func 75) #[] #[]) (h0 : ev x0 = v0) : (execOp ev o).run Tryd.prog w = .ok (.enter 75 #[v0]) w := by
  simp [execOp, ho, hf, h0, resolve, invoke, go_sem]
theorem rnp_fa_fair_Rounds_2 {p o' : Nat} (ho : o.op = .fieldAddr 131 x 2) (h : ev x = .pointer (some ⟨p, o', none⟩)) : (execOp ev o).run Tryd.prog w = .ok (.value (.pointer (some ⟨p, o' + 48, none⟩))) w := by
  simp [execOp, ho, h, go_sem]
end

section
variable {o : Oper} {w : World} {x : Operand}
theorem r_fa_fair_Rounds_4 {ev : Operand → Value} {p o' : Nat} (ho : o.op = .fieldAddr 131 x 4) (h : ev x = .pointer (some ⟨p, o', none⟩)) : (execOp ev o).run Tryd.prog w = .ok (.value (.pointer (some ⟨p, o' + 65, none⟩))) w := by
  simp [execOp, ho, h, go_sem]
theorem r_fa_api_Item_2 {ev : Operand → Value} {p o' : Nat} (ho : o.op = .fieldAddr 103 x 2) (h : ev x = .pointer (some ⟨p, o', none⟩)) : (execOp ev o).run Tryd.prog w = .ok (.value (.pointer (some ⟨p, o' + 2, none⟩))) w := by
  simp [execOp, ho, h, go_sem]
end
theorem IntRow.app1 {P : Program} {w : World} {v : Value} {xs : List Int} {y : Int} (t ty : TypeId) (i : TypeInfo) (ht : P.underlying t = some (.slice 3)) (hi : P.info? 3 = some i) (hz : i.zero = some (.int .i64 0)) (hsize : i.size = 1) (hby : i.bytes = 8)
    (h : IntRow w v xs) (ad : Addr) (c : Nat) (hy : w.cell? ad = some (.int .i64 y)) (hn : xs.length + 1 ≤ 1000000) :
    ∃ v' w', (Builtin.append_ #[t, t] ty #[v, .slice (some ad) 1 c]).run P w = .ok v' w' ∧ IntRow w' v' (xs ++ [y]) ∧ w.grownBy w' v.ownBlock ∧ (∀ g, v'.ownBlock = some g → v.ownBlock = some g ∨ w.heap.size ≤ g) ∧ IntRow w' v xs := by
  obtain ⟨v', w', h1, h2, h3, h4, h5⟩ := Row.appendN (P := P) t ty i (.int .i64 0) 8 ht hi hz hsize hby rfl (by intro u hu; simp [Value.cells] at hu; exact ⟨_, hu⟩) h ad c 1 (by decide) [.int .i64 y] rfl (by intro j u hu; match j, hu with | 0, hu => (simp at hu; subst hu; simpa [Addr.add] using hy) | j + 1, hu => simp at hu) (by intro u hu; simp at hu; subst hu; rfl) (by intro u hu; simp at hu; exact ⟨_, hu⟩) hn (by decide)
  exact ⟨v', w', h1, by unfold IntRow; simpa using h2, h3, h4, h5⟩
/-- What Put asks. -/
structure RPut (s : RndV) (x : Hel) (k : Nat) : Prop where
  flow : x.flow = (k : Int)
  lt : k < 16
  len : 0 ≤ x.len ∧ x.len ≤ 10000
  few : s.turn.length ≤ 900
  sum : 0 ≤ sumLen (s.ls k) ∧ sumLen (s.ls k) ≤ 1000000000000000
  lens : (s.ls k).length ≤ 900
  bytes : 0 ≤ s.bytes ∧ s.bytes ≤ 1000000000
  many : 0 ≤ s.many ∧ s.many ≤ 1000000
set_option maxRecDepth 100000 in
set_option maxHeartbeats 40000000 in
theorem rput_full (p : Nat) (q : RndP) (s : RndV) (x : Hel) (k : Nat) (ok : RPut s x k) (hroom : q.room ≤ ((s.ls k).length : Int)) (now : Int) (w : World) (h : RndC w p q s) :
    Calls Tryd.prog 108 #[.pointer (some ⟨p, 0, none⟩), .int .i64 now, x.val] w fun e w' => ∃ r, e = .returned r ∧ RowH 139 w' r [x] ∧ Gr w w' := by
  have CB := Lib.hid (decide_eq_true hroom)
  have HA := Lib.hid h
  have HKQ := Lib.hid ok.lt
  have HFL := Lib.hid ok.flow
  clear h ok hroom
  unfold Hel.val
  go_enter Tryd.func108, Tryd.ntmps108
  go_upto_region 1 with fail
  obtain ⟨w0, hw0⟩ : ∃ u, u = w.alloc (.cells #[.int .i64 x.t, .int .i64 x.len, .int .i64 x.flow, .int .i64 x.band, .int .i64 x.mark, .int .i64 x.n] 139) := ⟨_, rfl⟩
  obtain ⟨bx, hbx⟩ : ∃ u, u = w.heap.size := ⟨_, rfl⟩
  have HX0 : Hid (HelAt w0 bx 0 x) := Lib.hid (by rw [hw0]; exact held_new w x hbx)
  have HG0 : Hid (Gr w w0) := Lib.hid (by rw [hw0]; exact (Gr.refl _).alloc _)
  rw [← hw0, ← hbx]
  clear hw0 hbx
  have HXF := Lib.hid (show w0.cell? ⟨bx, 2, none⟩ = some (.int .i64 (k : Int)) from by have := HX0.out.c2; rw [Nat.zero_add, HFL.out] at this; exact this)
  refine wp_region_gg (n := 7) [Fg.eq (.pointer (some ⟨p, 0, none⟩)), Fg.eq (.pointer (some ⟨bx, 0, none⟩)), Fg.eq (.pointer (some ⟨bx, 2, none⟩)), Fg.eq (.int .i64 (k : Int)), Fg.eq (.pointer (some ⟨p, 0, none⟩)), Fg.eq (.pointer (some ⟨p, 0, none⟩)), Fg.eq (.pointer (some ⟨p, k * 2, none⟩))] [8, 9, 10, 11, 12, 13, 14] (by kernel_rfl) (by kernel_rfl) (by kernel_rfl) ?_ ?_
  · intro L i o' ac w1 hi ho hA
    have hgr : Gr w0 w1 := (Gr.refl w0).drew.trans hA.gr
    match i, hi with
    | 0, _ =>
      obtain rfl := Option.some.inj ho
      exact gg_plain rfl (gstep_val (q_move rfl (show ac.eval (.tmp 0) = .pointer (some ⟨p, 0, none⟩) from hA.other 0 (by decide))) rfl)
    | 1, _ =>
      obtain rfl := Option.some.inj ho
      exact gg_plain rfl (gstep_val (rnp_fa_queue_Held_0 rfl (show ac.eval (.tmp 5) = .pointer (some ⟨bx, 0, none⟩) from hA.other 5 (by decide))) rfl)
    | 2, _ =>
      obtain rfl := Option.some.inj ho
      exact gg_plain rfl (gstep_val (rnp_fa_api_Item_2 rfl (hA.fact 1 (hA.dep 1 (by kernel_rfl) (by decide)))) rfl)
    | 3, _ =>
      obtain rfl := Option.some.inj ho
      exact gg_plain rfl (gstep_val (q_loadI rfl (hA.fact 2 (hA.dep 2 (by kernel_rfl) (by decide))) (hgr.cell HXF.out)) rfl)
    | 4, _ =>
      obtain rfl := Option.some.inj ho
      exact gg_plain rfl (gstep_val (q_nil rfl (hA.fact 0 (hA.dep 0 (by kernel_rfl) (by decide)))) rfl)
    | 5, _ =>
      obtain rfl := Option.some.inj ho
      exact gg_plain rfl (gstep_val (rnp_fa_fair_Rounds_0 rfl (hA.fact 4 (hA.dep 4 (by kernel_rfl) (by decide)))) rfl)
    | 6, _ =>
      obtain rfl := Option.some.inj ho
      exact gg_plain rfl (gstep_val (rnp_idx__16_queue_List0 rfl (hA.fact 5 (hA.dep 5 (by kernel_rfl) (by decide))) (hA.fact 3 (hA.dep 3 (by kernel_rfl) (by decide))) (HKQ.out)) rfl)
    | k + 7, hk => exact absurd (show k + 7 < 7 from hk) (by omega)
  · intro vz wa hg5 hv
    have HGX := Lib.hid ((Gr.refl w0).drew.trans hg5)
    have v14 : vz 6 = .pointer (some ⟨p, k * 2, none⟩) := hv 6 (by omega)
    clear hv hg5
    simp only [putN, List.drop_succ_cons, List.drop_zero, List.getElem?_cons_succ, List.getElem?_cons_zero]
    generalize vz 6 = z14 at *
    subst v14
    generalize vz 0 = z8 at *
    generalize vz 1 = z9 at *
    generalize vz 2 = z10 at *
    generalize vz 3 = z11 at *
    generalize vz 4 = z12 at *
    generalize vz 5 = z13 at *
    go_upto_region 2 with fail
    have HA1 := Lib.hid (HA.out.gr (HG0.out.trans HGX.out))
    have HL1 := Lib.hid (HA1.out.lst k HKQ.out)
    have HRM := Lib.hid HA1.out.room
    refine wp_region_gg (n := 6) [Fg.eq (.pointer (some ⟨p, k * 2, none⟩)), Fg.eq (.int .i64 ((s.ls k).length : Int)), Fg.eq (.pointer (some ⟨p, 0, none⟩)), Fg.eq (.pointer (some ⟨p, 0, none⟩)), Fg.eq (.pointer (some ⟨p, 48, none⟩)), Fg.eq (.int .i64 q.room)] [15, 16, 17, 18, 19, 20] (by kernel_rfl) (by kernel_rfl) (by kernel_rfl) ?_ ?_
    · intro L i o' ac w1 hi ho hA
      have hgr : Gr wa w1 := (Gr.refl wa).drew.trans hA.gr
      match i, hi with
      | 0, _ =>
        obtain rfl := Option.some.inj ho
        exact gg_plain rfl (gstep_val (q_move rfl (show ac.eval (.tmp 7) = .pointer (some ⟨p, k * 2, none⟩) from hA.other 7 (by decide))) rfl)
      | 1, _ =>
        obtain rfl := Option.some.inj ho
        exact gg_plain rfl (gstep_call (rnp_call___millrace_queue_List__Len rfl rfl (hA.fact 0 (hA.dep 0 (by kernel_rfl) (by decide)))) ((llen_g p (k * 2) (s.vs k) (s.ls k) w1 (HL1.out.gr hgr)).mono (fun e w' ⟨h1, h2⟩ => ⟨_, h1, h2, rfl⟩)))
      | 2, _ =>
        obtain rfl := Option.some.inj ho
        exact gg_plain rfl (gstep_val (q_move rfl (show ac.eval (.tmp 0) = .pointer (some ⟨p, 0, none⟩) from hA.other 0 (by decide))) rfl)
      | 3, _ =>
        obtain rfl := Option.some.inj ho
        exact gg_plain rfl (gstep_val (q_nil rfl (hA.fact 2 (hA.dep 2 (by kernel_rfl) (by decide)))) rfl)
      | 4, _ =>
        obtain rfl := Option.some.inj ho
        exact gg_plain rfl (gstep_val (rnp_fa_fair_Rounds_2 rfl (hA.fact 3 (hA.dep 3 (by kernel_rfl) (by decide)))) rfl)
      | 5, _ =>
        obtain rfl := Option.some.inj ho
        exact gg_plain rfl (gstep_val (q_loadI rfl (hA.fact 4 (hA.dep 4 (by kernel_rfl) (by decide))) (hgr.cell HRM.out)) rfl)
      | k + 6, hk => exact absurd (show k + 6 < 6 from hk) (by omega)
    · intro vz wb hg5 hv
      have HGY := Lib.hid ((Gr.refl wa).drew.trans hg5)
      have v16 : vz 1 = .int .i64 ((s.ls k).length : Int) := hv 1 (by omega)
      have v20 : vz 5 = .int .i64 q.room := hv 5 (by omega)
      clear hv hg5
      simp only [putN, List.drop_succ_cons, List.drop_zero, List.getElem?_cons_succ, List.getElem?_cons_zero]
      generalize vz 1 = z16 at *
      subst v16
      generalize vz 5 = z20 at *
      subst v20
      generalize vz 0 = z15 at *
      generalize vz 2 = z17 at *
      generalize vz 3 = z18 at *
      generalize vz 4 = z19 at *
      have hroom := of_decide_eq_true CB.out
      have HG2 := Lib.hid (HG0.out.trans (HGX.out.trans HGY.out))
      have HX2 := Lib.hid (HX0.out.gr (HGX.out.trans HGY.out))
      obtain ⟨x0, x1, x2, x3, x4, x5⟩ := HX2.out
      simp only [Nat.zero_add] at x1 x2 x3 x4 x5
      obtain ⟨w9, hw9⟩ : ∃ u, u = wb.alloc (.cells #[.int .i64 x.t, .int .i64 x.len, .int .i64 x.flow, .int .i64 x.band, .int .i64 x.mark, .int .i64 x.n] 139) := ⟨_, rfl⟩
      have HR9 := Lib.hid (show RowH 139 w9 (.slice (some ⟨wb.heap.size, 0, none⟩) 1 1) [x] from by rw [hw9]; exact RowH.one _ wb x rfl)
      have HG9 := Lib.hid (HG2.out.trans (show Gr wb w9 from by rw [hw9]; exact (Gr.refl _).alloc _))
      go_wp2
      rw [← hw9]
      refine bodyPost_ret (v := .slice (some ⟨wb.heap.size, 0, none⟩) 1 1) (by simp [results, Tryd.results108, go_sem]) rfl ?_
      exact ⟨_, rfl, HR9.out, HG9.out⟩
/-- What Put leaves. -/
def PutV (s s' : RndV) (x : Hel) (k : Nat) : Prop := s'.ls = fu s.ls k (s.ls k ++ [x]) ∧ s'.turn = (if s.ls k = [] then s.turn ++ [(k : Int)] else s.turn) ∧ s'.begun = s.begun ∧ s'.cr = (if s.ls k = [] then fu s.cr k 0 else s.cr) ∧ s'.bytes = s.bytes + x.len ∧ s'.many = s.many + 1
/-- Ahead of the list's Add. -/
def PreV (s s' : RndV) (k : Nat) : Prop := s'.ls = s.ls ∧ s'.turn = (if s.ls k = [] then s.turn ++ [(k : Int)] else s.turn) ∧ s'.begun = s.begun ∧ s'.cr = (if s.ls k = [] then fu s.cr k 0 else s.cr) ∧ s'.bytes = s.bytes ∧ s'.many = s.many
set_option maxRecDepth 100000 in
set_option maxHeartbeats 40000000 in
theorem rput_fits (p : Nat) (q : RndP) (s : RndV) (x : Hel) (k : Nat) (ok : RPut s x k) (hroom : ¬ q.room ≤ ((s.ls k).length : Int)) (now : Int) (w : World) (h : RndC w p q s) :
    Calls Tryd.prog 108 #[.pointer (some ⟨p, 0, none⟩), .int .i64 now, x.val] w fun e w' => e = .returned (.slice none 0 0) ∧ ∃ s', RM w w' p q s [] s' ∧ PutV s s' x k := by
  have CB := Lib.hid (decide_eq_false hroom)
  have HA := Lib.hid h
  have HOK := Lib.hid ok
  have HKQ := Lib.hid ok.lt
  have HFL := Lib.hid ok.flow
  have HTL := Lib.hid ok.few
  have DY := Lib.hid (show IntKind.i64.wrap (s.bytes + x.len) = s.bytes + x.len from by have h1 := ok.bytes; have h2 := ok.len; rw [IntKind.wrap_i64]; omega)
  have HWM := Lib.hid (show wrap64 (s.many + 1) = s.many + 1 from by have h1 := ok.many; unfold wrap64; omega)
  clear h ok hroom
  unfold Hel.val
  go_enter Tryd.func108, Tryd.ntmps108
  go_upto_region 1 with fail
  obtain ⟨w0, hw0⟩ : ∃ u, u = w.alloc (.cells #[.int .i64 x.t, .int .i64 x.len, .int .i64 x.flow, .int .i64 x.band, .int .i64 x.mark, .int .i64 x.n] 139) := ⟨_, rfl⟩
  obtain ⟨bx, hbx⟩ : ∃ u, u = w.heap.size := ⟨_, rfl⟩
  have HX0 : Hid (HelAt w0 bx 0 x) := Lib.hid (by rw [hw0]; exact held_new w x hbx)
  have HG0 : Hid (Gr w w0) := Lib.hid (by rw [hw0]; exact (Gr.refl _).alloc _)
  have HM0 := Lib.hid ((RM.first HA.out).res_add HG0.out (show w.heap.size ≤ bx by omega) (cell_lt HX0.out.c0))
  rw [← hw0, ← hbx]
  clear hw0 hbx
  have HXF := Lib.hid (show w0.cell? ⟨bx, 2, none⟩ = some (.int .i64 (k : Int)) from by have := HX0.out.c2; rw [Nat.zero_add, HFL.out] at this; exact this)
  refine wp_region_gg (n := 7) [Fg.eq (.pointer (some ⟨p, 0, none⟩)), Fg.eq (.pointer (some ⟨bx, 0, none⟩)), Fg.eq (.pointer (some ⟨bx, 2, none⟩)), Fg.eq (.int .i64 (k : Int)), Fg.eq (.pointer (some ⟨p, 0, none⟩)), Fg.eq (.pointer (some ⟨p, 0, none⟩)), Fg.eq (.pointer (some ⟨p, k * 2, none⟩))] [8, 9, 10, 11, 12, 13, 14] (by kernel_rfl) (by kernel_rfl) (by kernel_rfl) ?_ ?_
  · intro L i o' ac w1 hi ho hA
    have hgr : Gr w0 w1 := (Gr.refl w0).drew.trans hA.gr
    match i, hi with
    | 0, _ =>
      obtain rfl := Option.some.inj ho
      exact gg_plain rfl (gstep_val (q_move rfl (show ac.eval (.tmp 0) = .pointer (some ⟨p, 0, none⟩) from hA.other 0 (by decide))) rfl)
    | 1, _ =>
      obtain rfl := Option.some.inj ho
      exact gg_plain rfl (gstep_val (rnp_fa_queue_Held_0 rfl (show ac.eval (.tmp 5) = .pointer (some ⟨bx, 0, none⟩) from hA.other 5 (by decide))) rfl)
    | 2, _ =>
      obtain rfl := Option.some.inj ho
      exact gg_plain rfl (gstep_val (rnp_fa_api_Item_2 rfl (hA.fact 1 (hA.dep 1 (by kernel_rfl) (by decide)))) rfl)
    | 3, _ =>
      obtain rfl := Option.some.inj ho
      exact gg_plain rfl (gstep_val (q_loadI rfl (hA.fact 2 (hA.dep 2 (by kernel_rfl) (by decide))) (hgr.cell HXF.out)) rfl)
    | 4, _ =>
      obtain rfl := Option.some.inj ho
      exact gg_plain rfl (gstep_val (q_nil rfl (hA.fact 0 (hA.dep 0 (by kernel_rfl) (by decide)))) rfl)
    | 5, _ =>
      obtain rfl := Option.some.inj ho
      exact gg_plain rfl (gstep_val (rnp_fa_fair_Rounds_0 rfl (hA.fact 4 (hA.dep 4 (by kernel_rfl) (by decide)))) rfl)
    | 6, _ =>
      obtain rfl := Option.some.inj ho
      exact gg_plain rfl (gstep_val (rnp_idx__16_queue_List0 rfl (hA.fact 5 (hA.dep 5 (by kernel_rfl) (by decide))) (hA.fact 3 (hA.dep 3 (by kernel_rfl) (by decide))) (HKQ.out)) rfl)
    | k + 7, hk => exact absurd (show k + 7 < 7 from hk) (by omega)
  · intro vz wa hg5 hv
    have HGX := Lib.hid ((Gr.refl w0).drew.trans hg5)
    have v14 : vz 6 = .pointer (some ⟨p, k * 2, none⟩) := hv 6 (by omega)
    clear hv hg5
    simp only [putN, List.drop_succ_cons, List.drop_zero, List.getElem?_cons_succ, List.getElem?_cons_zero]
    generalize vz 6 = z14 at *
    subst v14
    generalize vz 0 = z8 at *
    generalize vz 1 = z9 at *
    generalize vz 2 = z10 at *
    generalize vz 3 = z11 at *
    generalize vz 4 = z12 at *
    generalize vz 5 = z13 at *
    go_upto_region 2 with fail
    have HM1 := Lib.hid (HM0.out.gr HGX.out)
    have HL1 := Lib.hid (HM1.out.at_.lst k HKQ.out)
    have HRM := Lib.hid HM1.out.at_.room
    refine wp_region_gg (n := 6) [Fg.eq (.pointer (some ⟨p, k * 2, none⟩)), Fg.eq (.int .i64 ((s.ls k).length : Int)), Fg.eq (.pointer (some ⟨p, 0, none⟩)), Fg.eq (.pointer (some ⟨p, 0, none⟩)), Fg.eq (.pointer (some ⟨p, 48, none⟩)), Fg.eq (.int .i64 q.room)] [15, 16, 17, 18, 19, 20] (by kernel_rfl) (by kernel_rfl) (by kernel_rfl) ?_ ?_
    · intro L i o' ac w1 hi ho hA
      have hgr : Gr wa w1 := (Gr.refl wa).drew.trans hA.gr
      match i, hi with
      | 0, _ =>
        obtain rfl := Option.some.inj ho
        exact gg_plain rfl (gstep_val (q_move rfl (show ac.eval (.tmp 7) = .pointer (some ⟨p, k * 2, none⟩) from hA.other 7 (by decide))) rfl)
      | 1, _ =>
        obtain rfl := Option.some.inj ho
        exact gg_plain rfl (gstep_call (rnp_call___millrace_queue_List__Len rfl rfl (hA.fact 0 (hA.dep 0 (by kernel_rfl) (by decide)))) ((llen_g p (k * 2) (s.vs k) (s.ls k) w1 (HL1.out.gr hgr)).mono (fun e w' ⟨h1, h2⟩ => ⟨_, h1, h2, rfl⟩)))
      | 2, _ =>
        obtain rfl := Option.some.inj ho
        exact gg_plain rfl (gstep_val (q_move rfl (show ac.eval (.tmp 0) = .pointer (some ⟨p, 0, none⟩) from hA.other 0 (by decide))) rfl)
      | 3, _ =>
        obtain rfl := Option.some.inj ho
        exact gg_plain rfl (gstep_val (q_nil rfl (hA.fact 2 (hA.dep 2 (by kernel_rfl) (by decide)))) rfl)
      | 4, _ =>
        obtain rfl := Option.some.inj ho
        exact gg_plain rfl (gstep_val (rnp_fa_fair_Rounds_2 rfl (hA.fact 3 (hA.dep 3 (by kernel_rfl) (by decide)))) rfl)
      | 5, _ =>
        obtain rfl := Option.some.inj ho
        exact gg_plain rfl (gstep_val (q_loadI rfl (hA.fact 4 (hA.dep 4 (by kernel_rfl) (by decide))) (hgr.cell HRM.out)) rfl)
      | k + 6, hk => exact absurd (show k + 6 < 6 from hk) (by omega)
    · intro vz wb hg5 hv
      have HGY := Lib.hid ((Gr.refl wa).drew.trans hg5)
      have v16 : vz 1 = .int .i64 ((s.ls k).length : Int) := hv 1 (by omega)
      have v20 : vz 5 = .int .i64 q.room := hv 5 (by omega)
      clear hv hg5
      simp only [putN, List.drop_succ_cons, List.drop_zero, List.getElem?_cons_succ, List.getElem?_cons_zero]
      generalize vz 1 = z16 at *
      subst v16
      generalize vz 5 = z20 at *
      subst v20
      generalize vz 0 = z15 at *
      generalize vz 2 = z17 at *
      generalize vz 3 = z18 at *
      generalize vz 4 = z19 at *
      have hroom := of_decide_eq_false CB.out
      have HM2 := Lib.hid (HM1.out.gr HGY.out)
      have HX2 := Lib.hid (HX0.out.gr (HGX.out.trans HGY.out))
      have HL2 := Lib.hid (HL1.out.gr HGY.out)
      clear HM0 HM1 HL1 HX0 HXF HRM HGX HGY
      by_cases hz : s.ls k = []
      · have HZ := Lib.hid hz
        rw [hz] at HL2
        clear hz
        go_upto_region 5 with (go_at_call 75; refine (llen_any p (k * 2) (s.vs k) [] _ HL2.out).mono ?_; rintro e w3 ⟨rfl, rfl⟩)
        clear hroom
        obtain ⟨ta, tc, htv⟩ := HM2.out.at_.turn.shape
        have HTV := Lib.hid htv
        have HCT := Lib.hid (show wb.cell? ⟨p, 65, none⟩ = some (.slice ta s.turn.length tc) from by rw [← htv]; exact HM2.out.at_.c65)
        have HFT := Lib.hid (HM2.out.at_.free 65)
        have HROW0 := Lib.hid (show IntRow wb (.slice ta s.turn.length tc) s.turn from by rw [← htv]; exact HM2.out.at_.turn)
        have HNE : Hid (¬ (Value.slice ta s.turn.length tc).ownBlock = some p ∧ ¬ (Value.slice ta s.turn.length tc).ownBlock = some bx) := Lib.hid (by rw [← htv]; exact ⟨fun e => (HM2.out.at_.tap p e).1 rfl, fun e => HM2.out.nin (r := bx) (by simp) (.inr (.inl e))⟩)
        have HLT := Lib.hid (fun g (hg : (Value.slice ta s.turn.length tc).ownBlock = some g) => (show g < wb.heap.size from Row.lt HROW0.out hg))
        have HXF := Lib.hid (show wb.cell? ⟨bx, 2, none⟩ = some (.int .i64 (k : Int)) from by have := HX2.out.c2; rw [Nat.zero_add, HFL.out] at this; exact this)
        clear htv HL2
        refine wp_region_k (n := 12) (fun u => Sav (fun q => (Value.slice ta s.turn.length tc).ownBlock = some q) wb u ∧ IntRow u (Value.slice ta s.turn.length tc) s.turn) [Fg.eq (.pointer (some ⟨p, 0, none⟩)), Fg.eq (.pointer (some ⟨p, 0, none⟩)), Fg.eq (.pointer (some ⟨p, 0, none⟩)), Fg.eq (.pointer (some ⟨p, 65, none⟩)), Fg.eq (Value.slice ta s.turn.length tc), Fg.eq (.pointer (some ⟨bx, 0, none⟩)), Fg.eq (.pointer (some ⟨bx, 2, none⟩)), Fg.eq (.int .i64 (k : Int)), Fg.newI wb.heap.size (k : Int), Fg.rowI wb (Value.slice ta s.turn.length tc) (s.turn ++ [(k : Int)]), Fg.eq (.pointer (some ⟨p, 0, none⟩)), Fg.eq (.pointer (some ⟨p, 65, none⟩))] [27, 28, 29, 30, 31, 32, 33, 34, 35, 36, 37, 38] (⟨.of_gr (Gr.refl wb).drew, HROW0.out.gr (Gr.refl wb).drew⟩) (by kernel_rfl) (by kernel_rfl) (by kernel_rfl) ?_ ?_
        · intro L i o a w1 hi ho hA
          have hI := hA.gr
          match i, hi with
          | 0, _ =>
            obtain rfl := Option.some.inj ho
            exact kstep_val hA (q_move rfl (show a.eval (.tmp 0) = .pointer (some ⟨p, 0, none⟩) from hA.other 0 (by decide))) rfl
          | 1, _ =>
            obtain rfl := Option.some.inj ho
            exact kstep_val hA (q_move rfl (show a.eval (.tmp 0) = .pointer (some ⟨p, 0, none⟩) from hA.other 0 (by decide))) rfl
          | 2, _ =>
            obtain rfl := Option.some.inj ho
            exact kstep_val hA (q_nil rfl (hA.fact 1 (hA.dep 1 (by kernel_rfl) (by decide)))) rfl
          | 3, _ =>
            obtain rfl := Option.some.inj ho
            exact kstep_val hA (r_fa_fair_Rounds_4 rfl (hA.fact 2 (hA.dep 2 (by kernel_rfl) (by decide)))) rfl
          | 4, _ =>
            obtain rfl := Option.some.inj ho
            exact kstep_val hA (q_loadSI rfl (hA.fact 3 (hA.dep 3 (by kernel_rfl) (by decide))) (hI.1.cell HCT.out HNE.out.1)) rfl
          | 5, _ =>
            obtain rfl := Option.some.inj ho
            exact kstep_val hA (r_fa_queue_Held_0 rfl (show a.eval (.tmp 5) = .pointer (some ⟨bx, 0, none⟩) from hA.other 5 (by decide))) rfl
          | 6, _ =>
            obtain rfl := Option.some.inj ho
            exact kstep_val hA (r_fa_api_Item_2 rfl (hA.fact 5 (hA.dep 5 (by kernel_rfl) (by decide)))) rfl
          | 7, _ =>
            obtain rfl := Option.some.inj ho
            exact kstep_val hA (q_loadI rfl (hA.fact 6 (hA.dep 6 (by kernel_rfl) (by decide))) (hI.1.cell HXF.out HNE.out.2)) rfl
          | 8, _ =>
            obtain rfl := Option.some.inj ho
            exact kstep_gr hA (q_buildI rfl (hA.fact 7 (hA.dep 7 (by kernel_rfl) (by decide)))) ((Gr.refl _).alloc _) ⟨hI.1.then (.of_gr ((Gr.refl _).alloc _)), hI.2.gr ((Gr.refl _).alloc _)⟩ ⟨_, rfl, hI.1.size, by simp⟩
          | 9, _ =>
            obtain rfl := Option.some.inj ho
            obtain ⟨g, hv, hg, hh⟩ := (hA.fact 8 (hA.dep 8 (by kernel_rfl) (by decide)))
            obtain ⟨i0, hi0, hz0, hz1, hz2⟩ := info_parts info_intE
            obtain ⟨v', w', hr, hrow, hgrow, hown, hold⟩ := IntRow.app1 (P := Tryd.prog) 42 42 i0 Tryd.underlying42 hi0 hz0 hz1 hz2 hI.2 ⟨g, 0, none⟩ 1 hh (by have := HTL.out; omega)
            refine kstep_keep hA (q_append rfl (hA.fact 4 (hA.dep 4 (by kernel_rfl) (by decide))) hv hr) ⟨hI.1.then (.of_grown hgrow fun _ h => h), hold⟩ ⟨hrow, fun g hg => (hown g hg).imp id (Nat.le_trans hI.1.size)⟩ ?_
            intro j hj u hu
            match j, hj, hu with
            | 0, _, hu => exact hu
            | 1, _, hu => exact hu
            | 2, _, hu => exact hu
            | 3, _, hu => exact hu
            | 4, _, hu => exact hu
            | 5, _, hu => exact hu
            | 6, _, hu => exact hu
            | 7, _, hu => exact hu
            | 10, _, hu => exact hu
            | 11, _, hu => exact hu
            | 8, _, hu => obtain ⟨g', h1, h2, h3⟩ := hu; exact ⟨g', h1, h2, (Sav.of_grown (B := fun q => (Value.slice ta s.turn.length tc).ownBlock = some q) hgrow fun _ h => h).cell h3 (fun e => by have := HLT.out g' e; omega)⟩
            | 9, hj, _ => exact absurd rfl hj
            | j + 12, _, _ => trivial
          | 10, _ =>
            obtain rfl := Option.some.inj ho
            exact kstep_val hA (q_nil rfl (hA.fact 0 (hA.dep 0 (by kernel_rfl) (by decide)))) rfl
          | 11, _ =>
            obtain rfl := Option.some.inj ho
            exact kstep_val hA (r_fa_fair_Rounds_4 rfl (hA.fact 10 (hA.dep 10 (by kernel_rfl) (by decide)))) rfl
        · intro vz w2 hI hv
          obtain ⟨hrow, hown⟩ := hv 9 (by omega)
          have v11 : vz 11 = .pointer (some ⟨p, 65, none⟩) := hv 11 (by omega)
          have hrow' : IntRow w2 (vz 9) (s.turn ++ [(k : Int)]) := hrow
          have hown' : ∀ g, (vz 9).ownBlock = some g → s.tv.ownBlock = some g ∨ wb.heap.size ≤ g := by rw [HTV.out]; exact hown
          have hs : Sav (fun g => s.tv.ownBlock = some g) wb w2 := by rw [HTV.out]; exact hI.1
          have d0 := hI.1.cell HCT.out HNE.out.1
          have d1 := hI.1.frozen (p := ⟨p, 65, none⟩) (cell_lt HCT.out) HFT.out HNE.out.1
          have HM3 := Lib.hid (HM2.out.setT hs hrow' hown')
          have HX3 := Lib.hid ((HX2.out.sav hI.1 HNE.out.2).sav (.set p 65 (vz 9)) (fun e => HM2.out.nin (r := bx) (by simp) (.inl e)))
          clear hv hrow hown hI hown' hs
          simp only [putN, List.drop_succ_cons, List.drop_zero, List.getElem?_cons_succ, List.getElem?_cons_zero]
          generalize vz 9 = u9 at *
          generalize vz 11 = u11 at *
          subst v11
          obtain ⟨a', cap', rfl⟩ := hrow'.shape
          clear hrow'
          rw [List.length_append, show [(k : Int)].length = 1 from rfl] at *
          go_upto_region 6 with fail
          generalize w2.setCell ⟨p, 65, none⟩ (.slice a' (s.turn.length + 1) cap') = w3 at *
          clear d0 d1 HCT HFT HROW0 HNE HLT HXF HM2 HX2
          have HX6 := Lib.hid (show w3.cell? ⟨bx, 2, none⟩ = some (.int .i64 (k : Int)) from by have := HX3.out.c2; rw [Nat.zero_add, HFL.out] at this; exact this)
          refine wp_region_gg (n := 7) [Fg.eq (.pointer (some ⟨p, 0, none⟩)), Fg.eq (.pointer (some ⟨bx, 0, none⟩)), Fg.eq (.pointer (some ⟨bx, 2, none⟩)), Fg.eq (.int .i64 (k : Int)), Fg.eq (.pointer (some ⟨p, 0, none⟩)), Fg.eq (.pointer (some ⟨p, 49, none⟩)), Fg.eq (.pointer (some ⟨p, 49 + k, none⟩))] [39, 40, 41, 42, 43, 44, 45] (by kernel_rfl) (by kernel_rfl) (by kernel_rfl) ?_ ?_
          · intro L i o' ac w1 hi ho hA
            have hgr : Gr w3 w1 := (Gr.refl w3).drew.trans hA.gr
            match i, hi with
            | 0, _ =>
              obtain rfl := Option.some.inj ho
              exact gg_plain rfl (gstep_val (q_move rfl (show ac.eval (.tmp 0) = .pointer (some ⟨p, 0, none⟩) from hA.other 0 (by decide))) rfl)
            | 1, _ =>
              obtain rfl := Option.some.inj ho
              exact gg_plain rfl (gstep_val (rnp_fa_queue_Held_0 rfl (show ac.eval (.tmp 5) = .pointer (some ⟨bx, 0, none⟩) from hA.other 5 (by decide))) rfl)
            | 2, _ =>
              obtain rfl := Option.some.inj ho
              exact gg_plain rfl (gstep_val (rnp_fa_api_Item_2 rfl (hA.fact 1 (hA.dep 1 (by kernel_rfl) (by decide)))) rfl)
            | 3, _ =>
              obtain rfl := Option.some.inj ho
              exact gg_plain rfl (gstep_val (q_loadI rfl (hA.fact 2 (hA.dep 2 (by kernel_rfl) (by decide))) (hgr.cell HX6.out)) rfl)
            | 4, _ =>
              obtain rfl := Option.some.inj ho
              exact gg_plain rfl (gstep_val (q_nil rfl (hA.fact 0 (hA.dep 0 (by kernel_rfl) (by decide)))) rfl)
            | 5, _ =>
              obtain rfl := Option.some.inj ho
              exact gg_plain rfl (gstep_val (rnp_fa_fair_Rounds_3 rfl (hA.fact 4 (hA.dep 4 (by kernel_rfl) (by decide)))) rfl)
            | 6, _ =>
              obtain rfl := Option.some.inj ho
              exact gg_plain rfl (gstep_val (rnp_idx__16_int rfl (hA.fact 5 (hA.dep 5 (by kernel_rfl) (by decide))) (hA.fact 3 (hA.dep 3 (by kernel_rfl) (by decide))) (HKQ.out)) rfl)
            | k + 7, hk => exact absurd (show k + 7 < 7 from hk) (by omega)
          · intro vz wd hg5 hv
            have HGZ := Lib.hid ((Gr.refl w3).drew.trans hg5)
            have v45 : vz 6 = .pointer (some ⟨p, 49 + k, none⟩) := hv 6 (by omega)
            clear hv hg5
            simp only [putN, List.drop_succ_cons, List.drop_zero, List.getElem?_cons_succ, List.getElem?_cons_zero]
            generalize vz 6 = z45 at *
            subst v45
            generalize vz 0 = z39 at *
            generalize vz 1 = z40 at *
            generalize vz 2 = z41 at *
            generalize vz 3 = z42 at *
            generalize vz 4 = z43 at *
            generalize vz 5 = z44 at *
            have HM4 := Lib.hid (HM3.out.gr HGZ.out)
            have HX4 := Lib.hid (HX3.out.gr HGZ.out)
            have c49 := HM4.out.at_.cred HKQ.out
            have f49 := HM4.out.at_.free (49 + k)
            go_upto_region 7 with fail
            have HM5 := Lib.hid (HM4.out.setC HKQ.out 0)
            have HX5 := Lib.hid (HX4.out.sav (.set p (49 + k) (.int .i64 0)) (fun e => HM4.out.nin (r := bx) (by simp) (.inl e)))
            generalize wd.setCell ⟨p, 49 + k, none⟩ (.int .i64 0) = w6 at *
            have HP6 := Lib.hid (show PreV s ((s.setT (.slice a' (s.turn.length + 1) cap') (s.turn ++ [(k : Int)])).setC k 0) k from ⟨rfl, by rw [if_pos HZ.out]; rfl, rfl, by rw [if_pos HZ.out]; rfl, rfl, rfl⟩)
            generalize (s.setT (.slice a' (s.turn.length + 1) cap') (s.turn ++ [(k : Int)])).setC k 0 = s6 at *
            clear c49 f49 HM3 HX3 HM4 HX4 HGZ HX6
            obtain ⟨x0, x1, x2, x3, x4, x5⟩ := HX5.out
            simp only [Nat.zero_add] at x1 x2 x3 x4 x5
            have HLL := Lib.hid (show s6.ls k = s.ls k from by rw [HP6.out.1])
            go_upto_region 8 with (go_at_call 80; refine (ladd_any p (k * 2) (s6.vs k) (s6.ls k) x _ (HM5.out.at_.lst k HKQ.out) (by rw [HLL.out]; have := HOK.out.lens; omega) (by rw [HLL.out]; exact HOK.out.sum) (by have := HOK.out.len; omega)).mono ?_; rintro e w7 ⟨rfl, v7, hl7, hs7, ho7⟩; have HM7 := Lib.hid (HM5.out.setL HKQ.out hl7 hs7 ho7); have HX7 := Lib.hid (HX5.out.sav hs7.sav (fun e => HM5.out.nin (r := bx) (by simp) (e.elim (fun e => .inl e) (fun e => .inr (.inr ⟨k, HKQ.out, e⟩))))); clear hl7 hs7 ho7)
            clear x0 x1 x2 x3 x4 x5
            have HP7 := Lib.hid (show (s6.setL k v7 (s6.ls k ++ [x])).ls = fu s.ls k (s.ls k ++ [x]) ∧ (s6.setL k v7 (s6.ls k ++ [x])).turn = (if s.ls k = [] then s.turn ++ [(k : Int)] else s.turn) ∧ (s6.setL k v7 (s6.ls k ++ [x])).begun = s.begun ∧ (s6.setL k v7 (s6.ls k ++ [x])).cr = (if s.ls k = [] then fu s.cr k 0 else s.cr) ∧ (s6.setL k v7 (s6.ls k ++ [x])).bytes = s.bytes ∧ (s6.setL k v7 (s6.ls k ++ [x])).many = s.many from ⟨by rw [← HP6.out.1]; rfl, HP6.out.2.1, HP6.out.2.2.1, HP6.out.2.2.2.1, HP6.out.2.2.2.2.1, HP6.out.2.2.2.2.2⟩)
            generalize s6.setL k v7 (s6.ls k ++ [x]) = s7 at *
            have HX8 := Lib.hid (show w7.cell? ⟨bx, 1, none⟩ = some (.int .i64 x.len) from by have := HX7.out.c1; rw [Nat.zero_add] at this; exact this)
            have HC8 := Lib.hid (show w7.cell? ⟨p, 67, none⟩ = some (.int .i64 s.bytes) from by rw [← HP7.out.2.2.2.2.1]; exact HM7.out.at_.c67)
            clear HM5 HX5
            refine wp_region_gg (n := 10) [Fg.eq (.pointer (some ⟨p, 0, none⟩)), Fg.eq (.pointer (some ⟨p, 0, none⟩)), Fg.eq (.pointer (some ⟨p, 67, none⟩)), Fg.eq (.int .i64 s.bytes), Fg.eq (.pointer (some ⟨bx, 0, none⟩)), Fg.eq (.pointer (some ⟨bx, 1, none⟩)), Fg.eq (.int .i64 x.len), Fg.eq (.int .i64 (s.bytes + x.len)), Fg.eq (.pointer (some ⟨p, 0, none⟩)), Fg.eq (.pointer (some ⟨p, 67, none⟩))] [49, 50, 51, 52, 53, 54, 55, 56, 57, 58] (by kernel_rfl) (by kernel_rfl) (by kernel_rfl) ?_ ?_
            · intro L i o' ac w1 hi ho hA
              have hgr : Gr w7 w1 := (Gr.refl w7).drew.trans hA.gr
              match i, hi with
              | 0, _ =>
                obtain rfl := Option.some.inj ho
                exact gg_plain rfl (gstep_val (q_move rfl (show ac.eval (.tmp 0) = .pointer (some ⟨p, 0, none⟩) from hA.other 0 (by decide))) rfl)
              | 1, _ =>
                obtain rfl := Option.some.inj ho
                exact gg_plain rfl (gstep_val (q_nil rfl (hA.fact 0 (hA.dep 0 (by kernel_rfl) (by decide)))) rfl)
              | 2, _ =>
                obtain rfl := Option.some.inj ho
                exact gg_plain rfl (gstep_val (rnp_fa_fair_Rounds_6 rfl (hA.fact 1 (hA.dep 1 (by kernel_rfl) (by decide)))) rfl)
              | 3, _ =>
                obtain rfl := Option.some.inj ho
                exact gg_plain rfl (gstep_val (q_loadI rfl (hA.fact 2 (hA.dep 2 (by kernel_rfl) (by decide))) (hgr.cell HC8.out)) rfl)
              | 4, _ =>
                obtain rfl := Option.some.inj ho
                exact gg_plain rfl (gstep_val (rnp_fa_queue_Held_0 rfl (show ac.eval (.tmp 5) = .pointer (some ⟨bx, 0, none⟩) from hA.other 5 (by decide))) rfl)
              | 5, _ =>
                obtain rfl := Option.some.inj ho
                exact gg_plain rfl (gstep_val (rnp_fa_api_Item_1 rfl (hA.fact 4 (hA.dep 4 (by kernel_rfl) (by decide)))) rfl)
              | 6, _ =>
                obtain rfl := Option.some.inj ho
                exact gg_plain rfl (gstep_val (q_loadI rfl (hA.fact 5 (hA.dep 5 (by kernel_rfl) (by decide))) (hgr.cell HX8.out)) rfl)
              | 7, _ =>
                obtain rfl := Option.some.inj ho
                exact gg_plain rfl (gstep_val (rnp_add rfl (hA.fact 3 (hA.dep 3 (by kernel_rfl) (by decide))) (hA.fact 6 (hA.dep 6 (by kernel_rfl) (by decide))) (DY.out)) rfl)
              | 8, _ =>
                obtain rfl := Option.some.inj ho
                exact gg_plain rfl (gstep_val (q_nil rfl (hA.fact 0 (hA.dep 0 (by kernel_rfl) (by decide)))) rfl)
              | 9, _ =>
                obtain rfl := Option.some.inj ho
                exact gg_plain rfl (gstep_val (rnp_fa_fair_Rounds_6 rfl (hA.fact 8 (hA.dep 8 (by kernel_rfl) (by decide)))) rfl)
              | k + 10, hk => exact absurd (show k + 10 < 10 from hk) (by omega)
            · intro vz we hg5 hv
              have HGU := Lib.hid ((Gr.refl w7).drew.trans hg5)
              have v56 : vz 7 = .int .i64 (s.bytes + x.len) := hv 7 (by omega)
              have v58 : vz 9 = .pointer (some ⟨p, 67, none⟩) := hv 9 (by omega)
              clear hv hg5
              simp only [putN, List.drop_succ_cons, List.drop_zero, List.getElem?_cons_succ, List.getElem?_cons_zero]
              generalize vz 7 = z56 at *
              subst v56
              generalize vz 9 = z58 at *
              subst v58
              generalize vz 0 = z49 at *
              generalize vz 1 = z50 at *
              generalize vz 2 = z51 at *
              generalize vz 3 = z52 at *
              generalize vz 4 = z53 at *
              generalize vz 5 = z54 at *
              generalize vz 6 = z55 at *
              generalize vz 8 = z57 at *
              have HM8 := Lib.hid (HM7.out.gr HGU.out)
              have c67 := HM8.out.at_.c67
              have f67 := HM8.out.at_.free 67
              go_upto_region 9 with fail
              have HM9 := Lib.hid (HM8.out.setY (s.bytes + x.len))
              generalize we.setCell ⟨p, 67, none⟩ (.int .i64 (s.bytes + x.len)) = w9 at *
              clear c67 f67 HM7 HX7 HX8 HC8 HM8 HGU
              have c68 : w9.cell? ⟨p, 68, none⟩ = some (.int .i64 s.many) := by rw [← HP7.out.2.2.2.2.2]; exact HM9.out.at_.c68
              have f68 := HM9.out.at_.free 68
              go_wp2
              rw [HWM.out]
              go_ret
              exact ⟨rfl, _, (HM9.out.setM (s.many + 1)).did, HP7.out.1, HP7.out.2.1, HP7.out.2.2.1, HP7.out.2.2.2.1, rfl, rfl⟩
      · have i2 : ¬ ((s.ls k).length : Int) = 0 := by have := List.length_pos_iff.2 hz; omega
        have HP6 := Lib.hid (show PreV s s k from ⟨rfl, by rw [if_neg hz], rfl, by rw [if_neg hz], rfl, rfl⟩)
        clear hz
        go_upto_region 7 with (go_at_call 75; refine (llen_any p (k * 2) (s.vs k) (s.ls k) _ HL2.out).mono ?_; rintro e w3 ⟨rfl, rfl⟩)
        have HM5 := HM2
        have HX5 := HX2
        clear hroom i2 HL2 HM2 HX2
        obtain ⟨s6, hs6⟩ : ∃ u, u = s := ⟨_, rfl⟩
        have HM5 : Hid (RM w wb p q s [bx] s6) := by rw [hs6]; exact HM5
        have HP6 : Hid (PreV s s6 k) := by rw [hs6]; exact HP6
        clear hs6
        generalize wb = w6 at *
        obtain ⟨x0, x1, x2, x3, x4, x5⟩ := HX5.out
        simp only [Nat.zero_add] at x1 x2 x3 x4 x5
        have HLL := Lib.hid (show s6.ls k = s.ls k from by rw [HP6.out.1])
        go_upto_region 8 with (go_at_call 80; refine (ladd_any p (k * 2) (s6.vs k) (s6.ls k) x _ (HM5.out.at_.lst k HKQ.out) (by rw [HLL.out]; have := HOK.out.lens; omega) (by rw [HLL.out]; exact HOK.out.sum) (by have := HOK.out.len; omega)).mono ?_; rintro e w7 ⟨rfl, v7, hl7, hs7, ho7⟩; have HM7 := Lib.hid (HM5.out.setL HKQ.out hl7 hs7 ho7); have HX7 := Lib.hid (HX5.out.sav hs7.sav (fun e => HM5.out.nin (r := bx) (by simp) (e.elim (fun e => .inl e) (fun e => .inr (.inr ⟨k, HKQ.out, e⟩))))); clear hl7 hs7 ho7)
        clear x0 x1 x2 x3 x4 x5
        have HP7 := Lib.hid (show (s6.setL k v7 (s6.ls k ++ [x])).ls = fu s.ls k (s.ls k ++ [x]) ∧ (s6.setL k v7 (s6.ls k ++ [x])).turn = (if s.ls k = [] then s.turn ++ [(k : Int)] else s.turn) ∧ (s6.setL k v7 (s6.ls k ++ [x])).begun = s.begun ∧ (s6.setL k v7 (s6.ls k ++ [x])).cr = (if s.ls k = [] then fu s.cr k 0 else s.cr) ∧ (s6.setL k v7 (s6.ls k ++ [x])).bytes = s.bytes ∧ (s6.setL k v7 (s6.ls k ++ [x])).many = s.many from ⟨by rw [← HP6.out.1]; rfl, HP6.out.2.1, HP6.out.2.2.1, HP6.out.2.2.2.1, HP6.out.2.2.2.2.1, HP6.out.2.2.2.2.2⟩)
        generalize s6.setL k v7 (s6.ls k ++ [x]) = s7 at *
        have HX8 := Lib.hid (show w7.cell? ⟨bx, 1, none⟩ = some (.int .i64 x.len) from by have := HX7.out.c1; rw [Nat.zero_add] at this; exact this)
        have HC8 := Lib.hid (show w7.cell? ⟨p, 67, none⟩ = some (.int .i64 s.bytes) from by rw [← HP7.out.2.2.2.2.1]; exact HM7.out.at_.c67)
        clear HM5 HX5
        refine wp_region_gg (n := 10) [Fg.eq (.pointer (some ⟨p, 0, none⟩)), Fg.eq (.pointer (some ⟨p, 0, none⟩)), Fg.eq (.pointer (some ⟨p, 67, none⟩)), Fg.eq (.int .i64 s.bytes), Fg.eq (.pointer (some ⟨bx, 0, none⟩)), Fg.eq (.pointer (some ⟨bx, 1, none⟩)), Fg.eq (.int .i64 x.len), Fg.eq (.int .i64 (s.bytes + x.len)), Fg.eq (.pointer (some ⟨p, 0, none⟩)), Fg.eq (.pointer (some ⟨p, 67, none⟩))] [49, 50, 51, 52, 53, 54, 55, 56, 57, 58] (by kernel_rfl) (by kernel_rfl) (by kernel_rfl) ?_ ?_
        · intro L i o' ac w1 hi ho hA
          have hgr : Gr w7 w1 := (Gr.refl w7).drew.trans hA.gr
          match i, hi with
          | 0, _ =>
            obtain rfl := Option.some.inj ho
            exact gg_plain rfl (gstep_val (q_move rfl (show ac.eval (.tmp 0) = .pointer (some ⟨p, 0, none⟩) from hA.other 0 (by decide))) rfl)
          | 1, _ =>
            obtain rfl := Option.some.inj ho
            exact gg_plain rfl (gstep_val (q_nil rfl (hA.fact 0 (hA.dep 0 (by kernel_rfl) (by decide)))) rfl)
          | 2, _ =>
            obtain rfl := Option.some.inj ho
            exact gg_plain rfl (gstep_val (rnp_fa_fair_Rounds_6 rfl (hA.fact 1 (hA.dep 1 (by kernel_rfl) (by decide)))) rfl)
          | 3, _ =>
            obtain rfl := Option.some.inj ho
            exact gg_plain rfl (gstep_val (q_loadI rfl (hA.fact 2 (hA.dep 2 (by kernel_rfl) (by decide))) (hgr.cell HC8.out)) rfl)
          | 4, _ =>
            obtain rfl := Option.some.inj ho
            exact gg_plain rfl (gstep_val (rnp_fa_queue_Held_0 rfl (show ac.eval (.tmp 5) = .pointer (some ⟨bx, 0, none⟩) from hA.other 5 (by decide))) rfl)
          | 5, _ =>
            obtain rfl := Option.some.inj ho
            exact gg_plain rfl (gstep_val (rnp_fa_api_Item_1 rfl (hA.fact 4 (hA.dep 4 (by kernel_rfl) (by decide)))) rfl)
          | 6, _ =>
            obtain rfl := Option.some.inj ho
            exact gg_plain rfl (gstep_val (q_loadI rfl (hA.fact 5 (hA.dep 5 (by kernel_rfl) (by decide))) (hgr.cell HX8.out)) rfl)
          | 7, _ =>
            obtain rfl := Option.some.inj ho
            exact gg_plain rfl (gstep_val (rnp_add rfl (hA.fact 3 (hA.dep 3 (by kernel_rfl) (by decide))) (hA.fact 6 (hA.dep 6 (by kernel_rfl) (by decide))) (DY.out)) rfl)
          | 8, _ =>
            obtain rfl := Option.some.inj ho
            exact gg_plain rfl (gstep_val (q_nil rfl (hA.fact 0 (hA.dep 0 (by kernel_rfl) (by decide)))) rfl)
          | 9, _ =>
            obtain rfl := Option.some.inj ho
            exact gg_plain rfl (gstep_val (rnp_fa_fair_Rounds_6 rfl (hA.fact 8 (hA.dep 8 (by kernel_rfl) (by decide)))) rfl)
          | k + 10, hk => exact absurd (show k + 10 < 10 from hk) (by omega)
        · intro vz we hg5 hv
          have HGU := Lib.hid ((Gr.refl w7).drew.trans hg5)
          have v56 : vz 7 = .int .i64 (s.bytes + x.len) := hv 7 (by omega)
          have v58 : vz 9 = .pointer (some ⟨p, 67, none⟩) := hv 9 (by omega)
          clear hv hg5
          simp only [putN, List.drop_succ_cons, List.drop_zero, List.getElem?_cons_succ, List.getElem?_cons_zero]
          generalize vz 7 = z56 at *
          subst v56
          generalize vz 9 = z58 at *
          subst v58
          generalize vz 0 = z49 at *
          generalize vz 1 = z50 at *
          generalize vz 2 = z51 at *
          generalize vz 3 = z52 at *
          generalize vz 4 = z53 at *
          generalize vz 5 = z54 at *
          generalize vz 6 = z55 at *
          generalize vz 8 = z57 at *
          have HM8 := Lib.hid (HM7.out.gr HGU.out)
          have c67 := HM8.out.at_.c67
          have f67 := HM8.out.at_.free 67
          go_upto_region 9 with fail
          have HM9 := Lib.hid (HM8.out.setY (s.bytes + x.len))
          generalize we.setCell ⟨p, 67, none⟩ (.int .i64 (s.bytes + x.len)) = w9 at *
          clear c67 f67 HM7 HX7 HX8 HC8 HM8 HGU
          have c68 : w9.cell? ⟨p, 68, none⟩ = some (.int .i64 s.many) := by rw [← HP7.out.2.2.2.2.2]; exact HM9.out.at_.c68
          have f68 := HM9.out.at_.free 68
          go_wp2
          rw [HWM.out]
          go_ret
          exact ⟨rfl, _, (HM9.out.setM (s.many + 1)).did, HP7.out.1, HP7.out.2.1, HP7.out.2.2.1, HP7.out.2.2.2.1, rfl, rfl⟩
end Go.Proofs.YtbpofdfehcbppaaDoor

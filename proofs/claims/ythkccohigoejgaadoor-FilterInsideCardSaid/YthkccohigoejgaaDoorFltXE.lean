/-
  The program's Inside, walked.
-/
import Derived.Test.YthkccohigoejgaaDoorFltXB
import Derived.Test.YthkccohigoejgaaDoorFltXD
import Derived.Test.YthkccohigoejgaaDoorFltO
namespace Go.Proofs.YthkccohigoejgaaDoor
open Go Go.RowKit

theorem ta_n1 (v : Value) (w : World) : (Instr.typeAssert (.iface 76 v) 31 64 true).run Tryd.prog w = .ok (.tuple #[.agg #[.nilIface], .bool false]) w := by kernel_rfl
theorem ta_n2 (v : Value) (w : World) : (Instr.typeAssert (.iface 86 v) 31 64 true).run Tryd.prog w = .ok (.tuple #[.agg #[.nilIface], .bool false]) w := by kernel_rfl
theorem ta_n3 (v : Value) (w : World) : (Instr.typeAssert (.iface 66 v) 31 64 true).run Tryd.prog w = .ok (.tuple #[.agg #[.nilIface], .bool false]) w := by kernel_rfl
theorem ta_n4 (v : Value) (w : World) : (Instr.typeAssert (.iface 64 v) 31 64 true).run Tryd.prog w = .ok (.tuple #[v, .bool true]) w := by kernel_rfl
theorem ta_s1 (v : Value) (w : World) : (Instr.typeAssert (.iface 76 v) 31 66 true).run Tryd.prog w = .ok (.tuple #[.agg #[.slice none 0 0, .bool false], .bool false]) w := by kernel_rfl
theorem ta_s2 (v : Value) (w : World) : (Instr.typeAssert (.iface 86 v) 31 66 true).run Tryd.prog w = .ok (.tuple #[.agg #[.slice none 0 0, .bool false], .bool false]) w := by kernel_rfl
theorem ta_s3 (v : Value) (w : World) : (Instr.typeAssert (.iface 66 v) 31 66 true).run Tryd.prog w = .ok (.tuple #[v, .bool true]) w := by kernel_rfl
theorem ta_s4 (v : Value) (w : World) : (Instr.typeAssert (.iface 64 v) 31 66 true).run Tryd.prog w = .ok (.tuple #[.agg #[.slice none 0 0, .bool false], .bool false]) w := by kernel_rfl
section
variable {ev : Operand → Value} {o : Oper} {w : World} {x y : Operand} {u : Value}
theorem e_fa0 {q : Nat} (ho : o.op = .fieldAddr 66 x 0) (h : ev x = .pointer (some ⟨q, 0, none⟩)) : (execOp ev o).run Tryd.prog w = .ok (.value (.pointer (some ⟨q, 0, none⟩))) w := by simp [execOp, ho, h, go_sem]
theorem e_load {ad : Addr} {a : Option Addr} {n c : Nat} (ho : o.op = .load 39 x) (h : ev x = .pointer (some ad)) (hc : w.cell? ad = some (.slice a n c)) : (execOp ev o).run Tryd.prog w = .ok (.value (.slice a n c)) w := by simp [execOp, ho, h, hc, go_sem]
theorem e_call {v : Value} (ho : o.op = .call { callee := .value (.func 10), args := #[x], argTypes := #[31] }) (hf : ev (.func 10) = .func (.func 10) #[] #[]) (h : ev x = v) : (execOp ev o).run Tryd.prog w = .ok (.enter 10 #[v]) w := by
  simp [execOp, ho, hf, h, resolve, invoke, go_sem]
theorem e_build {t : TypeId} {v : Value} (ho : o.op = .buildSlice 39 1 #[(0, y)]) (h : ev y = .iface t v) : (execOp ev o).run Tryd.prog w = .ok (.value (.slice (some ⟨w.heap.size, 0, none⟩) 1 1)) (w.alloc (.cells #[.iface t v] 31)) := by simp [execOp, ho, h, go_sem]
theorem e_not {t : TypeId} {v : Value} (ho : o.op = .build 64 #[(0, y)]) (h : ev y = .iface t v) : (execOp ev o).run Tryd.prog w = .ok (.value (.agg #[.iface t v])) w := by simp [execOp, ho, h, go_sem]
theorem e_iface {v : Value} (ho : o.op = .makeInterface 64 x) (h : ev x = v) : (execOp ev o).run Tryd.prog w = .ok (.value (.iface 64 v)) w := by simp [execOp, ho, h, go_sem]
end
/-- What Inside answers. -/
def InsA (B d : Nat) (w : World) (f : Flt) (E : Ending) (w2 : World) : Prop := ∃ u, E = .returned u ∧ Gr w w2 ∧ FltV (fun g => g < B ∨ w.heap.size ≤ g) d w2 u f
theorem InsA.kid {B d i N : Nat} {w w2 : World} {F : Nat → Flt} {E : Ending} (h : InsA B d w (F i) E w2) (hN : N ≤ w.heap.size) : ∃ u, E = .returned u ∧ Gr w w2 ∧ kidP (kF d F) isIf i B N u w2 := by
  obtain ⟨u, h1, h2, h3⟩ := h
  obtain ⟨t, y, rfl⟩ := h3.iface
  exact ⟨_, h1, h2, _, h3, fun g hg => hg.imp id (Nat.le_trans hN), .inr ⟨_, _, rfl⟩, rfl⟩
theorem kidP.iface {B d i N : Nat} {w : World} {u : Value} {F : Nat → Flt} (h : kidP (kF d F) isIf i B N u w) : ∃ t y, u = .iface t y := by
  obtain ⟨Sk, h1, _⟩ := h
  exact FltV.iface h1
set_option maxRecDepth 100000 in
set_option maxHeartbeats 4000000 in
theorem inside_leaf (v : Value) (w : World) (h : v = .iface 76 (.agg #[]) ∨ ∃ y, v = .iface 86 y) : Calls Tryd.prog 10 #[v] w fun E w' => E = .returned v ∧ Gr w w' := by
  have a1 := ta_n1
  have a2 := ta_n2
  have b1 := ta_s1
  have b2 := ta_s2
  rcases h with rfl | ⟨y, rfl⟩
  · go_enter Tryd.func10, Tryd.ntmps10
    go_wp2
    go_ret
    exact ⟨rfl, Gr.refl _⟩
  · go_enter Tryd.func10, Tryd.ntmps10
    go_wp2
    go_ret
    exact ⟨rfl, Gr.refl _⟩
set_option maxRecDepth 100000 in
set_option maxHeartbeats 4000000 in
theorem inside_notleaf (v : Value) (w : World) (h : v = .iface 76 (.agg #[]) ∨ ∃ y, v = .iface 86 y) : Calls Tryd.prog 10 #[.iface 64 (.agg #[v])] w fun E w' => E = .returned (.iface 64 (.agg #[v])) ∧ Gr w w' := by
  have a1 := ta_n1
  have a2 := ta_n2
  have a4 := ta_n4
  have b1 := ta_s1
  have b2 := ta_s2
  have b4 := ta_s4
  rcases h with rfl | ⟨y, rfl⟩
  · go_enter Tryd.func10, Tryd.ntmps10
    go_wp2
    go_ret
    exact ⟨rfl, (Gr.refl _).alloc _⟩
  · go_enter Tryd.func10, Tryd.ntmps10
    go_wp2
    go_ret
    exact ⟨rfl, (Gr.refl _).alloc _⟩
set_option maxRecDepth 100000 in
set_option maxHeartbeats 4000000 in
theorem inside_notnot (t : TypeId) (y : Value) (w : World) (R : Value → World → Prop) (h : ∀ w2, Gr w w2 → Calls Tryd.prog 10 #[.iface t y] w2 fun E w3 => ∃ u, E = .returned u ∧ Gr w2 w3 ∧ R u w3) : Calls Tryd.prog 10 #[.iface 64 (.agg #[.iface 64 (.agg #[.iface t y])])] w fun E w' => ∃ u, E = .returned u ∧ Gr w w' ∧ R u w' := by
  have a4 := ta_n4
  have H := Lib.hid h
  clear h
  go_enter Tryd.func10, Tryd.ntmps10
  go_wp2_with (go_at_call 10; refine (H.out _ (((Gr.refl _).alloc _).alloc _)).mono ?_; rintro E w3 ⟨u, rfl, hg, hr⟩; have HG := Lib.hid hg; have HR := Lib.hid hr; clear hg hr)
  go_ret
  exact ⟨u, rfl, (((Gr.refl _).alloc _).alloc _).trans HG.out, HR.out⟩
set_option maxRecDepth 100000 in
set_option maxHeartbeats 8000000 in
theorem inside_many (d B : Nat) (F : Nat → Flt) (s : Value) (vs : List Value) (l2 : List Flt) (o : Bool) (w : World) (hB : B ≤ w.heap.size) (row : IfRow w s vs) (hl : vs.length = l2.length) (h0 : 0 < l2.length) (h1 : l2.length ≤ 2001) (hF : ∀ i, i < l2.length → F i = l2.getD i .any)
    (hif : ∀ i, i < l2.length → ∃ ti yi, vs.getD i .nilIface = .iface ti yi)
    (IH : ∀ i, i < l2.length → ∀ ti yi, vs.getD i .nilIface = .iface ti yi → ∀ w2, Gr w w2 → Calls Tryd.prog 10 #[(.iface ti yi)] w2 (InsA B d w2 (F i))) :
    Calls Tryd.prog 10 #[.iface 66 (.agg #[s, .bool o])] w (InsA B (d + 1) w (.many l2 o)) := by
  obtain ⟨g, off, cap, rfl, hc1, hc2, hcell⟩ := Row.cells row (by rw [hl]; exact h0)
  obtain ⟨n, hn⟩ : ∃ n, n = l2.length := ⟨_, rfl⟩
  rw [hl] at hc1 ⊢
  rw [← hn] at hc1 h0 h1 hif IH hF ⊢
  have HN := Lib.hid hn
  have HL := Lib.hid (hl.trans hn.symm)
  have HIF := Lib.hid hif
  have HIH := Lib.hid IH
  have HFF := Lib.hid hF
  have HB0 := Lib.hid hB
  obtain ⟨i0, hi0, hz0, hz1, hz2⟩ := info_parts ifInfo
  have HCELL : Hid (∀ i, i < n → w.cell? ⟨g, off + i, none⟩ = some (vs.getD i .nilIface)) := Lib.hid (fun i hi => hcell i _ (by rw [List.getD_eq_getElem?_getD, List.getElem?_eq_getElem (by rw [hl, ← hn]; exact hi)]; rfl))
  clear hif IH hcell row hl hn hF hB
  have n0 : (0 : Int) < (n : Int) := by omega
  have n1 : (n : Int) ≤ 2001 := by omega
  have t0 := ta_n3
  have t1 := ta_s3
  go_enter Tryd.func10, Tryd.ntmps10
  go_upto_region 20 with fail
  obtain ⟨q, hq⟩ : ∃ q, q = w.heap.size := ⟨_, rfl⟩
  obtain ⟨w1, hw1⟩ : ∃ w1, w1 = ((w.alloc (.cells #[.slice (some ⟨g, off, none⟩) n cap, .bool o] 66)).alloc (.cells #[.slice none 0 0, .bool o] 66)) := ⟨_, rfl⟩
  have HW1 : Hid (w1.cell? ⟨q, 0, none⟩ = some (.slice (some ⟨g, off, none⟩) n cap) ∧ HB w1 (q + 1) #[.slice none 0 0, .bool o] 66 ∧ Gr w w1) := Lib.hid (by
    rw [hw1, hq]
    exact ⟨by simp, by simpa using HB.new (w.alloc (.cells #[.slice (some ⟨g, off, none⟩) n cap, .bool o] 66)) #[.slice none 0 0, .bool o] 66, ((Gr.refl w).alloc _).alloc _⟩)
  have HQ := Lib.hid hq
  rw [← hw1, ← hq]
  clear hw1 hq
  obtain ⟨p, hp⟩ : ∃ p, p = q + 1 := ⟨_, rfl⟩
  have HP := Lib.hid hp
  rw [← hp] at HW1 ⊢
  clear hp
  have c0 := HW1.out.1
  have HGR : Hid (Gr w w) := Lib.hid (Gr.refl w)
  go_wp2
  go_loopw [60] (fun sx wr => ∃ (i : Nat) (s : Value) (ws : List Value) (S : Nat → Prop), i ≤ n ∧ sx = .int .i64 (i : Int) ∧ Hid (InAt 31 isIf (kF d F) 66 (fun s => #[s, .bool o]) B p i .nilIface w wr s ws S)) (fun s _ => n - (intOf s).toNat)
  case atStart => exact ⟨0, _, _, _, Nat.zero_le _, rfl, Lib.hid (InAt.nil HW1.out.2.1 HB0.out (by rw [HP.out, HQ.out]; omega) HW1.out.2.2)⟩
  case round =>
    obtain ⟨i, s, ws, S, hi, rfl, HIA⟩ := hrel
    obtain ⟨va, vc, rfl⟩ := Row.shape HIA.out.row
    have i0' : (0 : Int) ≤ (i : Int) := by omega
    have HC0 : Hid (wr.cell? ⟨p, 0, none⟩ = some (.slice va ws.length vc)) := Lib.hid (cell_of_row _ _ 0 _ _ _ HIA.out.bl)
    have HC1 : Hid (wr.cell? ⟨p, 1, none⟩ = some (.bool o)) := Lib.hid (cell_of_row _ _ 1 _ _ _ HIA.out.bl)
    have HF0 : Hid (wr.frozen? ⟨p, 0, none⟩ = false) := Lib.hid (by unfold World.frozen?; simp [HIA.out.bl])
    have HNO : Hid (¬ (Value.slice va ws.length vc).ownBlock = some p) := Lib.hid HIA.out.not_own
    have HOW : Hid (∀ g, (Value.slice va ws.length vc).ownBlock = some g → w.heap.size ≤ g) := Lib.hid (fun g e => by have := (HIA.out.own g e).1; have := HIA.out.pw; omega)
    have HD : Hid (∀ g, (Value.slice va ws.length vc).ownBlock = some g → ¬ (g < B ∨ wr.heap.size ≤ g)) := Lib.hid (fun g e => by have := (HIA.out.own g e).1; have := HIA.out.pw; have := HIA.out.bw; have := Row.lt HIA.out.row e; omega)
    have HFEW : Hid (ws.length ≤ 999999) := Lib.hid (by have := HIA.out.len; omega)
    by_cases hlt : i < n
    · have i1 : (i : Int) < (n : Int) := by omega
      obtain ⟨ti, yi, hv⟩ := HIF.out i hlt
      have hce : wr.cell? ⟨g, off + i, none⟩ = some (.iface ti yi) := by rw [← hv]; exact HIA.out.gr.cell (HCELL.out i hlt)
      have HV := Lib.hid hv
      have HLT := Lib.hid hlt
      clear hv
      go_upto_region 23 with fail
      refine wp_region_k (n := 7) (fun u => Sav (fun g => (Value.slice va ws.length vc).ownBlock = some g) wr u ∧ Row 31 1 isIf u (.slice va ws.length vc) ws.length ws) [Fg.eq (.pointer (some ⟨p, 0, none⟩)), Fg.eq (.slice va ws.length vc), Fg.eq (.iface ti yi), Fg.kidI (kF_ok d F) isIf i B wr.heap.size, Fg.boxI (kF_ok d F) isIf i B wr.heap.size, Fg.appI (kF_ok d F) 31 isIf (.slice va ws.length vc) ws i B wr.heap.size, Fg.eq (.pointer (some ⟨p, 0, none⟩))] [64, 65, 66, 67, 68, 69, 70] ⟨.of_gr (Gr.refl wr).drew, Row.gr HIA.out.row (Gr.refl wr).drew⟩ (by kernel_rfl) (by kernel_rfl) (by kernel_rfl) ?_ ?_
      · intro L' q' o' ac w1' hi' ho hA
        have hI := hA.gr
        match q', hi' with
        | 0, _ =>
          obtain rfl := Option.some.inj ho
          exact kstep_val hA (e_fa0 rfl (show ac.eval (.tmp 10) = .pointer (some ⟨p, 0, none⟩) from hA.other 10 (by decide))) rfl
        | 1, _ =>
          obtain rfl := Option.some.inj ho
          exact kstep_val hA (e_load rfl (hA.fact 0 (hA.dep 0 (by kernel_rfl) (by decide))) (hI.1.cell HC0.out HNO.out)) rfl
        | 2, _ =>
          obtain rfl := Option.some.inj ho
          exact kstep_val hA (m_move rfl (show ac.eval (.tmp 12) = .iface ti yi from hA.other 12 (by decide))) rfl
        | 3, _ =>
          obtain rfl := Option.some.inj ho
          refine kstep_call hA (e_call rfl rfl (hA.fact 2 (hA.dep 2 (by kernel_rfl) (by decide)))) ((HIH.out i HLT.out ti yi HV.out w1' (HGR.out.trans (hI.1.gr HIA.out.gr HOW.out))).mono ?_)
          rintro E w9 hq
          obtain ⟨u, rfl, hg, hk⟩ := hq.kid hI.1.size
          exact ⟨u, rfl, ⟨hI.1.then (.of_gr hg), Row.gr hI.2 hg⟩, hk, fun j _ v h => (fgAt _ j).mono _ _ _ h hg⟩
        | 4, _ =>
          obtain rfl := Option.some.inj ho
          obtain ⟨ta, ya, hv⟩ := kidP.iface (hA.fact 3 (hA.dep 3 (by kernel_rfl) (by decide)))
          have hkp : kidP (kF d F) isIf i B wr.heap.size (.iface ta ya) w1' := by
            rw [← hv]
            exact (hA.fact 3 (hA.dep 3 (by kernel_rfl) (by decide)))
          exact kstep_gr hA (e_build rfl hv) ((Gr.refl _).alloc _) ⟨hI.1.then (.of_gr ((Gr.refl _).alloc _)), Row.gr hI.2 ((Gr.refl _).alloc _)⟩ ⟨_, .iface ta ya, rfl, hI.1.size, (HB.new _ _ _).c 0 rfl, kidP.gr (kF_ok d F) hkp ((Gr.refl _).alloc _)⟩
        | 5, _ =>
          obtain rfl := Option.some.inj ho
          obtain ⟨v', w', hr, sv, hold, happ⟩ := in_app (kF_ok d F) (P := Tryd.prog) 39 39 i0 .nilIface 16 Tryd.underlying39 hi0 hz0 hz1 hz2 rfl (by intro u hu; simp [Value.cells] at hu; exact .inl hu) (by decide) hI.2 HFEW.out (hA.fact 4 (hA.dep 4 (by kernel_rfl) (by decide))) hI.1.size
          refine kstep_keep hA (s_app rfl (hA.fact 1 (hA.dep 1 (by kernel_rfl) (by decide))) rfl hr) ⟨hI.1.then sv, hold⟩ (happ HD.out) ?_
          intro j hj u hu
          match j, hj, hu with
          | 0, _, hu => exact hu
          | 1, _, hu => exact hu
          | 2, _, hu => exact hu
          | 3, _, hu => exact kidP.sav (kF_ok d F) HD.out hu sv
          | 4, _, hu => exact boxP.sav (kF_ok d F) HD.out hu sv
          | 5, hj, _ => exact absurd rfl hj
          | 6, _, hu => exact hu
          | j + 7, _, hu => trivial
        | 6, _ =>
          obtain rfl := Option.some.inj ho
          exact kstep_val hA (e_fa0 rfl (show ac.eval (.tmp 10) = .pointer (some ⟨p, 0, none⟩) from hA.other 10 (by decide))) rfl
        | k + 7, hk => exact absurd (show k + 7 < 7 from hk) (by omega)
      · intro vs5 w5 hI hv
        have happ : appP 31 (kF d F) isIf (.slice va ws.length vc) ws i B wr.heap.size (vs5 5) w5 := hv 5 (by omega)
        have vz : vs5 6 = .pointer (some ⟨p, 0, none⟩) := hv 6 (by omega)
        have hsv := hI.1
        clear hv hI
        simp only [putN, List.drop_succ_cons, List.drop_zero, List.getElem?_cons_succ, List.getElem?_cons_zero, vz]
        clear vz
        generalize vs5 5 = zz at *
        generalize vs5 0 = z0
        generalize vs5 1 = z1
        generalize vs5 2 = z2
        generalize vs5 3 = z3
        generalize vs5 4 = z4
        obtain ⟨vk, Sk, hrow, hkk, hss, hown⟩ := happ
        obtain ⟨ra, rc, rfl⟩ := Row.shape hrow
        have HN2 := Lib.hid (HIA.out.more (kF_ok d F) (off := 0) (fun w hw => by simp [World.setCell, Array.getElem?_modify, hw]) hsv hrow hkk hss hown)
        have d0 := hsv.cell HC0.out HNO.out
        have d2 := hsv.frozen (p := ⟨p, 0, none⟩) (cell_lt HC0.out) HF0.out HNO.out
        clear hsv hrow hkk hss hown
        go_wp2
        go_roundw
        case rel => exact ⟨i + 1, _, _, _, by omega, by go_num, HN2⟩
        case measure => simp [intOf]; omega
    · obtain rfl : i = n := by omega
      have k0 := HC0.out
      have k1 := HC1.out
      have HE : Hid (FltV (fun g => g < B ∨ w.heap.size ≤ g) (d + 1) wr (.iface 66 (.agg #[.slice va ws.length vc, .bool o])) (.many l2 (o))) := Lib.hid (by
        have hin := HIA.out
        refine ⟨_, ws, rfl, hin.row, fun g hg => .inr (by have := (hin.own g hg).1; have := hin.pw; omega), hin.len.trans HN.out, by rw [← HN.out]; exact h0, by rw [← HN.out]; exact h1, fun j hj => ?_⟩
        rw [← HN.out] at hj
        have h9 := hin.kids j hj
        unfold kF at h9
        rw [HFF.out j hj] at h9
        exact FltV.mono (fun g hg => hg) (FltV.mono (fun g hg => (hin.sin g hg).1.imp id fun e => by have := hin.pw; omega) h9))
      go_wp2
      go_ret
      exact ⟨_, rfl, HIA.out.gr, HE.out⟩
set_option maxRecDepth 100000 in
set_option maxHeartbeats 8000000 in
theorem inside_notmany (d B : Nat) (F : Nat → Flt) (s : Value) (vs : List Value) (l2 : List Flt) (o : Bool) (w : World) (hB : B ≤ w.heap.size) (row : IfRow w s vs) (hl : vs.length = l2.length) (h0 : 0 < l2.length) (h1 : l2.length ≤ 2001) (hF : ∀ i, i < l2.length → F i = l2.getD i .any)
    (hif : ∀ i, i < l2.length → ∃ ti yi, vs.getD i .nilIface = .iface ti yi)
    (IH : ∀ i, i < l2.length → ∀ ti yi, vs.getD i .nilIface = .iface ti yi → ∀ w2, Gr w w2 → Calls Tryd.prog 10 #[(.iface 64 (.agg #[.iface ti yi]))] w2 (InsA B d w2 (F i))) :
    Calls Tryd.prog 10 #[.iface 64 (.agg #[.iface 66 (.agg #[s, .bool o])])] w (InsA B (d + 1) w (.many l2 (!o))) := by
  obtain ⟨g, off, cap, rfl, hc1, hc2, hcell⟩ := Row.cells row (by rw [hl]; exact h0)
  obtain ⟨n, hn⟩ : ∃ n, n = l2.length := ⟨_, rfl⟩
  rw [hl] at hc1 ⊢
  rw [← hn] at hc1 h0 h1 hif IH hF ⊢
  have HN := Lib.hid hn
  have HL := Lib.hid (hl.trans hn.symm)
  have HIF := Lib.hid hif
  have HIH := Lib.hid IH
  have HFF := Lib.hid hF
  have HB0 := Lib.hid hB
  obtain ⟨i0, hi0, hz0, hz1, hz2⟩ := info_parts ifInfo
  have HCELL : Hid (∀ i, i < n → w.cell? ⟨g, off + i, none⟩ = some (vs.getD i .nilIface)) := Lib.hid (fun i hi => hcell i _ (by rw [List.getD_eq_getElem?_getD, List.getElem?_eq_getElem (by rw [hl, ← hn]; exact hi)]; rfl))
  clear hif IH hcell row hl hn hF hB
  have n0 : (0 : Int) < (n : Int) := by omega
  have n1 : (n : Int) ≤ 2001 := by omega
  have t0 := ta_n3
  have t1 := ta_n4
  have t2 := ta_s3
  go_enter Tryd.func10, Tryd.ntmps10
  go_upto_region 11 with fail
  obtain ⟨q, hq⟩ : ∃ q, q = w.heap.size := ⟨_, rfl⟩
  obtain ⟨w1, hw1⟩ : ∃ w1, w1 = (((w.alloc (.cells #[.iface 66 (.agg #[.slice (some ⟨g, off, none⟩) n cap, .bool o])] 64)).alloc (.cells #[.slice (some ⟨g, off, none⟩) n cap, .bool o] 66)).alloc (.cells #[.slice none 0 0, .bool !o] 66)) := ⟨_, rfl⟩
  have HW1 : Hid (w1.cell? ⟨q + 1, 0, none⟩ = some (.slice (some ⟨g, off, none⟩) n cap) ∧ HB w1 (q + 1 + 1) #[.slice none 0 0, .bool !o] 66 ∧ Gr w w1) := Lib.hid (by
    rw [hw1, hq]
    exact ⟨by simpa using ((HB.new (w.alloc (.cells #[.iface 66 (.agg #[.slice (some ⟨g, off, none⟩) n cap, .bool o])] 64)) #[.slice (some ⟨g, off, none⟩) n cap, .bool o] 66).gr ((Gr.refl _).alloc (.cells #[.slice none 0 0, .bool !o] 66))).c 0 rfl, by simpa using HB.new ((w.alloc (.cells #[.iface 66 (.agg #[.slice (some ⟨g, off, none⟩) n cap, .bool o])] 64)).alloc (.cells #[.slice (some ⟨g, off, none⟩) n cap, .bool o] 66)) #[.slice none 0 0, .bool !o] 66, (((Gr.refl w).alloc _).alloc _).alloc _⟩)
  have HQ := Lib.hid hq
  rw [← hw1, ← hq]
  clear hw1 hq
  obtain ⟨p, hp⟩ : ∃ p, p = q + 1 + 1 := ⟨_, rfl⟩
  have HP := Lib.hid hp
  rw [← hp] at HW1 ⊢
  clear hp
  have c0 := HW1.out.1
  have HGR : Hid (Gr w w) := Lib.hid (Gr.refl w)
  go_wp2
  go_loopw [35] (fun sx wr => ∃ (i : Nat) (s : Value) (ws : List Value) (S : Nat → Prop), i ≤ n ∧ sx = .int .i64 (i : Int) ∧ Hid (InAt 31 isIf (kF d F) 66 (fun s => #[s, .bool !o]) B p i .nilIface w wr s ws S)) (fun s _ => n - (intOf s).toNat)
  case atStart => exact ⟨0, _, _, _, Nat.zero_le _, rfl, Lib.hid (InAt.nil HW1.out.2.1 HB0.out (by rw [HP.out, HQ.out]; omega) HW1.out.2.2)⟩
  case round =>
    obtain ⟨i, s, ws, S, hi, rfl, HIA⟩ := hrel
    obtain ⟨va, vc, rfl⟩ := Row.shape HIA.out.row
    have i0' : (0 : Int) ≤ (i : Int) := by omega
    have HC0 : Hid (wr.cell? ⟨p, 0, none⟩ = some (.slice va ws.length vc)) := Lib.hid (cell_of_row _ _ 0 _ _ _ HIA.out.bl)
    have HC1 : Hid (wr.cell? ⟨p, 1, none⟩ = some (.bool !o)) := Lib.hid (cell_of_row _ _ 1 _ _ _ HIA.out.bl)
    have HF0 : Hid (wr.frozen? ⟨p, 0, none⟩ = false) := Lib.hid (by unfold World.frozen?; simp [HIA.out.bl])
    have HNO : Hid (¬ (Value.slice va ws.length vc).ownBlock = some p) := Lib.hid HIA.out.not_own
    have HOW : Hid (∀ g, (Value.slice va ws.length vc).ownBlock = some g → w.heap.size ≤ g) := Lib.hid (fun g e => by have := (HIA.out.own g e).1; have := HIA.out.pw; omega)
    have HD : Hid (∀ g, (Value.slice va ws.length vc).ownBlock = some g → ¬ (g < B ∨ wr.heap.size ≤ g)) := Lib.hid (fun g e => by have := (HIA.out.own g e).1; have := HIA.out.pw; have := HIA.out.bw; have := Row.lt HIA.out.row e; omega)
    have HFEW : Hid (ws.length ≤ 999999) := Lib.hid (by have := HIA.out.len; omega)
    by_cases hlt : i < n
    · have i1 : (i : Int) < (n : Int) := by omega
      obtain ⟨ti, yi, hv⟩ := HIF.out i hlt
      have hce : wr.cell? ⟨g, off + i, none⟩ = some (.iface ti yi) := by rw [← hv]; exact HIA.out.gr.cell (HCELL.out i hlt)
      have HV := Lib.hid hv
      have HLT := Lib.hid hlt
      clear hv
      go_upto_region 14 with fail
      refine wp_region_k (n := 9) (fun u => Sav (fun g => (Value.slice va ws.length vc).ownBlock = some g) wr u ∧ Row 31 1 isIf u (.slice va ws.length vc) ws.length ws) [Fg.eq (.pointer (some ⟨p, 0, none⟩)), Fg.eq (.slice va ws.length vc), Fg.eq (.iface ti yi), Fg.eq (.agg #[.iface ti yi]), Fg.eq (.iface 64 (.agg #[.iface ti yi])), Fg.kidI (kF_ok d F) isIf i B wr.heap.size, Fg.boxI (kF_ok d F) isIf i B wr.heap.size, Fg.appI (kF_ok d F) 31 isIf (.slice va ws.length vc) ws i B wr.heap.size, Fg.eq (.pointer (some ⟨p, 0, none⟩))] [39, 40, 41, 42, 43, 44, 45, 46, 47] ⟨.of_gr (Gr.refl wr).drew, Row.gr HIA.out.row (Gr.refl wr).drew⟩ (by kernel_rfl) (by kernel_rfl) (by kernel_rfl) ?_ ?_
      · intro L' q' o' ac w1' hi' ho hA
        have hI := hA.gr
        match q', hi' with
        | 0, _ =>
          obtain rfl := Option.some.inj ho
          exact kstep_val hA (e_fa0 rfl (show ac.eval (.tmp 6) = .pointer (some ⟨p, 0, none⟩) from hA.other 6 (by decide))) rfl
        | 1, _ =>
          obtain rfl := Option.some.inj ho
          exact kstep_val hA (e_load rfl (hA.fact 0 (hA.dep 0 (by kernel_rfl) (by decide))) (hI.1.cell HC0.out HNO.out)) rfl
        | 2, _ =>
          obtain rfl := Option.some.inj ho
          exact kstep_val hA (m_move rfl (show ac.eval (.tmp 8) = .iface ti yi from hA.other 8 (by decide))) rfl
        | 3, _ =>
          obtain rfl := Option.some.inj ho
          exact kstep_val hA (e_not rfl (hA.fact 2 (hA.dep 2 (by kernel_rfl) (by decide)))) rfl
        | 4, _ =>
          obtain rfl := Option.some.inj ho
          exact kstep_val hA (e_iface rfl (hA.fact 3 (hA.dep 3 (by kernel_rfl) (by decide)))) rfl
        | 5, _ =>
          obtain rfl := Option.some.inj ho
          refine kstep_call hA (e_call rfl rfl (hA.fact 4 (hA.dep 4 (by kernel_rfl) (by decide)))) ((HIH.out i HLT.out ti yi HV.out w1' (HGR.out.trans (hI.1.gr HIA.out.gr HOW.out))).mono ?_)
          rintro E w9 hq
          obtain ⟨u, rfl, hg, hk⟩ := hq.kid hI.1.size
          exact ⟨u, rfl, ⟨hI.1.then (.of_gr hg), Row.gr hI.2 hg⟩, hk, fun j _ v h => (fgAt _ j).mono _ _ _ h hg⟩
        | 6, _ =>
          obtain rfl := Option.some.inj ho
          obtain ⟨ta, ya, hv⟩ := kidP.iface (hA.fact 5 (hA.dep 5 (by kernel_rfl) (by decide)))
          have hkp : kidP (kF d F) isIf i B wr.heap.size (.iface ta ya) w1' := by
            rw [← hv]
            exact (hA.fact 5 (hA.dep 5 (by kernel_rfl) (by decide)))
          exact kstep_gr hA (e_build rfl hv) ((Gr.refl _).alloc _) ⟨hI.1.then (.of_gr ((Gr.refl _).alloc _)), Row.gr hI.2 ((Gr.refl _).alloc _)⟩ ⟨_, .iface ta ya, rfl, hI.1.size, (HB.new _ _ _).c 0 rfl, kidP.gr (kF_ok d F) hkp ((Gr.refl _).alloc _)⟩
        | 7, _ =>
          obtain rfl := Option.some.inj ho
          obtain ⟨v', w', hr, sv, hold, happ⟩ := in_app (kF_ok d F) (P := Tryd.prog) 39 39 i0 .nilIface 16 Tryd.underlying39 hi0 hz0 hz1 hz2 rfl (by intro u hu; simp [Value.cells] at hu; exact .inl hu) (by decide) hI.2 HFEW.out (hA.fact 6 (hA.dep 6 (by kernel_rfl) (by decide))) hI.1.size
          refine kstep_keep hA (s_app rfl (hA.fact 1 (hA.dep 1 (by kernel_rfl) (by decide))) rfl hr) ⟨hI.1.then sv, hold⟩ (happ HD.out) ?_
          intro j hj u hu
          match j, hj, hu with
          | 0, _, hu => exact hu
          | 1, _, hu => exact hu
          | 2, _, hu => exact hu
          | 3, _, hu => exact hu
          | 4, _, hu => exact hu
          | 5, _, hu => exact kidP.sav (kF_ok d F) HD.out hu sv
          | 6, _, hu => exact boxP.sav (kF_ok d F) HD.out hu sv
          | 7, hj, _ => exact absurd rfl hj
          | 8, _, hu => exact hu
          | j + 9, _, hu => trivial
        | 8, _ =>
          obtain rfl := Option.some.inj ho
          exact kstep_val hA (e_fa0 rfl (show ac.eval (.tmp 6) = .pointer (some ⟨p, 0, none⟩) from hA.other 6 (by decide))) rfl
        | k + 9, hk => exact absurd (show k + 9 < 9 from hk) (by omega)
      · intro vs5 w5 hI hv
        have happ : appP 31 (kF d F) isIf (.slice va ws.length vc) ws i B wr.heap.size (vs5 7) w5 := hv 7 (by omega)
        have vz : vs5 8 = .pointer (some ⟨p, 0, none⟩) := hv 8 (by omega)
        have hsv := hI.1
        clear hv hI
        simp only [putN, List.drop_succ_cons, List.drop_zero, List.getElem?_cons_succ, List.getElem?_cons_zero, vz]
        clear vz
        generalize vs5 7 = zz at *
        generalize vs5 0 = z0
        generalize vs5 1 = z1
        generalize vs5 2 = z2
        generalize vs5 3 = z3
        generalize vs5 4 = z4
        generalize vs5 5 = z5
        generalize vs5 6 = z6
        obtain ⟨vk, Sk, hrow, hkk, hss, hown⟩ := happ
        obtain ⟨ra, rc, rfl⟩ := Row.shape hrow
        have HN2 := Lib.hid (HIA.out.more (kF_ok d F) (off := 0) (fun w hw => by simp [World.setCell, Array.getElem?_modify, hw]) hsv hrow hkk hss hown)
        have d0 := hsv.cell HC0.out HNO.out
        have d2 := hsv.frozen (p := ⟨p, 0, none⟩) (cell_lt HC0.out) HF0.out HNO.out
        clear hsv hrow hkk hss hown
        go_wp2
        go_roundw
        case rel => exact ⟨i + 1, _, _, _, by omega, by go_num, HN2⟩
        case measure => simp [intOf]; omega
    · obtain rfl : i = n := by omega
      have k0 := HC0.out
      have k1 := HC1.out
      have HE : Hid (FltV (fun g => g < B ∨ w.heap.size ≤ g) (d + 1) wr (.iface 66 (.agg #[.slice va ws.length vc, .bool !o])) (.many l2 (!o))) := Lib.hid (by
        have hin := HIA.out
        refine ⟨_, ws, rfl, hin.row, fun g hg => .inr (by have := (hin.own g hg).1; have := hin.pw; omega), hin.len.trans HN.out, by rw [← HN.out]; exact h0, by rw [← HN.out]; exact h1, fun j hj => ?_⟩
        rw [← HN.out] at hj
        have h9 := hin.kids j hj
        unfold kF at h9
        rw [HFF.out j hj] at h9
        exact FltV.mono (fun g hg => hg) (FltV.mono (fun g hg => (hin.sin g hg).1.imp id fun e => by have := hin.pw; omega) h9))
      go_wp2
      go_ret
      exact ⟨_, rfl, HIA.out.gr, HE.out⟩
theorem getD_map {l : List Flt} {G : Flt → Flt} {i : Nat} (h : i < l.length) : (l.map G).getD i .any = G (l.getD i .any) := by
  rw [List.getD_eq_getElem?_getD, List.getD_eq_getElem?_getD, List.getElem?_map, List.getElem?_eq_getElem h]
  rfl
theorem InsA.up {B d : Nat} {w w2 : World} {f : Flt} {E : Ending} (h : InsA B d w f E w2) : InsA B (d + 1) w f E w2 := by
  obtain ⟨u, h1, h2, h3⟩ := h
  exact ⟨u, h1, h2, h3.up⟩
/-- Inside of any filter. -/
theorem inside_any {B : Nat} : ∀ {d : Nat} {w : World} {v : Value} {f : Flt}, FltV (fun g => g < B) d w v f → B ≤ w.heap.size → ∀ w', Gr w w' → Calls Tryd.prog 10 #[v] w' (InsA B d w' (insF false f))
  | 0, _, _, _, h, _, _, _ => h.elim
  | d + 1, w, v, f, h, hB, w', hw => by
    have hB' : B ≤ w'.heap.size := Nat.le_trans hB hw.size
    have h' : FltV (fun g => g < B) (d + 1) w' v f := h.same fun g hg => hw.block (Nat.lt_of_lt_of_le hg hB)
    have leaf : (v = .iface 76 (.agg #[]) ∨ ∃ y, v = .iface 86 y) → insF false f = f → Calls Tryd.prog 10 #[v] w' (InsA B (d + 1) w' (insF false f)) := fun hv hf => by
      rw [hf]
      refine (inside_leaf v w' hv).mono ?_
      rintro E w2 ⟨rfl, hg⟩
      exact ⟨v, rfl, hg, (h'.same fun g hl => hg.block (Nat.lt_of_lt_of_le hl hB')).mono fun g hl => .inl hl⟩
    cases f with
    | any => exact leaf (.inl h) (by rw [ins_any]; rfl)
    | test i lo hi => exact leaf (.inr ⟨_, h.1⟩) (by rw [ins_test]; rfl)
    | has i lo => exact leaf (.inr ⟨_, h.1⟩) (by rw [ins_has]; rfl)
    | many l o =>
      obtain ⟨s, vs, rfl, h2, _, h4, h5, h6, h7⟩ := h
      rw [ins_many, Bool.xor_false]
      have hlm : (l.map (insF false)).length = l.length := List.length_map ..
      refine inside_many d B (fun i => (l.map (insF false)).getD i .any) s vs (l.map (insF false)) o w' hB' (Row.gr h2 hw) (by rw [hlm]; exact h4) (by rw [hlm]; exact h5) (by rw [hlm]; exact h6) (fun i _ => rfl) (fun i hi => by rw [hlm] at hi; exact (h7 i hi).iface) fun i hi ti yi hv w2 hg => ?_
      rw [hlm] at hi
      have h9 := inside_any (h7 i hi) hB w2 (hw.trans hg)
      rw [hv] at h9
      rw [getD_map hi]
      exact h9
    | not g =>
      obtain ⟨u, rfl, h1⟩ := h
      obtain ⟨d', rfl⟩ : ∃ d', d = d' + 1 := by
        cases d with
        | zero => exact h1.elim
        | succ d' => exact ⟨d', rfl⟩
      have nleaf : (u = .iface 76 (.agg #[]) ∨ ∃ y, u = .iface 86 y) → insF false (.not g) = .not g → Calls Tryd.prog 10 #[.iface 64 (.agg #[u])] w' (InsA B (d' + 1 + 1) w' (insF false (.not g))) := fun hv hf => by
        rw [hf]
        refine (inside_notleaf u w' hv).mono ?_
        rintro E w2 ⟨rfl, hg⟩
        exact ⟨_, rfl, hg, (h'.same fun g hl => hg.block (Nat.lt_of_lt_of_le hl hB')).mono fun g hl => .inl hl⟩
      cases g with
      | any => exact nleaf (.inl h1) (by rw [ins_not, ins_any]; rfl)
      | test i lo hi => exact nleaf (.inr ⟨_, h1.1⟩) (by rw [ins_not, ins_test]; rfl)
      | has i lo => exact nleaf (.inr ⟨_, h1.1⟩) (by rw [ins_not, ins_has]; rfl)
      | not k =>
        obtain ⟨u2, rfl, h2⟩ := h1
        obtain ⟨t, y, rfl⟩ := h2.iface
        rw [ins_not, ins_not, show (!(!false)) = false from rfl]
        refine (inside_notnot t y w' (fun u w3 => FltV (fun g => g < B ∨ w'.heap.size ≤ g) d' w3 u (insF false k)) fun w2 hg => ?_).mono ?_
        · refine (inside_any h2 hB w2 (hw.trans hg)).mono ?_
          rintro E w3 ⟨u, k1, k2, k3⟩
          exact ⟨u, k1, k2, k3.mono fun g hg2 => hg2.imp id (Nat.le_trans hg.size)⟩
        · rintro E w3 ⟨u, k1, k2, k3⟩
          exact ⟨u, k1, k2, k3.up.up⟩
      | many l o =>
        obtain ⟨s, vs, rfl, h2, _, h4, h5, h6, h7⟩ := h1
        rw [ins_not, ins_many, show (!false) = true from rfl, Bool.xor_true]
        have hlm : (l.map (insF true)).length = l.length := List.length_map ..
        refine inside_notmany (d' + 1) B (fun i => (l.map (insF true)).getD i .any) s vs (l.map (insF true)) o w' hB' (Row.gr h2 hw) (by rw [hlm]; exact h4) (by rw [hlm]; exact h5) (by rw [hlm]; exact h6) (fun i _ => rfl) (fun i hi => by rw [hlm] at hi; exact (h7 i hi).iface) fun i hi ti yi hv w2 hg => ?_
        rw [hlm] at hi
        have h8 := h7 i hi
        rw [hv] at h8
        have h9 := inside_any (d := d' + 1) (w := w) (v := .iface 64 (.agg #[.iface ti yi])) (f := .not (l.getD i .any)) ⟨_, rfl, h8⟩ hB w2 (hw.trans hg)
        rw [ins_not, show (!false) = true from rfl] at h9
        rw [getD_map hi]
        exact h9
end Go.Proofs.YthkccohigoejgaaDoor

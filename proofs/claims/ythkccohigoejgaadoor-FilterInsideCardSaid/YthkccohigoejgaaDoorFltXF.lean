/-
  The reference's Inside, walked.
-/
import Derived.Test.YthkccohigoejgaaDoorFltXD
import Derived.Test.YthkccohigoejgaaDoorFltMD
import Derived.Test.YthkccohigoejgaaDoorFltXE
import Derived.Maps.Own
import Derived.Maps.StringElems
import Derived.Maps.Views
namespace Go.Proofs.YthkccohigoejgaaDoor
open Go Go.RowKit Go.Maps

theorem str_under : Tryd.prog.underlying 9 = some .string := by kernel_rfl
theorem mss_under : Tryd.prog.underlying 67 = some (.map 9 9) := by kernel_rfl
theorem str_zeroV (w : World) : (zeroValue 9).run Tryd.prog w = .ok (.string ⟨#[]⟩) w := by kernel_rfl
theorem key_and : keyOf Tryd.prog 9 (.string kAnd) = some (.string [97, 110, 100]) := by kernel_rfl
theorem key_or : keyOf Tryd.prog 9 (.string kOr) = some (.string [111, 114]) := by kernel_rfl
/-- What stands at a key of a map of strings. -/
theorem look_str {w : World} {b n : Nat} {D : DataW Unit} (h : w.ownsMap Tryd.prog 9 (plainElem Tryd.prog 9) b n D) {key : Value} {kl : Lit} (hk : keyOf Tryd.prog 9 key = some kl) {s : ByteArray} (hat : ∀ z, D.atKey kl z = .lit (.string s.data.toList)) :
    (Instr.lookup 67 (.map (some b)) key false).run Tryd.prog w = .ok (.string s) w := by
  obtain ⟨v, ps, hrun, hv⟩ := h.lookup (string_keyed str_under) mss_under (str_zeroV w) (plainElem_string str_under (s := ⟨#[]⟩) (by show 0 ≤ _; exact Nat.zero_le _)) hk
  rw [hat] at hv
  obtain ⟨c, rfl, hc, _⟩ := plainElem_string_inv str_under hv
  have h2 : s.data.toList = c.data.toList := by
    have h3 := DataW.lit.inj (congrArg Prod.fst hc)
    exact Lit.string.inj h3
  have h4 : c = s := ByteArray.ext (Array.toList_inj.1 h2.symm)
  rw [hrun, h4]
theorem lit_map (w : World) : ∃ wa wb, (Instr.mapUpdate 67 (.map (some w.heap.size)) (.string ⟨#[97, 110, 100]⟩) (.string ⟨#[111, 114]⟩)).run Tryd.prog (w.alloc (.map #[] 0)) = .ok () wa
    ∧ (Instr.mapUpdate 67 (.map (some w.heap.size)) (.string ⟨#[111, 114]⟩) (.string ⟨#[97, 110, 100]⟩)).run Tryd.prog wa = .ok () wb
    ∧ (Instr.lookup 67 (.map (some w.heap.size)) (.string ⟨#[97, 110, 100]⟩) false).run Tryd.prog wb = .ok (.string ⟨#[111, 114]⟩) wb
    ∧ (Instr.lookup 67 (.map (some w.heap.size)) (.string ⟨#[111, 114]⟩) false).run Tryd.prog wb = .ok (.string ⟨#[97, 110, 100]⟩) wb ∧ Gr w wb := by
  have h0 := World.ownsMap_made (H := Unit) w Tryd.prog 9 (plainElem Tryd.prog 9)
  have K := string_keyed str_under
  obtain ⟨wa, r1, o1, g1⟩ := h0.update K mss_under (by unfold maxLen; omega) key_and (plainElem_string str_under (s := kOr) (by show 2 ≤ _; unfold maxLen; omega))
  have m1 := o1.tidy K
  obtain ⟨wb, r2, o2, g2⟩ := o1.update K mss_under (by unfold maxLen; omega) key_or (plainElem_string str_under (s := kAnd) (by show 3 ≤ _; unfold maxLen; omega))
  have hl1 : WideAt.IsKeyLit (.string [97, 110, 100]) := by simp [WideAt.IsKeyLit]
  have hl2 : WideAt.IsKeyLit (.string [111, 114]) := by simp [WideAt.IsKeyLit]
  refine ⟨wa, wb, r1, r2, look_str o2 key_and (s := kOr) fun z => ?_, look_str o2 key_or (s := kAnd) fun z => ?_, ?_⟩
  · rw [atKey_put_other (fun e => by injection e with e; simp at e)]
    exact atKey_put_same (h0.tidy K).isMap hl1 _ _
  · exact atKey_put_same m1.isMap hl2 _ _
  · exact (((Gr.refl w).alloc _).grown g1 fun k e => by rw [← Option.some.inj e]; exact Nat.le_refl _).grown g2 fun k e => by rw [← Option.some.inj e]; exact Nat.le_refl _
section
variable {ev : Operand → Value} {o : Oper} {w : World} {x y : Operand} {u : Value}
theorem r_call {v u : Value} (ho : o.op = .call { callee := .value (.func 11), args := #[x, y], argTypes := #[24, 4] }) (hf : ev (.func 11) = .func (.func 11) #[] #[]) (h : ev x = v) (k : ev y = u) : (execOp ev o).run Tryd.prog w = .ok (.enter 11 #[v, u]) w := by
  simp [execOp, ho, hf, h, k, resolve, invoke, go_sem]
end
/-- What Inside answers. -/
def RInsA (B d : Nat) (w : World) (f : Flt) (E : Ending) (w2 : World) : Prop := ∃ u, E = .returned u ∧ Gr w w2 ∧ RFl (fun g => g < B ∨ w.heap.size ≤ g) d w2 u f
theorem RInsA.kid {B d i N : Nat} {w w2 : World} {F : Nat → Flt} {E : Ending} (h : RInsA B d w (F i) E w2) (hN : N ≤ w.heap.size) : ∃ u, E = .returned u ∧ Gr w w2 ∧ kidP (kR d F) isPt i B N u w2 := by
  obtain ⟨u, h1, h2, h3⟩ := h
  obtain ⟨b, rfl⟩ := h3.ptr
  exact ⟨_, h1, h2, _, h3, fun g hg => hg.imp id (Nat.le_trans hN), ⟨_, rfl⟩, rfl⟩
theorem kidP.ptr {B d i N : Nat} {w : World} {u : Value} {F : Nat → Flt} (h : kidP (kR d F) isPt i B N u w) : ∃ b, u = .pointer (some ⟨b, 0, none⟩) := by
  obtain ⟨Sk, h1, _⟩ := h
  exact RFl.ptr h1
theorem ptRow_one (u : World) (a : Option Addr) : PtRow (u.alloc (.cells #[.pointer a] 24)) (.slice (some ⟨u.heap.size, 0, none⟩) 1 1) [.pointer a] := by
  refine ⟨rfl, .inr ⟨u.heap.size, 0, 1, #[.pointer a], rfl, heap_alloc_new u _, Nat.le_refl _, by unfold maxLen; omega, by simp, fun i x hx => ?_, fun j hj => ?_⟩⟩
  · match i, hx with
    | 0, hx => exact ⟨a, (by simpa using hx.symm)⟩
    | i + 1, hx => simp at hx
  · obtain rfl : j = 0 := by simp at hj; omega
    rfl
def isLeaf : Flt → Prop
  | .any => True
  | .test _ _ _ => True
  | .has _ _ => True
  | _ => False
set_option maxRecDepth 100000 in
set_option maxHeartbeats 4000000 in
theorem rins_leaf {S : Nat → Prop} {d : Nat} {w0 w : World} {v : Value} {f : Flt} (h : RFl S (d + 1) w0 v f) (hw : Gr w0 w) (hf : isLeaf f) : Calls Tryd.prog 11 #[v, .bool false] w fun E w' => E = .returned v ∧ Gr w w' := by
  obtain ⟨b, k, i, lo, hi, kv, rfl, _, hrb, hrk⟩ := h.head
  have k0 := (hrb.gr hw).c0
  clear h hrb
  cases f with
  | any =>
    obtain rfl : k = ⟨#[97, 110, 121]⟩ := hrk
    go_enter Tryd.func11, Tryd.ntmps11
    go_wp2
    go_ret
    exact ⟨rfl, Gr.refl _⟩
  | test j a c =>
    obtain rfl : k = ⟨#[116, 101, 115, 116]⟩ := hrk.1
    clear hrk
    go_enter Tryd.func11, Tryd.ntmps11
    go_wp2
    go_ret
    exact ⟨rfl, Gr.refl _⟩
  | has j a =>
    obtain rfl : k = ⟨#[104, 97, 115]⟩ := hrk.1
    clear hrk
    go_enter Tryd.func11, Tryd.ntmps11
    go_wp2
    go_ret
    exact ⟨rfl, Gr.refl _⟩
  | not g => exact hf.elim
  | many l o => exact hf.elim
theorem rnot_leaf {B d b : Nat} {w : World} {f : Flt} (h : RFl (fun g => g < B) (d + 1) w (.pointer (some ⟨b, 0, none⟩)) f) {w' : World}
    (e : w' = (w.alloc (.cells #[.pointer (some ⟨b, 0, none⟩)] 24)).alloc (.cells #[.string ⟨#[110, 111, 116]⟩, .int .i64 0, .int .i64 0, .int .i64 0, .slice (some ⟨w.heap.size, 0, none⟩) 1 1] 62)) :
    RInsA B (d + 1 + 1) w (.not f) (.returned (.pointer (some ⟨w.heap.size + 1, 0, none⟩))) w' := by
  subst e
  have hs : (w.alloc (.cells #[.pointer (some ⟨b, 0, none⟩)] 24)).heap.size = w.heap.size + 1 := by simp
  refine ⟨_, rfl, ((Gr.refl w).alloc _).alloc _, w.heap.size + 1, rfl, .inr (by omega), by simp, _, _, ?_, Row.gr (ptRow_one w _) ((Gr.refl _).alloc _), fun g hg => ?_, ?_⟩
  · rw [← hs]; exact RB.new _ _ _ _ _ _
  · simp [Value.ownBlock] at hg; subst hg; exact .inr (Nat.le_refl _)
  · exact (RFl.same h (fun g _ hl => (((Gr.refl w).alloc _).alloc _).block hl) (by simp; omega)).mono fun g hg _ => .inl hg
set_option maxRecDepth 100000 in
set_option maxHeartbeats 4000000 in
theorem rins_leaf_not {B : Nat} {d : Nat} {w : World} {v : Value} {f : Flt} (h : RFl (fun g => g < B) (d + 1) w v f) (hf : isLeaf f) : Calls Tryd.prog 11 #[v, .bool true] w (RInsA B (d + 1 + 1) w (.not f)) := by
  obtain ⟨b, k, i, lo, hi, kv, rfl, _, hrb, hrk⟩ := h.head
  have k0 := hrb.c0
  have HN : Hid (∀ w', w' = (w.alloc (.cells #[.pointer (some ⟨b, 0, none⟩)] 24)).alloc (.cells #[.string ⟨#[110, 111, 116]⟩, .int .i64 0, .int .i64 0, .int .i64 0, .slice (some ⟨w.heap.size, 0, none⟩) 1 1] 62) → RInsA B (d + 1 + 1) w (.not f) (.returned (.pointer (some ⟨w.heap.size + 1, 0, none⟩))) w') := Lib.hid (fun w' e => rnot_leaf h e)
  clear h hrb
  cases f with
  | any =>
    obtain rfl : k = ⟨#[97, 110, 121]⟩ := hrk
    go_enter Tryd.func11, Tryd.ntmps11
    go_wp2
    go_ret
    exact HN.out _ rfl
  | test j a c =>
    obtain rfl : k = ⟨#[116, 101, 115, 116]⟩ := hrk.1
    clear hrk
    go_enter Tryd.func11, Tryd.ntmps11
    go_wp2
    go_ret
    exact HN.out _ rfl
  | has j a =>
    obtain rfl : k = ⟨#[104, 97, 115]⟩ := hrk.1
    clear hrk
    go_enter Tryd.func11, Tryd.ntmps11
    go_wp2
    go_ret
    exact HN.out _ rfl
  | not g => exact hf.elim
  | many l o => exact hf.elim
set_option maxRecDepth 100000 in
set_option maxHeartbeats 4000000 in
theorem rins_not (b g0 off cap ku : Nat) (t : Bool) (w : World) (R : Ending → World → Prop) (hrb : RB w b ⟨#[110, 111, 116]⟩ 0 0 0 (.slice (some ⟨g0, off, none⟩) 1 cap)) (hc : w.cell? ⟨g0, off, none⟩ = some (.pointer (some ⟨ku, 0, none⟩)))
    (h : Calls Tryd.prog 11 #[.pointer (some ⟨ku, 0, none⟩), .bool (!t)] w fun E w3 => ∃ u, E = .returned u ∧ R E w3) : Calls Tryd.prog 11 #[.pointer (some ⟨b, 0, none⟩), .bool t] w R := by
  have k0 := hrb.c0
  have k4 := hrb.c4
  have H := Lib.hid h
  clear h hrb
  go_enter Tryd.func11, Tryd.ntmps11
  go_wp2_with (go_at_call 11; refine H.out.mono ?_; rintro E w3 ⟨u, rfl, hr⟩; have HR := Lib.hid hr; clear hr)
  exact HR.out
set_option maxRecDepth 100000 in
set_option maxHeartbeats 8000000 in
theorem rins_many_f_and (d B : Nat) (F : Nat → Flt) (b : Nat) (s : Value) (vs : List Value) (l2 : List Flt) (w : World) (hB : B ≤ w.heap.size) (hrb : RB w b ⟨#[97, 110, 100]⟩ 0 0 0 s) (row : PtRow w s vs) (hl : vs.length = l2.length) (h0 : 0 < l2.length) (h1 : l2.length ≤ 2001) (hF : ∀ i, i < l2.length → F i = l2.getD i .any)
    (hif : ∀ i, i < l2.length → ∃ kb, vs.getD i (.pointer none) = .pointer (some ⟨kb, 0, none⟩))
    (IH : ∀ i, i < l2.length → ∀ kb, vs.getD i (.pointer none) = .pointer (some ⟨kb, 0, none⟩) → ∀ w2, Gr w w2 → Calls Tryd.prog 11 #[.pointer (some ⟨kb, 0, none⟩), .bool false] w2 (RInsA B d w2 (F i))) :
    Calls Tryd.prog 11 #[.pointer (some ⟨b, 0, none⟩), .bool false] w (RInsA B (d + 1) w (.many l2 false)) := by
  obtain ⟨g, off, cap, rfl, hc1, hc2, hcell⟩ := Row.cells row (by rw [hl]; exact h0)
  obtain ⟨n, hn⟩ : ∃ n, n = l2.length := ⟨_, rfl⟩
  rw [hl] at hc1 hrb
  rw [← hn] at hc1 h0 h1 hif IH hF hrb
  have HN := Lib.hid hn
  have HIF := Lib.hid hif
  have HIH := Lib.hid IH
  have HFF := Lib.hid hF
  have HB0 := Lib.hid hB
  have HRB := Lib.hid hrb
  obtain ⟨i0, hi0, hz0, hz1, hz2⟩ := info_parts ptInfo
  have HCELL : Hid (∀ i, i < n → w.cell? ⟨g, off + i, none⟩ = some (vs.getD i (.pointer none))) := Lib.hid (fun i hi => hcell i _ (by rw [List.getD_eq_getElem?_getD, List.getElem?_eq_getElem (by rw [hl, ← hn]; exact hi)]; rfl))
  have k0 := hrb.c0
  have k4 := hrb.c4
  clear hif IH hcell row hl hn hF hB hrb
  have n0 : (0 : Int) < (n : Int) := by omega
  have n1 : (n : Int) ≤ 2001 := by omega
  go_enter Tryd.func11, Tryd.ntmps11
  go_upto_region 9 with fail
  obtain ⟨p, hp⟩ : ∃ p, p = w.heap.size := ⟨_, rfl⟩
  obtain ⟨w1, hw1⟩ : ∃ w1, w1 = w.alloc (.cells #[.string ⟨#[97, 110, 100]⟩, .int .i64 0, .int .i64 0, .int .i64 0, .slice none 0 0] 62) := ⟨_, rfl⟩
  have HP := Lib.hid (show w.heap.size ≤ p from by rw [hp]; exact Nat.le_refl _)
  have HW1 : Hid (RB w1 p ⟨#[97, 110, 100]⟩ 0 0 0 (.slice none 0 0) ∧ Gr w w1 ∧ w1.cell? ⟨b, 4, none⟩ = some (.slice (some ⟨g, off, none⟩) n cap)) := Lib.hid (by
    rw [hw1, hp]
    exact ⟨RB.new _ _ _ _ _ _, (Gr.refl w).alloc _, (HRB.out.gr ((Gr.refl w).alloc _)).c4⟩)
  rw [← hw1, ← hp]
  clear hw1 hp k0 k4
  have k4 := HW1.out.2.2
  have HGR : Hid (Gr w w) := Lib.hid (Gr.refl w)
  go_wp2
  go_loopw [48] (fun sx wr => ∃ (i : Nat) (s : Value) (ws : List Value) (S : Nat → Prop), i ≤ n ∧ sx = .int .i64 (i : Int) ∧ Hid (InAt 24 isPt (kR d F) 62 (fun s => #[.string ⟨#[97, 110, 100]⟩, .int .i64 0, .int .i64 0, .int .i64 0, s]) B p i (.pointer none) w wr s ws S)) (fun s _ => n - (intOf s).toNat)
  case atStart => exact ⟨0, _, _, _, Nat.zero_le _, rfl, Lib.hid (InAt.nil HW1.out.1 HB0.out HP.out HW1.out.2.1)⟩
  case round =>
    obtain ⟨i, s, ws, S, hi, rfl, HIA⟩ := hrel
    obtain ⟨va, vc, rfl⟩ := Row.shape HIA.out.row
    have i0' : (0 : Int) ≤ (i : Int) := by omega
    have HC0 : Hid (wr.cell? ⟨p, 4, none⟩ = some (.slice va ws.length vc)) := Lib.hid (RB.c4 HIA.out.bl)
    have HF0 : Hid (wr.frozen? ⟨p, 4, none⟩ = false) := Lib.hid (RB.fz HIA.out.bl 4)
    have HNO : Hid (¬ (Value.slice va ws.length vc).ownBlock = some p) := Lib.hid HIA.out.not_own
    have HOW : Hid (∀ g, (Value.slice va ws.length vc).ownBlock = some g → w.heap.size ≤ g) := Lib.hid (fun g e => by have := (HIA.out.own g e).1; have := HIA.out.pw; omega)
    have HD : Hid (∀ g, (Value.slice va ws.length vc).ownBlock = some g → ¬ (g < B ∨ wr.heap.size ≤ g)) := Lib.hid (fun g e => by have := (HIA.out.own g e).1; have := HIA.out.pw; have := HIA.out.bw; have := Row.lt HIA.out.row e; omega)
    have HFEW : Hid (ws.length ≤ 999999) := Lib.hid (by have := HIA.out.len; omega)
    by_cases hlt : i < n
    · have i1 : (i : Int) < (n : Int) := by omega
      obtain ⟨kb, hv⟩ := HIF.out i hlt
      have hce : wr.cell? ⟨g, off + i, none⟩ = some (.pointer (some ⟨kb, 0, none⟩)) := by rw [← hv]; exact HIA.out.gr.cell (HCELL.out i hlt)
      have HV := Lib.hid hv
      have HLT := Lib.hid hlt
      clear hv
      go_upto_region 12 with fail
      refine wp_region_k (n := 12) (fun u => Sav (fun g => (Value.slice va ws.length vc).ownBlock = some g) wr u ∧ Row 24 1 isPt u (.slice va ws.length vc) ws.length ws) [Fg.eq (.pointer (some ⟨p, 0, none⟩)), Fg.eq (.pointer (some ⟨p, 0, none⟩)), Fg.eq (.pointer (some ⟨p, 0, none⟩)), Fg.eq (.pointer (some ⟨p, 4, none⟩)), Fg.eq (.slice va ws.length vc), Fg.eq (.pointer (some ⟨kb, 0, none⟩)), Fg.eq (.bool false), Fg.kidI (kR_ok d F) isPt i B wr.heap.size, Fg.boxI (kR_ok d F) isPt i B wr.heap.size, Fg.appI (kR_ok d F) 24 isPt (.slice va ws.length vc) ws i B wr.heap.size, Fg.eq (.pointer (some ⟨p, 0, none⟩)), Fg.eq (.pointer (some ⟨p, 4, none⟩))] [52, 53, 54, 55, 56, 57, 58, 59, 60, 61, 62, 63] ⟨.of_gr (Gr.refl wr).drew, Row.gr HIA.out.row (Gr.refl wr).drew⟩ (by kernel_rfl) (by kernel_rfl) (by kernel_rfl) ?_ ?_
      · intro L' q' o' ac w1' hi' ho hA
        have hI := hA.gr
        match q', hi' with
        | 0, _ =>
          obtain rfl := Option.some.inj ho
          exact kstep_val hA (m_move rfl (show ac.eval (.tmp 5) = .pointer (some ⟨p, 0, none⟩) from hA.other 5 (by decide))) rfl
        | 1, _ =>
          obtain rfl := Option.some.inj ho
          exact kstep_val hA (m_move rfl (show ac.eval (.tmp 5) = .pointer (some ⟨p, 0, none⟩) from hA.other 5 (by decide))) rfl
        | 2, _ =>
          obtain rfl := Option.some.inj ho
          exact kstep_val hA (n_nil rfl (hA.fact 1 (hA.dep 1 (by kernel_rfl) (by decide)))) rfl
        | 3, _ =>
          obtain rfl := Option.some.inj ho
          exact kstep_val hA (n_fa4 rfl (hA.fact 2 (hA.dep 2 (by kernel_rfl) (by decide)))) rfl
        | 4, _ =>
          obtain rfl := Option.some.inj ho
          exact kstep_val hA (n_loadK rfl (hA.fact 3 (hA.dep 3 (by kernel_rfl) (by decide))) (hI.1.cell HC0.out HNO.out)) rfl
        | 5, _ =>
          obtain rfl := Option.some.inj ho
          exact kstep_val hA (m_move rfl (show ac.eval (.tmp 7) = .pointer (some ⟨kb, 0, none⟩) from hA.other 7 (by decide))) rfl
        | 6, _ =>
          obtain rfl := Option.some.inj ho
          exact kstep_val hA (m_move rfl (show ac.eval (.tmp 1) = .bool false from hA.other 1 (by decide))) rfl
        | 7, _ =>
          obtain rfl := Option.some.inj ho
          refine kstep_call hA (r_call rfl rfl (hA.fact 5 (hA.dep 5 (by kernel_rfl) (by decide))) (hA.fact 6 (hA.dep 6 (by kernel_rfl) (by decide)))) ((HIH.out i HLT.out kb HV.out w1' (HGR.out.trans (hI.1.gr HIA.out.gr HOW.out))).mono ?_)
          rintro E w9 hq
          obtain ⟨u, rfl, hg, hk⟩ := hq.kid hI.1.size
          exact ⟨u, rfl, ⟨hI.1.then (.of_gr hg), Row.gr hI.2 hg⟩, hk, fun j _ v h => (fgAt _ j).mono _ _ _ h hg⟩
        | 8, _ =>
          obtain rfl := Option.some.inj ho
          obtain ⟨tb, hv⟩ := kidP.ptr (hA.fact 7 (hA.dep 7 (by kernel_rfl) (by decide)))
          have hkp : kidP (kR d F) isPt i B wr.heap.size (.pointer (some ⟨tb, 0, none⟩)) w1' := by
            rw [← hv]
            exact (hA.fact 7 (hA.dep 7 (by kernel_rfl) (by decide)))
          exact kstep_gr hA (f_build rfl hv) ((Gr.refl _).alloc _) ⟨hI.1.then (.of_gr ((Gr.refl _).alloc _)), Row.gr hI.2 ((Gr.refl _).alloc _)⟩ ⟨_, .pointer (some ⟨tb, 0, none⟩), rfl, hI.1.size, (HB.new _ _ _).c 0 rfl, kidP.gr (kR_ok d F) hkp ((Gr.refl _).alloc _)⟩
        | 9, _ =>
          obtain rfl := Option.some.inj ho
          obtain ⟨v', w', hr, sv, hold, happ⟩ := in_app (kR_ok d F) (P := Tryd.prog) 60 60 i0 (.pointer none) 8 Tryd.underlying60 hi0 hz0 hz1 hz2 rfl (by intro u hu; simp [Value.cells] at hu; exact ⟨_, hu⟩) (by decide) hI.2 HFEW.out (hA.fact 8 (hA.dep 8 (by kernel_rfl) (by decide))) hI.1.size
          refine kstep_keep hA (s_app rfl (hA.fact 4 (hA.dep 4 (by kernel_rfl) (by decide))) rfl hr) ⟨hI.1.then sv, hold⟩ (happ HD.out) ?_
          intro j hj u hu
          match j, hj, hu with
          | 0, _, hu => exact hu
          | 1, _, hu => exact hu
          | 2, _, hu => exact hu
          | 3, _, hu => exact hu
          | 4, _, hu => exact hu
          | 5, _, hu => exact hu
          | 6, _, hu => exact hu
          | 7, _, hu => exact kidP.sav (kR_ok d F) HD.out hu sv
          | 8, _, hu => exact boxP.sav (kR_ok d F) HD.out hu sv
          | 9, hj, _ => exact absurd rfl hj
          | 10, _, hu => exact hu
          | 11, _, hu => exact hu
          | j + 12, _, hu => trivial
        | 10, _ =>
          obtain rfl := Option.some.inj ho
          exact kstep_val hA (n_nil rfl (hA.fact 0 (hA.dep 0 (by kernel_rfl) (by decide)))) rfl
        | 11, _ =>
          obtain rfl := Option.some.inj ho
          exact kstep_val hA (n_fa4 rfl (hA.fact 10 (hA.dep 10 (by kernel_rfl) (by decide)))) rfl
        | k + 12, hk => exact absurd (show k + 12 < 12 from hk) (by omega)
      · intro vs5 w5 hI hv
        have happ : appP 24 (kR d F) isPt (.slice va ws.length vc) ws i B wr.heap.size (vs5 9) w5 := hv 9 (by omega)
        have vz : vs5 11 = .pointer (some ⟨p, 4, none⟩) := hv 11 (by omega)
        have hsv := hI.1
        clear hv hI
        simp only [putN, List.drop_succ_cons, List.drop_zero, List.getElem?_cons_succ, List.getElem?_cons_zero, vz]
        clear vz
        generalize vs5 9 = zz at *
        generalize vs5 0 = z0
        generalize vs5 1 = z1
        generalize vs5 2 = z2
        generalize vs5 3 = z3
        generalize vs5 4 = z4
        generalize vs5 5 = z5
        generalize vs5 6 = z6
        generalize vs5 7 = z7
        generalize vs5 8 = z8
        generalize vs5 10 = z10
        obtain ⟨vk, Sk, hrow, hkk, hss, hown⟩ := happ
        obtain ⟨ra, rc, rfl⟩ := Row.shape hrow
        have HN2 := Lib.hid (HIA.out.more (kR_ok d F) (off := 4) (fun w hw => RB.s4 hw _) hsv hrow hkk hss hown)
        have d0 := hsv.cell HC0.out HNO.out
        have d2 := hsv.frozen (p := ⟨p, 4, none⟩) (cell_lt HC0.out) HF0.out HNO.out
        clear hsv hrow hkk hss hown
        go_wp2
        go_roundw
        case rel => exact ⟨i + 1, _, _, _, by omega, by go_num, HN2⟩
        case measure => simp [intOf]; omega
    · obtain rfl : i = n := by omega
      have HE : Hid (RFl (fun g => g < B ∨ w.heap.size ≤ g) (d + 1) wr (.pointer (some ⟨p, 0, none⟩)) (.many l2 false)) := Lib.hid (by
        have hin := HIA.out
        refine ⟨p, rfl, .inr hin.pw, hin.lt, _, ws, hin.bl, hin.row, fun g hg => .inr (by have := (hin.own g hg).1; have := hin.pw; omega), hin.len.trans HN.out, by rw [← HN.out]; exact h0, by rw [← HN.out]; exact h1, fun j hj => ?_⟩
        rw [← HN.out] at hj
        have h9 := hin.kids j hj
        unfold kR at h9
        rw [HFF.out j hj] at h9
        exact RFl.mono h9 fun g hg _ => (hin.sin g hg).1.imp id fun e => by have := hin.pw; omega)
      go_wp2
      go_ret
      exact ⟨_, rfl, HIA.out.gr, HE.out⟩
set_option maxRecDepth 100000 in
set_option maxHeartbeats 8000000 in
theorem rins_many_f_or (d B : Nat) (F : Nat → Flt) (b : Nat) (s : Value) (vs : List Value) (l2 : List Flt) (w : World) (hB : B ≤ w.heap.size) (hrb : RB w b ⟨#[111, 114]⟩ 0 0 0 s) (row : PtRow w s vs) (hl : vs.length = l2.length) (h0 : 0 < l2.length) (h1 : l2.length ≤ 2001) (hF : ∀ i, i < l2.length → F i = l2.getD i .any)
    (hif : ∀ i, i < l2.length → ∃ kb, vs.getD i (.pointer none) = .pointer (some ⟨kb, 0, none⟩))
    (IH : ∀ i, i < l2.length → ∀ kb, vs.getD i (.pointer none) = .pointer (some ⟨kb, 0, none⟩) → ∀ w2, Gr w w2 → Calls Tryd.prog 11 #[.pointer (some ⟨kb, 0, none⟩), .bool false] w2 (RInsA B d w2 (F i))) :
    Calls Tryd.prog 11 #[.pointer (some ⟨b, 0, none⟩), .bool false] w (RInsA B (d + 1) w (.many l2 true)) := by
  obtain ⟨g, off, cap, rfl, hc1, hc2, hcell⟩ := Row.cells row (by rw [hl]; exact h0)
  obtain ⟨n, hn⟩ : ∃ n, n = l2.length := ⟨_, rfl⟩
  rw [hl] at hc1 hrb
  rw [← hn] at hc1 h0 h1 hif IH hF hrb
  have HN := Lib.hid hn
  have HIF := Lib.hid hif
  have HIH := Lib.hid IH
  have HFF := Lib.hid hF
  have HB0 := Lib.hid hB
  have HRB := Lib.hid hrb
  obtain ⟨i0, hi0, hz0, hz1, hz2⟩ := info_parts ptInfo
  have HCELL : Hid (∀ i, i < n → w.cell? ⟨g, off + i, none⟩ = some (vs.getD i (.pointer none))) := Lib.hid (fun i hi => hcell i _ (by rw [List.getD_eq_getElem?_getD, List.getElem?_eq_getElem (by rw [hl, ← hn]; exact hi)]; rfl))
  have k0 := hrb.c0
  have k4 := hrb.c4
  clear hif IH hcell row hl hn hF hB hrb
  have n0 : (0 : Int) < (n : Int) := by omega
  have n1 : (n : Int) ≤ 2001 := by omega
  go_enter Tryd.func11, Tryd.ntmps11
  go_upto_region 9 with fail
  obtain ⟨p, hp⟩ : ∃ p, p = w.heap.size := ⟨_, rfl⟩
  obtain ⟨w1, hw1⟩ : ∃ w1, w1 = w.alloc (.cells #[.string ⟨#[111, 114]⟩, .int .i64 0, .int .i64 0, .int .i64 0, .slice none 0 0] 62) := ⟨_, rfl⟩
  have HP := Lib.hid (show w.heap.size ≤ p from by rw [hp]; exact Nat.le_refl _)
  have HW1 : Hid (RB w1 p ⟨#[111, 114]⟩ 0 0 0 (.slice none 0 0) ∧ Gr w w1 ∧ w1.cell? ⟨b, 4, none⟩ = some (.slice (some ⟨g, off, none⟩) n cap)) := Lib.hid (by
    rw [hw1, hp]
    exact ⟨RB.new _ _ _ _ _ _, (Gr.refl w).alloc _, (HRB.out.gr ((Gr.refl w).alloc _)).c4⟩)
  rw [← hw1, ← hp]
  clear hw1 hp k0 k4
  have k4 := HW1.out.2.2
  have HGR : Hid (Gr w w) := Lib.hid (Gr.refl w)
  go_wp2
  go_loopw [48] (fun sx wr => ∃ (i : Nat) (s : Value) (ws : List Value) (S : Nat → Prop), i ≤ n ∧ sx = .int .i64 (i : Int) ∧ Hid (InAt 24 isPt (kR d F) 62 (fun s => #[.string ⟨#[111, 114]⟩, .int .i64 0, .int .i64 0, .int .i64 0, s]) B p i (.pointer none) w wr s ws S)) (fun s _ => n - (intOf s).toNat)
  case atStart => exact ⟨0, _, _, _, Nat.zero_le _, rfl, Lib.hid (InAt.nil HW1.out.1 HB0.out HP.out HW1.out.2.1)⟩
  case round =>
    obtain ⟨i, s, ws, S, hi, rfl, HIA⟩ := hrel
    obtain ⟨va, vc, rfl⟩ := Row.shape HIA.out.row
    have i0' : (0 : Int) ≤ (i : Int) := by omega
    have HC0 : Hid (wr.cell? ⟨p, 4, none⟩ = some (.slice va ws.length vc)) := Lib.hid (RB.c4 HIA.out.bl)
    have HF0 : Hid (wr.frozen? ⟨p, 4, none⟩ = false) := Lib.hid (RB.fz HIA.out.bl 4)
    have HNO : Hid (¬ (Value.slice va ws.length vc).ownBlock = some p) := Lib.hid HIA.out.not_own
    have HOW : Hid (∀ g, (Value.slice va ws.length vc).ownBlock = some g → w.heap.size ≤ g) := Lib.hid (fun g e => by have := (HIA.out.own g e).1; have := HIA.out.pw; omega)
    have HD : Hid (∀ g, (Value.slice va ws.length vc).ownBlock = some g → ¬ (g < B ∨ wr.heap.size ≤ g)) := Lib.hid (fun g e => by have := (HIA.out.own g e).1; have := HIA.out.pw; have := HIA.out.bw; have := Row.lt HIA.out.row e; omega)
    have HFEW : Hid (ws.length ≤ 999999) := Lib.hid (by have := HIA.out.len; omega)
    by_cases hlt : i < n
    · have i1 : (i : Int) < (n : Int) := by omega
      obtain ⟨kb, hv⟩ := HIF.out i hlt
      have hce : wr.cell? ⟨g, off + i, none⟩ = some (.pointer (some ⟨kb, 0, none⟩)) := by rw [← hv]; exact HIA.out.gr.cell (HCELL.out i hlt)
      have HV := Lib.hid hv
      have HLT := Lib.hid hlt
      clear hv
      go_upto_region 12 with fail
      refine wp_region_k (n := 12) (fun u => Sav (fun g => (Value.slice va ws.length vc).ownBlock = some g) wr u ∧ Row 24 1 isPt u (.slice va ws.length vc) ws.length ws) [Fg.eq (.pointer (some ⟨p, 0, none⟩)), Fg.eq (.pointer (some ⟨p, 0, none⟩)), Fg.eq (.pointer (some ⟨p, 0, none⟩)), Fg.eq (.pointer (some ⟨p, 4, none⟩)), Fg.eq (.slice va ws.length vc), Fg.eq (.pointer (some ⟨kb, 0, none⟩)), Fg.eq (.bool false), Fg.kidI (kR_ok d F) isPt i B wr.heap.size, Fg.boxI (kR_ok d F) isPt i B wr.heap.size, Fg.appI (kR_ok d F) 24 isPt (.slice va ws.length vc) ws i B wr.heap.size, Fg.eq (.pointer (some ⟨p, 0, none⟩)), Fg.eq (.pointer (some ⟨p, 4, none⟩))] [52, 53, 54, 55, 56, 57, 58, 59, 60, 61, 62, 63] ⟨.of_gr (Gr.refl wr).drew, Row.gr HIA.out.row (Gr.refl wr).drew⟩ (by kernel_rfl) (by kernel_rfl) (by kernel_rfl) ?_ ?_
      · intro L' q' o' ac w1' hi' ho hA
        have hI := hA.gr
        match q', hi' with
        | 0, _ =>
          obtain rfl := Option.some.inj ho
          exact kstep_val hA (m_move rfl (show ac.eval (.tmp 5) = .pointer (some ⟨p, 0, none⟩) from hA.other 5 (by decide))) rfl
        | 1, _ =>
          obtain rfl := Option.some.inj ho
          exact kstep_val hA (m_move rfl (show ac.eval (.tmp 5) = .pointer (some ⟨p, 0, none⟩) from hA.other 5 (by decide))) rfl
        | 2, _ =>
          obtain rfl := Option.some.inj ho
          exact kstep_val hA (n_nil rfl (hA.fact 1 (hA.dep 1 (by kernel_rfl) (by decide)))) rfl
        | 3, _ =>
          obtain rfl := Option.some.inj ho
          exact kstep_val hA (n_fa4 rfl (hA.fact 2 (hA.dep 2 (by kernel_rfl) (by decide)))) rfl
        | 4, _ =>
          obtain rfl := Option.some.inj ho
          exact kstep_val hA (n_loadK rfl (hA.fact 3 (hA.dep 3 (by kernel_rfl) (by decide))) (hI.1.cell HC0.out HNO.out)) rfl
        | 5, _ =>
          obtain rfl := Option.some.inj ho
          exact kstep_val hA (m_move rfl (show ac.eval (.tmp 7) = .pointer (some ⟨kb, 0, none⟩) from hA.other 7 (by decide))) rfl
        | 6, _ =>
          obtain rfl := Option.some.inj ho
          exact kstep_val hA (m_move rfl (show ac.eval (.tmp 1) = .bool false from hA.other 1 (by decide))) rfl
        | 7, _ =>
          obtain rfl := Option.some.inj ho
          refine kstep_call hA (r_call rfl rfl (hA.fact 5 (hA.dep 5 (by kernel_rfl) (by decide))) (hA.fact 6 (hA.dep 6 (by kernel_rfl) (by decide)))) ((HIH.out i HLT.out kb HV.out w1' (HGR.out.trans (hI.1.gr HIA.out.gr HOW.out))).mono ?_)
          rintro E w9 hq
          obtain ⟨u, rfl, hg, hk⟩ := hq.kid hI.1.size
          exact ⟨u, rfl, ⟨hI.1.then (.of_gr hg), Row.gr hI.2 hg⟩, hk, fun j _ v h => (fgAt _ j).mono _ _ _ h hg⟩
        | 8, _ =>
          obtain rfl := Option.some.inj ho
          obtain ⟨tb, hv⟩ := kidP.ptr (hA.fact 7 (hA.dep 7 (by kernel_rfl) (by decide)))
          have hkp : kidP (kR d F) isPt i B wr.heap.size (.pointer (some ⟨tb, 0, none⟩)) w1' := by
            rw [← hv]
            exact (hA.fact 7 (hA.dep 7 (by kernel_rfl) (by decide)))
          exact kstep_gr hA (f_build rfl hv) ((Gr.refl _).alloc _) ⟨hI.1.then (.of_gr ((Gr.refl _).alloc _)), Row.gr hI.2 ((Gr.refl _).alloc _)⟩ ⟨_, .pointer (some ⟨tb, 0, none⟩), rfl, hI.1.size, (HB.new _ _ _).c 0 rfl, kidP.gr (kR_ok d F) hkp ((Gr.refl _).alloc _)⟩
        | 9, _ =>
          obtain rfl := Option.some.inj ho
          obtain ⟨v', w', hr, sv, hold, happ⟩ := in_app (kR_ok d F) (P := Tryd.prog) 60 60 i0 (.pointer none) 8 Tryd.underlying60 hi0 hz0 hz1 hz2 rfl (by intro u hu; simp [Value.cells] at hu; exact ⟨_, hu⟩) (by decide) hI.2 HFEW.out (hA.fact 8 (hA.dep 8 (by kernel_rfl) (by decide))) hI.1.size
          refine kstep_keep hA (s_app rfl (hA.fact 4 (hA.dep 4 (by kernel_rfl) (by decide))) rfl hr) ⟨hI.1.then sv, hold⟩ (happ HD.out) ?_
          intro j hj u hu
          match j, hj, hu with
          | 0, _, hu => exact hu
          | 1, _, hu => exact hu
          | 2, _, hu => exact hu
          | 3, _, hu => exact hu
          | 4, _, hu => exact hu
          | 5, _, hu => exact hu
          | 6, _, hu => exact hu
          | 7, _, hu => exact kidP.sav (kR_ok d F) HD.out hu sv
          | 8, _, hu => exact boxP.sav (kR_ok d F) HD.out hu sv
          | 9, hj, _ => exact absurd rfl hj
          | 10, _, hu => exact hu
          | 11, _, hu => exact hu
          | j + 12, _, hu => trivial
        | 10, _ =>
          obtain rfl := Option.some.inj ho
          exact kstep_val hA (n_nil rfl (hA.fact 0 (hA.dep 0 (by kernel_rfl) (by decide)))) rfl
        | 11, _ =>
          obtain rfl := Option.some.inj ho
          exact kstep_val hA (n_fa4 rfl (hA.fact 10 (hA.dep 10 (by kernel_rfl) (by decide)))) rfl
        | k + 12, hk => exact absurd (show k + 12 < 12 from hk) (by omega)
      · intro vs5 w5 hI hv
        have happ : appP 24 (kR d F) isPt (.slice va ws.length vc) ws i B wr.heap.size (vs5 9) w5 := hv 9 (by omega)
        have vz : vs5 11 = .pointer (some ⟨p, 4, none⟩) := hv 11 (by omega)
        have hsv := hI.1
        clear hv hI
        simp only [putN, List.drop_succ_cons, List.drop_zero, List.getElem?_cons_succ, List.getElem?_cons_zero, vz]
        clear vz
        generalize vs5 9 = zz at *
        generalize vs5 0 = z0
        generalize vs5 1 = z1
        generalize vs5 2 = z2
        generalize vs5 3 = z3
        generalize vs5 4 = z4
        generalize vs5 5 = z5
        generalize vs5 6 = z6
        generalize vs5 7 = z7
        generalize vs5 8 = z8
        generalize vs5 10 = z10
        obtain ⟨vk, Sk, hrow, hkk, hss, hown⟩ := happ
        obtain ⟨ra, rc, rfl⟩ := Row.shape hrow
        have HN2 := Lib.hid (HIA.out.more (kR_ok d F) (off := 4) (fun w hw => RB.s4 hw _) hsv hrow hkk hss hown)
        have d0 := hsv.cell HC0.out HNO.out
        have d2 := hsv.frozen (p := ⟨p, 4, none⟩) (cell_lt HC0.out) HF0.out HNO.out
        clear hsv hrow hkk hss hown
        go_wp2
        go_roundw
        case rel => exact ⟨i + 1, _, _, _, by omega, by go_num, HN2⟩
        case measure => simp [intOf]; omega
    · obtain rfl : i = n := by omega
      have HE : Hid (RFl (fun g => g < B ∨ w.heap.size ≤ g) (d + 1) wr (.pointer (some ⟨p, 0, none⟩)) (.many l2 true)) := Lib.hid (by
        have hin := HIA.out
        refine ⟨p, rfl, .inr hin.pw, hin.lt, _, ws, hin.bl, hin.row, fun g hg => .inr (by have := (hin.own g hg).1; have := hin.pw; omega), hin.len.trans HN.out, by rw [← HN.out]; exact h0, by rw [← HN.out]; exact h1, fun j hj => ?_⟩
        rw [← HN.out] at hj
        have h9 := hin.kids j hj
        unfold kR at h9
        rw [HFF.out j hj] at h9
        exact RFl.mono h9 fun g hg _ => (hin.sin g hg).1.imp id fun e => by have := hin.pw; omega)
      go_wp2
      go_ret
      exact ⟨_, rfl, HIA.out.gr, HE.out⟩
set_option maxRecDepth 100000 in
set_option maxHeartbeats 8000000 in
theorem rins_many_t_and (d B : Nat) (F : Nat → Flt) (b : Nat) (s : Value) (vs : List Value) (l2 : List Flt) (w : World) (hB : B ≤ w.heap.size) (hrb : RB w b ⟨#[97, 110, 100]⟩ 0 0 0 s) (row : PtRow w s vs) (hl : vs.length = l2.length) (h0 : 0 < l2.length) (h1 : l2.length ≤ 2001) (hF : ∀ i, i < l2.length → F i = l2.getD i .any)
    (hif : ∀ i, i < l2.length → ∃ kb, vs.getD i (.pointer none) = .pointer (some ⟨kb, 0, none⟩))
    (IH : ∀ i, i < l2.length → ∀ kb, vs.getD i (.pointer none) = .pointer (some ⟨kb, 0, none⟩) → ∀ w2, Gr w w2 → Calls Tryd.prog 11 #[.pointer (some ⟨kb, 0, none⟩), .bool true] w2 (RInsA B d w2 (F i))) :
    Calls Tryd.prog 11 #[.pointer (some ⟨b, 0, none⟩), .bool true] w (RInsA B (d + 1) w (.many l2 true)) := by
  obtain ⟨g, off, cap, rfl, hc1, hc2, hcell⟩ := Row.cells row (by rw [hl]; exact h0)
  obtain ⟨n, hn⟩ : ∃ n, n = l2.length := ⟨_, rfl⟩
  rw [hl] at hc1 hrb
  rw [← hn] at hc1 h0 h1 hif IH hF hrb
  have HN := Lib.hid hn
  have HIF := Lib.hid hif
  have HIH := Lib.hid IH
  have HFF := Lib.hid hF
  have HB0 := Lib.hid hB
  have HRB := Lib.hid hrb
  obtain ⟨i0, hi0, hz0, hz1, hz2⟩ := info_parts ptInfo
  have HCELL : Hid (∀ i, i < n → w.cell? ⟨g, off + i, none⟩ = some (vs.getD i (.pointer none))) := Lib.hid (fun i hi => hcell i _ (by rw [List.getD_eq_getElem?_getD, List.getElem?_eq_getElem (by rw [hl, ← hn]; exact hi)]; rfl))
  have k0 := hrb.c0
  have k4 := hrb.c4
  clear hif IH hcell row hl hn hF hB hrb
  have n0 : (0 : Int) < (n : Int) := by omega
  have n1 : (n : Int) ≤ 2001 := by omega
  have hmm := @run_makeMap Tryd.prog
  go_enter Tryd.func11, Tryd.ntmps11
  go_upto_region 8 with fail
  obtain ⟨p, hp⟩ : ∃ p, p = w.heap.size := ⟨_, rfl⟩
  obtain ⟨w8, hw8⟩ : ∃ w8, w8 = w.alloc (.cells #[.string ⟨#[97, 110, 100]⟩, .int .i64 0, .int .i64 0, .int .i64 0, .slice none 0 0] 62) := ⟨_, rfl⟩
  have HP := Lib.hid hp
  have HW8 : Hid (RB w8 p ⟨#[97, 110, 100]⟩ 0 0 0 (.slice none 0 0) ∧ Gr w w8) := Lib.hid (by
    rw [hw8, hp]
    exact ⟨RB.new _ _ _ _ _ _, (Gr.refl w).alloc _⟩)
  rw [← hw8, ← hp]
  clear hw8 hp
  obtain ⟨wa, wb, m1, m2, m3, m4, mg⟩ := lit_map w8
  have HMG := Lib.hid mg
  have b0 : wb.cell? ⟨b, 0, none⟩ = some (.string ⟨#[97, 110, 100]⟩) := ((HRB.out.gr HW8.out.2).gr mg).c0
  have b4 : wb.cell? ⟨b, 4, none⟩ = some (.slice (some ⟨g, off, none⟩) n cap) := ((HRB.out.gr HW8.out.2).gr mg).c4
  have p0 : wb.cell? ⟨p, 0, none⟩ = some (.string ⟨#[97, 110, 100]⟩) := (HW8.out.1.gr mg).c0
  have pf := (HW8.out.1.gr mg).fz 0
  clear mg k0 k4
  go_upto_region 9 with fail
  obtain ⟨w1, hw1⟩ : ∃ w1, w1 = wb.setCell ⟨p, 0, none⟩ (.string ⟨#[111, 114]⟩) := ⟨_, rfl⟩
  have HW1 : Hid (RB w1 p ⟨#[111, 114]⟩ 0 0 0 (.slice none 0 0) ∧ Gr w w1 ∧ w1.cell? ⟨b, 4, none⟩ = some (.slice (some ⟨g, off, none⟩) n cap)) := Lib.hid (by
    have hg : Gr w w1 := by rw [hw1]; exact (HW8.out.2.trans HMG.out).setCell (by rw [HP.out]; exact Nat.le_refl _) _
    refine ⟨?_, hg, (HRB.out.gr hg).c4⟩
    rw [hw1]
    exact RB.s0 (HW8.out.1.gr HMG.out) _)
  rw [← hw1]
  clear hw1 b0 b4 p0 pf m1 m2 m3 m4
  have k4 := HW1.out.2.2
  have HP := Lib.hid (show w.heap.size ≤ p from by rw [HP.out]; exact Nat.le_refl _)
  have HGR : Hid (Gr w w) := Lib.hid (Gr.refl w)
  go_wp2
  go_loopw [48] (fun sx wr => ∃ (i : Nat) (s : Value) (ws : List Value) (S : Nat → Prop), i ≤ n ∧ sx = .int .i64 (i : Int) ∧ Hid (InAt 24 isPt (kR d F) 62 (fun s => #[.string ⟨#[111, 114]⟩, .int .i64 0, .int .i64 0, .int .i64 0, s]) B p i (.pointer none) w wr s ws S)) (fun s _ => n - (intOf s).toNat)
  case atStart => exact ⟨0, _, _, _, Nat.zero_le _, rfl, Lib.hid (InAt.nil HW1.out.1 HB0.out HP.out HW1.out.2.1)⟩
  case round =>
    obtain ⟨i, s, ws, S, hi, rfl, HIA⟩ := hrel
    obtain ⟨va, vc, rfl⟩ := Row.shape HIA.out.row
    have i0' : (0 : Int) ≤ (i : Int) := by omega
    have HC0 : Hid (wr.cell? ⟨p, 4, none⟩ = some (.slice va ws.length vc)) := Lib.hid (RB.c4 HIA.out.bl)
    have HF0 : Hid (wr.frozen? ⟨p, 4, none⟩ = false) := Lib.hid (RB.fz HIA.out.bl 4)
    have HNO : Hid (¬ (Value.slice va ws.length vc).ownBlock = some p) := Lib.hid HIA.out.not_own
    have HOW : Hid (∀ g, (Value.slice va ws.length vc).ownBlock = some g → w.heap.size ≤ g) := Lib.hid (fun g e => by have := (HIA.out.own g e).1; have := HIA.out.pw; omega)
    have HD : Hid (∀ g, (Value.slice va ws.length vc).ownBlock = some g → ¬ (g < B ∨ wr.heap.size ≤ g)) := Lib.hid (fun g e => by have := (HIA.out.own g e).1; have := HIA.out.pw; have := HIA.out.bw; have := Row.lt HIA.out.row e; omega)
    have HFEW : Hid (ws.length ≤ 999999) := Lib.hid (by have := HIA.out.len; omega)
    by_cases hlt : i < n
    · have i1 : (i : Int) < (n : Int) := by omega
      obtain ⟨kb, hv⟩ := HIF.out i hlt
      have hce : wr.cell? ⟨g, off + i, none⟩ = some (.pointer (some ⟨kb, 0, none⟩)) := by rw [← hv]; exact HIA.out.gr.cell (HCELL.out i hlt)
      have HV := Lib.hid hv
      have HLT := Lib.hid hlt
      clear hv
      go_upto_region 12 with fail
      refine wp_region_k (n := 12) (fun u => Sav (fun g => (Value.slice va ws.length vc).ownBlock = some g) wr u ∧ Row 24 1 isPt u (.slice va ws.length vc) ws.length ws) [Fg.eq (.pointer (some ⟨p, 0, none⟩)), Fg.eq (.pointer (some ⟨p, 0, none⟩)), Fg.eq (.pointer (some ⟨p, 0, none⟩)), Fg.eq (.pointer (some ⟨p, 4, none⟩)), Fg.eq (.slice va ws.length vc), Fg.eq (.pointer (some ⟨kb, 0, none⟩)), Fg.eq (.bool true), Fg.kidI (kR_ok d F) isPt i B wr.heap.size, Fg.boxI (kR_ok d F) isPt i B wr.heap.size, Fg.appI (kR_ok d F) 24 isPt (.slice va ws.length vc) ws i B wr.heap.size, Fg.eq (.pointer (some ⟨p, 0, none⟩)), Fg.eq (.pointer (some ⟨p, 4, none⟩))] [52, 53, 54, 55, 56, 57, 58, 59, 60, 61, 62, 63] ⟨.of_gr (Gr.refl wr).drew, Row.gr HIA.out.row (Gr.refl wr).drew⟩ (by kernel_rfl) (by kernel_rfl) (by kernel_rfl) ?_ ?_
      · intro L' q' o' ac w1' hi' ho hA
        have hI := hA.gr
        match q', hi' with
        | 0, _ =>
          obtain rfl := Option.some.inj ho
          exact kstep_val hA (m_move rfl (show ac.eval (.tmp 5) = .pointer (some ⟨p, 0, none⟩) from hA.other 5 (by decide))) rfl
        | 1, _ =>
          obtain rfl := Option.some.inj ho
          exact kstep_val hA (m_move rfl (show ac.eval (.tmp 5) = .pointer (some ⟨p, 0, none⟩) from hA.other 5 (by decide))) rfl
        | 2, _ =>
          obtain rfl := Option.some.inj ho
          exact kstep_val hA (n_nil rfl (hA.fact 1 (hA.dep 1 (by kernel_rfl) (by decide)))) rfl
        | 3, _ =>
          obtain rfl := Option.some.inj ho
          exact kstep_val hA (n_fa4 rfl (hA.fact 2 (hA.dep 2 (by kernel_rfl) (by decide)))) rfl
        | 4, _ =>
          obtain rfl := Option.some.inj ho
          exact kstep_val hA (n_loadK rfl (hA.fact 3 (hA.dep 3 (by kernel_rfl) (by decide))) (hI.1.cell HC0.out HNO.out)) rfl
        | 5, _ =>
          obtain rfl := Option.some.inj ho
          exact kstep_val hA (m_move rfl (show ac.eval (.tmp 7) = .pointer (some ⟨kb, 0, none⟩) from hA.other 7 (by decide))) rfl
        | 6, _ =>
          obtain rfl := Option.some.inj ho
          exact kstep_val hA (m_move rfl (show ac.eval (.tmp 1) = .bool true from hA.other 1 (by decide))) rfl
        | 7, _ =>
          obtain rfl := Option.some.inj ho
          refine kstep_call hA (r_call rfl rfl (hA.fact 5 (hA.dep 5 (by kernel_rfl) (by decide))) (hA.fact 6 (hA.dep 6 (by kernel_rfl) (by decide)))) ((HIH.out i HLT.out kb HV.out w1' (HGR.out.trans (hI.1.gr HIA.out.gr HOW.out))).mono ?_)
          rintro E w9 hq
          obtain ⟨u, rfl, hg, hk⟩ := hq.kid hI.1.size
          exact ⟨u, rfl, ⟨hI.1.then (.of_gr hg), Row.gr hI.2 hg⟩, hk, fun j _ v h => (fgAt _ j).mono _ _ _ h hg⟩
        | 8, _ =>
          obtain rfl := Option.some.inj ho
          obtain ⟨tb, hv⟩ := kidP.ptr (hA.fact 7 (hA.dep 7 (by kernel_rfl) (by decide)))
          have hkp : kidP (kR d F) isPt i B wr.heap.size (.pointer (some ⟨tb, 0, none⟩)) w1' := by
            rw [← hv]
            exact (hA.fact 7 (hA.dep 7 (by kernel_rfl) (by decide)))
          exact kstep_gr hA (f_build rfl hv) ((Gr.refl _).alloc _) ⟨hI.1.then (.of_gr ((Gr.refl _).alloc _)), Row.gr hI.2 ((Gr.refl _).alloc _)⟩ ⟨_, .pointer (some ⟨tb, 0, none⟩), rfl, hI.1.size, (HB.new _ _ _).c 0 rfl, kidP.gr (kR_ok d F) hkp ((Gr.refl _).alloc _)⟩
        | 9, _ =>
          obtain rfl := Option.some.inj ho
          obtain ⟨v', w', hr, sv, hold, happ⟩ := in_app (kR_ok d F) (P := Tryd.prog) 60 60 i0 (.pointer none) 8 Tryd.underlying60 hi0 hz0 hz1 hz2 rfl (by intro u hu; simp [Value.cells] at hu; exact ⟨_, hu⟩) (by decide) hI.2 HFEW.out (hA.fact 8 (hA.dep 8 (by kernel_rfl) (by decide))) hI.1.size
          refine kstep_keep hA (s_app rfl (hA.fact 4 (hA.dep 4 (by kernel_rfl) (by decide))) rfl hr) ⟨hI.1.then sv, hold⟩ (happ HD.out) ?_
          intro j hj u hu
          match j, hj, hu with
          | 0, _, hu => exact hu
          | 1, _, hu => exact hu
          | 2, _, hu => exact hu
          | 3, _, hu => exact hu
          | 4, _, hu => exact hu
          | 5, _, hu => exact hu
          | 6, _, hu => exact hu
          | 7, _, hu => exact kidP.sav (kR_ok d F) HD.out hu sv
          | 8, _, hu => exact boxP.sav (kR_ok d F) HD.out hu sv
          | 9, hj, _ => exact absurd rfl hj
          | 10, _, hu => exact hu
          | 11, _, hu => exact hu
          | j + 12, _, hu => trivial
        | 10, _ =>
          obtain rfl := Option.some.inj ho
          exact kstep_val hA (n_nil rfl (hA.fact 0 (hA.dep 0 (by kernel_rfl) (by decide)))) rfl
        | 11, _ =>
          obtain rfl := Option.some.inj ho
          exact kstep_val hA (n_fa4 rfl (hA.fact 10 (hA.dep 10 (by kernel_rfl) (by decide)))) rfl
        | k + 12, hk => exact absurd (show k + 12 < 12 from hk) (by omega)
      · intro vs5 w5 hI hv
        have happ : appP 24 (kR d F) isPt (.slice va ws.length vc) ws i B wr.heap.size (vs5 9) w5 := hv 9 (by omega)
        have vz : vs5 11 = .pointer (some ⟨p, 4, none⟩) := hv 11 (by omega)
        have hsv := hI.1
        clear hv hI
        simp only [putN, List.drop_succ_cons, List.drop_zero, List.getElem?_cons_succ, List.getElem?_cons_zero, vz]
        clear vz
        generalize vs5 9 = zz at *
        generalize vs5 0 = z0
        generalize vs5 1 = z1
        generalize vs5 2 = z2
        generalize vs5 3 = z3
        generalize vs5 4 = z4
        generalize vs5 5 = z5
        generalize vs5 6 = z6
        generalize vs5 7 = z7
        generalize vs5 8 = z8
        generalize vs5 10 = z10
        obtain ⟨vk, Sk, hrow, hkk, hss, hown⟩ := happ
        obtain ⟨ra, rc, rfl⟩ := Row.shape hrow
        have HN2 := Lib.hid (HIA.out.more (kR_ok d F) (off := 4) (fun w hw => RB.s4 hw _) hsv hrow hkk hss hown)
        have d0 := hsv.cell HC0.out HNO.out
        have d2 := hsv.frozen (p := ⟨p, 4, none⟩) (cell_lt HC0.out) HF0.out HNO.out
        clear hsv hrow hkk hss hown
        go_wp2
        go_roundw
        case rel => exact ⟨i + 1, _, _, _, by omega, by go_num, HN2⟩
        case measure => simp [intOf]; omega
    · obtain rfl : i = n := by omega
      have HE : Hid (RFl (fun g => g < B ∨ w.heap.size ≤ g) (d + 1) wr (.pointer (some ⟨p, 0, none⟩)) (.many l2 true)) := Lib.hid (by
        have hin := HIA.out
        refine ⟨p, rfl, .inr hin.pw, hin.lt, _, ws, hin.bl, hin.row, fun g hg => .inr (by have := (hin.own g hg).1; have := hin.pw; omega), hin.len.trans HN.out, by rw [← HN.out]; exact h0, by rw [← HN.out]; exact h1, fun j hj => ?_⟩
        rw [← HN.out] at hj
        have h9 := hin.kids j hj
        unfold kR at h9
        rw [HFF.out j hj] at h9
        exact RFl.mono h9 fun g hg _ => (hin.sin g hg).1.imp id fun e => by have := hin.pw; omega)
      go_wp2
      go_ret
      exact ⟨_, rfl, HIA.out.gr, HE.out⟩
set_option maxRecDepth 100000 in
set_option maxHeartbeats 8000000 in
theorem rins_many_t_or (d B : Nat) (F : Nat → Flt) (b : Nat) (s : Value) (vs : List Value) (l2 : List Flt) (w : World) (hB : B ≤ w.heap.size) (hrb : RB w b ⟨#[111, 114]⟩ 0 0 0 s) (row : PtRow w s vs) (hl : vs.length = l2.length) (h0 : 0 < l2.length) (h1 : l2.length ≤ 2001) (hF : ∀ i, i < l2.length → F i = l2.getD i .any)
    (hif : ∀ i, i < l2.length → ∃ kb, vs.getD i (.pointer none) = .pointer (some ⟨kb, 0, none⟩))
    (IH : ∀ i, i < l2.length → ∀ kb, vs.getD i (.pointer none) = .pointer (some ⟨kb, 0, none⟩) → ∀ w2, Gr w w2 → Calls Tryd.prog 11 #[.pointer (some ⟨kb, 0, none⟩), .bool true] w2 (RInsA B d w2 (F i))) :
    Calls Tryd.prog 11 #[.pointer (some ⟨b, 0, none⟩), .bool true] w (RInsA B (d + 1) w (.many l2 false)) := by
  obtain ⟨g, off, cap, rfl, hc1, hc2, hcell⟩ := Row.cells row (by rw [hl]; exact h0)
  obtain ⟨n, hn⟩ : ∃ n, n = l2.length := ⟨_, rfl⟩
  rw [hl] at hc1 hrb
  rw [← hn] at hc1 h0 h1 hif IH hF hrb
  have HN := Lib.hid hn
  have HIF := Lib.hid hif
  have HIH := Lib.hid IH
  have HFF := Lib.hid hF
  have HB0 := Lib.hid hB
  have HRB := Lib.hid hrb
  obtain ⟨i0, hi0, hz0, hz1, hz2⟩ := info_parts ptInfo
  have HCELL : Hid (∀ i, i < n → w.cell? ⟨g, off + i, none⟩ = some (vs.getD i (.pointer none))) := Lib.hid (fun i hi => hcell i _ (by rw [List.getD_eq_getElem?_getD, List.getElem?_eq_getElem (by rw [hl, ← hn]; exact hi)]; rfl))
  have k0 := hrb.c0
  have k4 := hrb.c4
  clear hif IH hcell row hl hn hF hB hrb
  have n0 : (0 : Int) < (n : Int) := by omega
  have n1 : (n : Int) ≤ 2001 := by omega
  have hmm := @run_makeMap Tryd.prog
  go_enter Tryd.func11, Tryd.ntmps11
  go_upto_region 8 with fail
  obtain ⟨p, hp⟩ : ∃ p, p = w.heap.size := ⟨_, rfl⟩
  obtain ⟨w8, hw8⟩ : ∃ w8, w8 = w.alloc (.cells #[.string ⟨#[111, 114]⟩, .int .i64 0, .int .i64 0, .int .i64 0, .slice none 0 0] 62) := ⟨_, rfl⟩
  have HP := Lib.hid hp
  have HW8 : Hid (RB w8 p ⟨#[111, 114]⟩ 0 0 0 (.slice none 0 0) ∧ Gr w w8) := Lib.hid (by
    rw [hw8, hp]
    exact ⟨RB.new _ _ _ _ _ _, (Gr.refl w).alloc _⟩)
  rw [← hw8, ← hp]
  clear hw8 hp
  obtain ⟨wa, wb, m1, m2, m3, m4, mg⟩ := lit_map w8
  have HMG := Lib.hid mg
  have b0 : wb.cell? ⟨b, 0, none⟩ = some (.string ⟨#[111, 114]⟩) := ((HRB.out.gr HW8.out.2).gr mg).c0
  have b4 : wb.cell? ⟨b, 4, none⟩ = some (.slice (some ⟨g, off, none⟩) n cap) := ((HRB.out.gr HW8.out.2).gr mg).c4
  have p0 : wb.cell? ⟨p, 0, none⟩ = some (.string ⟨#[111, 114]⟩) := (HW8.out.1.gr mg).c0
  have pf := (HW8.out.1.gr mg).fz 0
  clear mg k0 k4
  go_upto_region 9 with fail
  obtain ⟨w1, hw1⟩ : ∃ w1, w1 = wb.setCell ⟨p, 0, none⟩ (.string ⟨#[97, 110, 100]⟩) := ⟨_, rfl⟩
  have HW1 : Hid (RB w1 p ⟨#[97, 110, 100]⟩ 0 0 0 (.slice none 0 0) ∧ Gr w w1 ∧ w1.cell? ⟨b, 4, none⟩ = some (.slice (some ⟨g, off, none⟩) n cap)) := Lib.hid (by
    have hg : Gr w w1 := by rw [hw1]; exact (HW8.out.2.trans HMG.out).setCell (by rw [HP.out]; exact Nat.le_refl _) _
    refine ⟨?_, hg, (HRB.out.gr hg).c4⟩
    rw [hw1]
    exact RB.s0 (HW8.out.1.gr HMG.out) _)
  rw [← hw1]
  clear hw1 b0 b4 p0 pf m1 m2 m3 m4
  have k4 := HW1.out.2.2
  have HP := Lib.hid (show w.heap.size ≤ p from by rw [HP.out]; exact Nat.le_refl _)
  have HGR : Hid (Gr w w) := Lib.hid (Gr.refl w)
  go_wp2
  go_loopw [48] (fun sx wr => ∃ (i : Nat) (s : Value) (ws : List Value) (S : Nat → Prop), i ≤ n ∧ sx = .int .i64 (i : Int) ∧ Hid (InAt 24 isPt (kR d F) 62 (fun s => #[.string ⟨#[97, 110, 100]⟩, .int .i64 0, .int .i64 0, .int .i64 0, s]) B p i (.pointer none) w wr s ws S)) (fun s _ => n - (intOf s).toNat)
  case atStart => exact ⟨0, _, _, _, Nat.zero_le _, rfl, Lib.hid (InAt.nil HW1.out.1 HB0.out HP.out HW1.out.2.1)⟩
  case round =>
    obtain ⟨i, s, ws, S, hi, rfl, HIA⟩ := hrel
    obtain ⟨va, vc, rfl⟩ := Row.shape HIA.out.row
    have i0' : (0 : Int) ≤ (i : Int) := by omega
    have HC0 : Hid (wr.cell? ⟨p, 4, none⟩ = some (.slice va ws.length vc)) := Lib.hid (RB.c4 HIA.out.bl)
    have HF0 : Hid (wr.frozen? ⟨p, 4, none⟩ = false) := Lib.hid (RB.fz HIA.out.bl 4)
    have HNO : Hid (¬ (Value.slice va ws.length vc).ownBlock = some p) := Lib.hid HIA.out.not_own
    have HOW : Hid (∀ g, (Value.slice va ws.length vc).ownBlock = some g → w.heap.size ≤ g) := Lib.hid (fun g e => by have := (HIA.out.own g e).1; have := HIA.out.pw; omega)
    have HD : Hid (∀ g, (Value.slice va ws.length vc).ownBlock = some g → ¬ (g < B ∨ wr.heap.size ≤ g)) := Lib.hid (fun g e => by have := (HIA.out.own g e).1; have := HIA.out.pw; have := HIA.out.bw; have := Row.lt HIA.out.row e; omega)
    have HFEW : Hid (ws.length ≤ 999999) := Lib.hid (by have := HIA.out.len; omega)
    by_cases hlt : i < n
    · have i1 : (i : Int) < (n : Int) := by omega
      obtain ⟨kb, hv⟩ := HIF.out i hlt
      have hce : wr.cell? ⟨g, off + i, none⟩ = some (.pointer (some ⟨kb, 0, none⟩)) := by rw [← hv]; exact HIA.out.gr.cell (HCELL.out i hlt)
      have HV := Lib.hid hv
      have HLT := Lib.hid hlt
      clear hv
      go_upto_region 12 with fail
      refine wp_region_k (n := 12) (fun u => Sav (fun g => (Value.slice va ws.length vc).ownBlock = some g) wr u ∧ Row 24 1 isPt u (.slice va ws.length vc) ws.length ws) [Fg.eq (.pointer (some ⟨p, 0, none⟩)), Fg.eq (.pointer (some ⟨p, 0, none⟩)), Fg.eq (.pointer (some ⟨p, 0, none⟩)), Fg.eq (.pointer (some ⟨p, 4, none⟩)), Fg.eq (.slice va ws.length vc), Fg.eq (.pointer (some ⟨kb, 0, none⟩)), Fg.eq (.bool true), Fg.kidI (kR_ok d F) isPt i B wr.heap.size, Fg.boxI (kR_ok d F) isPt i B wr.heap.size, Fg.appI (kR_ok d F) 24 isPt (.slice va ws.length vc) ws i B wr.heap.size, Fg.eq (.pointer (some ⟨p, 0, none⟩)), Fg.eq (.pointer (some ⟨p, 4, none⟩))] [52, 53, 54, 55, 56, 57, 58, 59, 60, 61, 62, 63] ⟨.of_gr (Gr.refl wr).drew, Row.gr HIA.out.row (Gr.refl wr).drew⟩ (by kernel_rfl) (by kernel_rfl) (by kernel_rfl) ?_ ?_
      · intro L' q' o' ac w1' hi' ho hA
        have hI := hA.gr
        match q', hi' with
        | 0, _ =>
          obtain rfl := Option.some.inj ho
          exact kstep_val hA (m_move rfl (show ac.eval (.tmp 5) = .pointer (some ⟨p, 0, none⟩) from hA.other 5 (by decide))) rfl
        | 1, _ =>
          obtain rfl := Option.some.inj ho
          exact kstep_val hA (m_move rfl (show ac.eval (.tmp 5) = .pointer (some ⟨p, 0, none⟩) from hA.other 5 (by decide))) rfl
        | 2, _ =>
          obtain rfl := Option.some.inj ho
          exact kstep_val hA (n_nil rfl (hA.fact 1 (hA.dep 1 (by kernel_rfl) (by decide)))) rfl
        | 3, _ =>
          obtain rfl := Option.some.inj ho
          exact kstep_val hA (n_fa4 rfl (hA.fact 2 (hA.dep 2 (by kernel_rfl) (by decide)))) rfl
        | 4, _ =>
          obtain rfl := Option.some.inj ho
          exact kstep_val hA (n_loadK rfl (hA.fact 3 (hA.dep 3 (by kernel_rfl) (by decide))) (hI.1.cell HC0.out HNO.out)) rfl
        | 5, _ =>
          obtain rfl := Option.some.inj ho
          exact kstep_val hA (m_move rfl (show ac.eval (.tmp 7) = .pointer (some ⟨kb, 0, none⟩) from hA.other 7 (by decide))) rfl
        | 6, _ =>
          obtain rfl := Option.some.inj ho
          exact kstep_val hA (m_move rfl (show ac.eval (.tmp 1) = .bool true from hA.other 1 (by decide))) rfl
        | 7, _ =>
          obtain rfl := Option.some.inj ho
          refine kstep_call hA (r_call rfl rfl (hA.fact 5 (hA.dep 5 (by kernel_rfl) (by decide))) (hA.fact 6 (hA.dep 6 (by kernel_rfl) (by decide)))) ((HIH.out i HLT.out kb HV.out w1' (HGR.out.trans (hI.1.gr HIA.out.gr HOW.out))).mono ?_)
          rintro E w9 hq
          obtain ⟨u, rfl, hg, hk⟩ := hq.kid hI.1.size
          exact ⟨u, rfl, ⟨hI.1.then (.of_gr hg), Row.gr hI.2 hg⟩, hk, fun j _ v h => (fgAt _ j).mono _ _ _ h hg⟩
        | 8, _ =>
          obtain rfl := Option.some.inj ho
          obtain ⟨tb, hv⟩ := kidP.ptr (hA.fact 7 (hA.dep 7 (by kernel_rfl) (by decide)))
          have hkp : kidP (kR d F) isPt i B wr.heap.size (.pointer (some ⟨tb, 0, none⟩)) w1' := by
            rw [← hv]
            exact (hA.fact 7 (hA.dep 7 (by kernel_rfl) (by decide)))
          exact kstep_gr hA (f_build rfl hv) ((Gr.refl _).alloc _) ⟨hI.1.then (.of_gr ((Gr.refl _).alloc _)), Row.gr hI.2 ((Gr.refl _).alloc _)⟩ ⟨_, .pointer (some ⟨tb, 0, none⟩), rfl, hI.1.size, (HB.new _ _ _).c 0 rfl, kidP.gr (kR_ok d F) hkp ((Gr.refl _).alloc _)⟩
        | 9, _ =>
          obtain rfl := Option.some.inj ho
          obtain ⟨v', w', hr, sv, hold, happ⟩ := in_app (kR_ok d F) (P := Tryd.prog) 60 60 i0 (.pointer none) 8 Tryd.underlying60 hi0 hz0 hz1 hz2 rfl (by intro u hu; simp [Value.cells] at hu; exact ⟨_, hu⟩) (by decide) hI.2 HFEW.out (hA.fact 8 (hA.dep 8 (by kernel_rfl) (by decide))) hI.1.size
          refine kstep_keep hA (s_app rfl (hA.fact 4 (hA.dep 4 (by kernel_rfl) (by decide))) rfl hr) ⟨hI.1.then sv, hold⟩ (happ HD.out) ?_
          intro j hj u hu
          match j, hj, hu with
          | 0, _, hu => exact hu
          | 1, _, hu => exact hu
          | 2, _, hu => exact hu
          | 3, _, hu => exact hu
          | 4, _, hu => exact hu
          | 5, _, hu => exact hu
          | 6, _, hu => exact hu
          | 7, _, hu => exact kidP.sav (kR_ok d F) HD.out hu sv
          | 8, _, hu => exact boxP.sav (kR_ok d F) HD.out hu sv
          | 9, hj, _ => exact absurd rfl hj
          | 10, _, hu => exact hu
          | 11, _, hu => exact hu
          | j + 12, _, hu => trivial
        | 10, _ =>
          obtain rfl := Option.some.inj ho
          exact kstep_val hA (n_nil rfl (hA.fact 0 (hA.dep 0 (by kernel_rfl) (by decide)))) rfl
        | 11, _ =>
          obtain rfl := Option.some.inj ho
          exact kstep_val hA (n_fa4 rfl (hA.fact 10 (hA.dep 10 (by kernel_rfl) (by decide)))) rfl
        | k + 12, hk => exact absurd (show k + 12 < 12 from hk) (by omega)
      · intro vs5 w5 hI hv
        have happ : appP 24 (kR d F) isPt (.slice va ws.length vc) ws i B wr.heap.size (vs5 9) w5 := hv 9 (by omega)
        have vz : vs5 11 = .pointer (some ⟨p, 4, none⟩) := hv 11 (by omega)
        have hsv := hI.1
        clear hv hI
        simp only [putN, List.drop_succ_cons, List.drop_zero, List.getElem?_cons_succ, List.getElem?_cons_zero, vz]
        clear vz
        generalize vs5 9 = zz at *
        generalize vs5 0 = z0
        generalize vs5 1 = z1
        generalize vs5 2 = z2
        generalize vs5 3 = z3
        generalize vs5 4 = z4
        generalize vs5 5 = z5
        generalize vs5 6 = z6
        generalize vs5 7 = z7
        generalize vs5 8 = z8
        generalize vs5 10 = z10
        obtain ⟨vk, Sk, hrow, hkk, hss, hown⟩ := happ
        obtain ⟨ra, rc, rfl⟩ := Row.shape hrow
        have HN2 := Lib.hid (HIA.out.more (kR_ok d F) (off := 4) (fun w hw => RB.s4 hw _) hsv hrow hkk hss hown)
        have d0 := hsv.cell HC0.out HNO.out
        have d2 := hsv.frozen (p := ⟨p, 4, none⟩) (cell_lt HC0.out) HF0.out HNO.out
        clear hsv hrow hkk hss hown
        go_wp2
        go_roundw
        case rel => exact ⟨i + 1, _, _, _, by omega, by go_num, HN2⟩
        case measure => simp [intOf]; omega
    · obtain rfl : i = n := by omega
      have HE : Hid (RFl (fun g => g < B ∨ w.heap.size ≤ g) (d + 1) wr (.pointer (some ⟨p, 0, none⟩)) (.many l2 false)) := Lib.hid (by
        have hin := HIA.out
        refine ⟨p, rfl, .inr hin.pw, hin.lt, _, ws, hin.bl, hin.row, fun g hg => .inr (by have := (hin.own g hg).1; have := hin.pw; omega), hin.len.trans HN.out, by rw [← HN.out]; exact h0, by rw [← HN.out]; exact h1, fun j hj => ?_⟩
        rw [← HN.out] at hj
        have h9 := hin.kids j hj
        unfold kR at h9
        rw [HFF.out j hj] at h9
        exact RFl.mono h9 fun g hg _ => (hin.sin g hg).1.imp id fun e => by have := hin.pw; omega)
      go_wp2
      go_ret
      exact ⟨_, rfl, HIA.out.gr, HE.out⟩
theorem RInsA.up {B d : Nat} {w w2 : World} {f : Flt} {E : Ending} (h : RInsA B d w f E w2) : RInsA B (d + 1) w f E w2 := by
  obtain ⟨u, h1, h2, h3⟩ := h
  exact ⟨u, h1, h2, h3.up⟩
/-- How deep at most. -/
def dT (d : Nat) (t : Bool) : Nat := if t then d + 1 else d
theorem rins_leaf_any {B d : Nat} {w : World} {v : Value} {f : Flt} (h : RFl (fun g => g < B) (d + 1) w v f) (hf : isLeaf f) (t : Bool) (hi : insF false f = f) (hi2 : insF true f = .not f) : Calls Tryd.prog 11 #[v, .bool t] w (RInsA B (dT (d + 1) t) w (insF t f)) := by
  cases t
  · rw [hi]
    refine (rins_leaf h (Gr.refl w) hf).mono ?_
    rintro E w2 ⟨rfl, hg⟩
    exact ⟨v, rfl, hg, (RFl.same h (fun g _ hl => hg.block hl) hg.size).mono fun g hg _ => .inl hg⟩
  · rw [hi2]
    exact rins_leaf_not h hf
/-- Inside of any filter. -/
theorem rinside_any {B : Nat} : ∀ {d : Nat} {w : World} {v : Value} {f : Flt}, RFl (fun g => g < B) d w v f → B ≤ w.heap.size → ∀ (t : Bool) w', Gr w w' → Calls Tryd.prog 11 #[v, .bool t] w' (RInsA B (dT d t) w' (insF t f))
  | 0, _, _, _, h, _, _, _, _ => h.elim
  | d + 1, w, v, f, h, hB, t, w', hw => by
    have hB' : B ≤ w'.heap.size := Nat.le_trans hB hw.size
    have h' : RFl (fun g => g < B) (d + 1) w' v f := RFl.same h (fun g _ hl => hw.block hl) hw.size
    cases f with
    | any => exact rins_leaf_any h' trivial t (by rw [ins_any]; rfl) (by rw [ins_any]; rfl)
    | test i lo hi => exact rins_leaf_any h' trivial t (by rw [ins_test]; rfl) (by rw [ins_test]; rfl)
    | has i lo => exact rins_leaf_any h' trivial t (by rw [ins_has]; rfl) (by rw [ins_has]; rfl)
    | not g =>
      obtain ⟨b, rfl, _, _, s, u, k1, k2, _, k4⟩ := h'
      obtain ⟨g0, off, cap, rfl, _, _, hcell⟩ := Row.cells k2 (by simp)
      obtain ⟨ku, rfl⟩ := k4.ptr
      rw [ins_not]
      refine rins_not b g0 off cap ku t w' _ k1 (hcell 0 _ rfl) ?_
      have h9 := rinside_any k4 hB' (!t) w' (Gr.refl w')
      refine h9.mono ?_
      rintro E w2 ⟨u, rfl, h2, h3⟩
      refine ⟨u, rfl, u, rfl, h2, ?_⟩
      cases t
      · exact h3
      · exact RFl.up (RFl.up h3)
    | many l o =>
      obtain ⟨b, rfl, _, _, s, vs, k1, k2, _, k4, k5, k6, k7⟩ := h'
      rw [ins_many]
      have hlm : (l.map (insF t)).length = l.length := List.length_map ..
      have IH : ∀ i, i < (l.map (insF t)).length → ∀ kb, vs.getD i (.pointer none) = .pointer (some ⟨kb, 0, none⟩) → ∀ w2, Gr w' w2 → Calls Tryd.prog 11 #[.pointer (some ⟨kb, 0, none⟩), .bool t] w2 (RInsA B (dT d t) w2 ((l.map (insF t)).getD i .any)) := fun i hi kb hv w2 hg => by
        rw [hlm] at hi
        have h9 := rinside_any (k7 i hi) hB' t w2 hg
        rw [hv] at h9
        rw [getD_map hi]
        exact h9
      have hif : ∀ i, i < (l.map (insF t)).length → ∃ kb, vs.getD i (.pointer none) = .pointer (some ⟨kb, 0, none⟩) := fun i hi => by rw [hlm] at hi; exact (k7 i hi).ptr
      cases t <;> cases o
      · exact rins_many_f_and d B (fun i => (l.map (insF false)).getD i .any) b s vs (l.map (insF false)) w' hB' k1 k2 (by rw [hlm]; exact k4) (by rw [hlm]; exact k5) (by rw [hlm]; exact k6) (fun i _ => rfl) hif IH
      · exact rins_many_f_or d B (fun i => (l.map (insF false)).getD i .any) b s vs (l.map (insF false)) w' hB' k1 k2 (by rw [hlm]; exact k4) (by rw [hlm]; exact k5) (by rw [hlm]; exact k6) (fun i _ => rfl) hif IH
      · exact rins_many_t_and (d + 1) B (fun i => (l.map (insF true)).getD i .any) b s vs (l.map (insF true)) w' hB' k1 k2 (by rw [hlm]; exact k4) (by rw [hlm]; exact k5) (by rw [hlm]; exact k6) (fun i _ => rfl) hif IH
      · exact rins_many_t_or (d + 1) B (fun i => (l.map (insF true)).getD i .any) b s vs (l.map (insF true)) w' hB' k1 k2 (by rw [hlm]; exact k4) (by rw [hlm]; exact k5) (by rw [hlm]; exact k6) (fun i _ => rfl) hif IH
end Go.Proofs.YthkccohigoejgaaDoor

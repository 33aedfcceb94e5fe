/-
  The program's Add. (Printed by genbokq.py.)
-/
import Derived.Test.YticifnegoacopaaGreatDoorBokP
import Derived.Test.YticifnegoacopaaGreatDoorBokV
import Derived.Test.YticifnegoacopaaGreatDoorRegL
import Derived.Test.YticifnegoacopaaGreatDoorErr
import Derived.Lib.AppendStr
namespace Go.Proofs.YticifnegoacopaaGreatDoor
open Go Go.RowKit

/-- The entries behind an Add. -/
def addL (L : List Ent) (x : ByteArray) (n : Int) : List Ent := if addC L x n = 0 then L ++ [(x, n)] else L
theorem addL_yes {L : List Ent} {x : ByteArray} {n : Int} (h : addC L x n = 0) : addL L x n = L ++ [(x, n)] := if_pos h
theorem addL_no {L : List Ent} {x : ByteArray} {n : Int} (h : addC L x n ≠ 0) : addL L x n = L := if_neg h
theorem addL_ok {L : List Ent} (h : EntOk L) (x : ByteArray) (n : Int) : EntOk (addL L x n) := by
  unfold addL
  split
  · exact h.snoc (by assumption)
  · exact h
theorem info_u8 : (Tryz.prog.info? 5).map (fun i => (i.zero, i.size, i.bytes)) = some (some (.int .u8 0), 1, 1) := by kernel_rfl
theorem eqM_nil (w : World) : (binOp BinOp.eql 26 (.map none) (.map none)).run Tryz.prog w = .ok (.bool true) w := by kernel_rfl
theorem eqM_some (b : Nat) (w : World) : (binOp BinOp.eql 26 (.map (some b)) (.map none)).run Tryz.prog w = .ok (.bool false) w := by kernel_rfl
theorem cells_app (a b : ByteArray) : Lib.strCells a ++ Lib.strCells b = Lib.strCells (a ++ b) := by simp [Lib.strCells, ByteArray.data_append]
/-- append(data, s...) -/
theorem data_app {w : World} {n0 : Nat} {v : Value} {d x : ByteArray} (h : w.ownsRow n0 5 1 v d.size (Lib.strCells d)) (hd : d.size ≤ 100000) (hx : x.size ≤ 100000) (hn : n0 ≤ w.heap.size) :
    ∃ v' w', (Builtin.append_ #[25, 9] 25 #[v, .string x]).run Tryz.prog w = .ok v' w' ∧ w'.ownsRow n0 5 1 v' (d ++ x).size (Lib.strCells (d ++ x)) ∧ w.grownBy w' v.ownBlock := by
  obtain ⟨i0, hi, hz0, hz1, hz2⟩ := info_parts info_u8
  obtain ⟨v', w', h1, h2, h3, _⟩ := Lib.run_append_own_string (P := Tryz.prog) w n0 25 9 25 5 i0 Tryz.underlying25 Tryz.underlying9 hi hz0 hz1 hz2 v d.size (Lib.strCells d) h x (by unfold maxLen; omega) (by omega) hn
  exact ⟨v', w', h1, by rw [ByteArray.size_append, ← cells_app]; exact h2, h3⟩
section
variable {ev : Operand → Value} {o : Oper} {w : World} {x y z : Operand} {u : Value}
theorem s_fb1 {p : Nat} (ho : o.op = .fieldAddr 28 x 1) (h : ev x = .pointer (some ⟨p, 0, none⟩)) : (execOp ev o).run Tryz.prog w = .ok (.value (.pointer (some ⟨p, 1, none⟩))) w := by simp [execOp, ho, h, go_sem]
theorem s_fb2 {p : Nat} (ho : o.op = .fieldAddr 28 x 2) (h : ev x = .pointer (some ⟨p, 0, none⟩)) : (execOp ev o).run Tryz.prog w = .ok (.value (.pointer (some ⟨p, 2, none⟩))) w := by simp [execOp, ho, h, go_sem]
theorem s_loadD {ad : Addr} {v : Value} (hv : ∃ a n c, v = .slice a n c) (ho : o.op = .load 25 x) (h : ev x = .pointer (some ad)) (hc : w.cell? ad = some v) : (execOp ev o).run Tryz.prog w = .ok (.value v) w := by
  obtain ⟨a, n, c, rfl⟩ := hv
  simp [execOp, ho, h, hc, go_sem]
theorem s_line {a b c : Value} (ho : o.op = .call { callee := .value (.func 23), args := #[x, y, z], argTypes := #[3, 9, 3] }) (hf : ev (.func 23) = .func (.func 23) #[] #[]) (h : ev x = a) (k : ev y = b) (l : ev z = c) : (execOp ev o).run Tryz.prog w = .ok (.enter 23 #[a, b, c]) w := by
  simp [execOp, ho, hf, h, k, l, resolve, invoke, go_sem]
theorem s_appS {v v' : Value} {s : ByteArray} {w' : World} (ho : o.op = .call { callee := .builtin .append, args := #[x, y], argTypes := #[25, 9] }) (hty : o.type = 25) (h : ev x = v) (k : ev y = .string s) (hr : (Builtin.append_ #[25, 9] 25 #[v, .string s]).run Tryz.prog w = .ok v' w') : (execOp ev o).run Tryz.prog w = .ok (.value v') w' := by
  simp [execOp, ho, resolve, invoke, builtin, h, k, hty, hr, Result.andThen]
end
section
variable {P : Program} {ops : Array Oper} {n : Nat} {fs : List Fv} {I : Bool → World → Prop} {c : Nat} {a0 : Act} {L : Nat → Prop} {i : Nat} {o : Oper} {a : Act} {w w' : World} {Q : Exit → Act → World → Prop} {u : Value}
/-- The operation that turns it, of the language's own. -/
theorem lstep_turn (_ : LAt ops n fs I c a0 L i a w) (hic : i = c) (hr : (execOp a.eval o).run P w = .ok (.value u) w') (hI : I true w') (hk : ∀ f, f i = got o u → (fvAt fs i).p f w') (hkeep : ∀ j, L j → (fvAt fs j).p (valOf ops a) w → (fvAt fs j).p (valOf ops a) w') : Oper.wp P o a w (LPost ops fs I c L i o a w) Q := by
  unfold Oper.wp
  rw [hr]
  exact ⟨u, rfl, ⟨fun _ => hI, fun h => absurd (.inl hic) h⟩, fun f hf _ => hk f hf, hkeep⟩
/-- A call that makes memory alone. -/
theorem lstep_callG {f : FuncId} {args : Array Value} (hA : LAt ops n fs I c a0 L i a w) (hic : i ≠ c) (hr : (execOp a.eval o).run P w = .ok (.enter f args) w) (hI : ∀ b u, I b w → Gr w u → I b u) (hc : Calls P f args w (fun e w' => ∃ v, e = .returned v ∧ Gr w w' ∧ ∀ g, g i = got o v → (fvAt fs i).p g w')) : Oper.wp P o a w (LPost ops fs I c L i o a w) Q := by
  unfold Oper.wp
  rw [hr]
  show Calls P f args w _
  refine hc.mono ?_
  rintro e w' ⟨v, rfl, hg, hk⟩
  exact ⟨v, rfl, ⟨fun h => hI _ _ (hA.yes (h.resolve_left hic)) hg, fun h => hI _ _ (hA.no (fun h2 => h (.inr h2))) hg⟩, fun f hf _ => hk f hf, fun j _ h => (fvAt fs j).mono _ _ _ h hg⟩
end
def Fg.rowD (n0 : Nat) (d : ByteArray) : Fg := ⟨fun u w => w.ownsRow n0 5 1 u d.size (Lib.strCells d), fun _ _ _ h k => ownsRow_same h fun g hg => by
  rcases h.2 with ⟨e, _⟩ | ⟨g', _, cur, e, _, hh, _⟩
  · rw [e] at hg; cases hg
  · rw [e] at hg
    obtain rfl := Option.some.inj hg
    exact k.block (Array.getElem?_eq_some_iff.1 hh).1⟩
/-- What the region of the append leaves of the world. -/
def AppI (w0 : World) (dv : Value) (b : Bool) (W : World) : Prop := Sav (fun q => b = true ∧ dv.ownBlock = some q) w0 W
theorem AppI.gr {w0 W U : World} {dv : Value} {b : Bool} (h : AppI w0 dv b W) (g : Gr W U) : AppI w0 dv b U := h.then (.of_gr g)
theorem AppI.row {w0 W : World} {n0 : Nat} {dv : Value} {d : ByteArray} (h : AppI w0 dv false W) (hd : w0.ownsRow n0 5 1 dv d.size (Lib.strCells d)) : W.ownsRow n0 5 1 dv d.size (Lib.strCells d) :=
  ownsRow_same hd fun g hg => by
    rcases hd.2 with ⟨e, _⟩ | ⟨g', _, cur, e, _, hh, _⟩
    · rw [e] at hg; cases hg
    · rw [e] at hg
      obtain rfl := Option.some.inj hg
      exact h.block _ (Array.getElem?_eq_some_iff.1 hh).1 (fun e => absurd e.1 (by decide))
/-- One more entry. -/
theorem BokAt.more {w0 w5 w7 : World} {n0 p s b : Nat} {L : List Ent} {dv dv' : Value} {x : ByteArray} {n : Int} (h : BokAt w0 n0 p L s (.map (some b)) dv) (hI : AppI w0 dv true w5) (hd : w5.ownsRow n0 5 1 dv' (journal L ++ jline (L.length : Int) (x, n)).size (Lib.strCells (journal L ++ jline (L.length : Int) (x, n))))
    (ha : addC L x n = 0) (hb : n0 ≤ b) (hbp : b ≠ p) (hm : MapS w7 b (L ++ [(x, n)])) (hg : ((w5.setCell ⟨p, 2, none⟩ dv').setCell ⟨p, 1, none⟩ (.int .i64 ((L.length : Int) + 1))).grownBy w7 (some b)) (hmb : MapS w0 b L) : BokAt w7 n0 p (L ++ [(x, n)]) s (.map (some b)) dv' ∧ Kp badB n0 p w0 w7 := by
  have hpl := (Array.getElem?_eq_some_iff.1 h.blk).1
  have h5 : w5.heap[p]? = some (.cells #[.map (some b), .int .i64 (L.length : Int), dv, .int .i64 (s : Int)] 28 (0, 0)) := (hI.block p hpl (fun e => h.dataNe e.2 rfl)).trans h.blk
  have h6 := set_blk (o := 1) (set_blk (o := 2) h5 dv') (.int .i64 ((L.length : Int) + 1))
  have hpl6 := (Array.getElem?_eq_some_iff.1 h6).1
  have h7 := (hg.block p hpl6 (fun e => hbp (Option.some.inj e).symm)).trans h6
  have hne : ∀ g, dv'.ownBlock = some g → g ≠ p ∧ g ≠ b ∧ g < w5.heap.size := fun g hg2 => by
    rcases hd.2 with ⟨e, _⟩ | ⟨g', _, cur, e, _, hh, _⟩
    · rw [e] at hg2; cases hg2
    · rw [e] at hg2
      obtain rfl := Option.some.inj hg2
      refine ⟨fun e2 => ?_, fun e2 => ?_, (Array.getElem?_eq_some_iff.1 hh).1⟩
      · rw [show g' = p from e2, h5] at hh
        injection hh with e1
        injection e1 with _ e3
        exact absurd e3 (by decide)
      · obtain ⟨es, clock, hes⟩ := hmb.isMap
        have hes5 : w5.heap[b]? = _ := (hI.block b (Array.getElem?_eq_some_iff.1 hes).1 (fun e3 => by
          rcases h.data.2 with ⟨e4, _⟩ | ⟨g2, _, _, e4, _, hh2, _⟩
          · have := e3.2; rw [e4] at this; cases this
          · have e5 := e3.2
            rw [e4] at e5
            rw [show g2 = b from Option.some.inj e5, hes] at hh2
            cases hh2)).trans hes
        rw [show g' = b from e2, hes5] at hh
        cases hh
  refine ⟨⟨?_, h.low, ?_, ?_, .inr ⟨b, rfl, hb, hm⟩, h.ok.snoc ha, ?_⟩, ?_⟩
  · rw [h7, List.length_append, List.length_singleton]
    simp
  · have := h.old
    have := hI.size
    have := hg.size
    simp at this
    omega
  · rw [journal_snoc]
    refine ownsRow_same hd fun g hg2 => ?_
    obtain ⟨h8, h9, h10⟩ := hne g hg2
    refine (hg.block g (by simpa using h10) (fun e => h9 (Option.some.inj e))).trans ?_
    rw [Below.heap_setCell _ _ _ _ h8, Below.heap_setCell _ _ _ _ h8]
  · rw [journal_snoc, ByteArray.size_append]
    have := h.sure
    omega
  · refine Kp.trans (w' := w5) ⟨hI.os, hI.tape, hI.output, hI.size, fun q o h1 h2 h3 => (hI.block q (Array.getElem?_eq_some_iff.1 h1).1 fun e => ?_).trans h1⟩ ((((Kp.set w5 2 dv').trans (Kp.set _ 1 _))).trans (Kp.grown hg fun g e => ⟨by rw [← Option.some.inj e]; exact hb, .inr fun o h1 => ?_⟩))
    · rcases h.data.2 with ⟨e4, _⟩ | ⟨g2, _, _, e4, h11, hh2, _⟩
      · have := e.2; rw [e4] at this; cases this
      · have e5 := e.2
        rw [e4] at e5
        have e6 : g2 = q := Option.some.inj e5
        rw [e6] at hh2 h11
        rw [h1] at hh2
        have e7 := Option.some.inj hh2
        rcases h3 with h3 | h3
        · omega
        · exact h3 (by rw [e7]; rfl)
    · obtain rfl := Option.some.inj e
      obtain ⟨es, clock, hes⟩ := hmb.isMap
      have hes5 : w5.heap[b]? = _ := (hI.block b (Array.getElem?_eq_some_iff.1 hes).1 (fun e3 => by
        rcases h.data.2 with ⟨e4, _⟩ | ⟨g2, _, _, e4, _, hh2, _⟩
        · have := e3.2; rw [e4] at this; cases this
        · have e5 := e3.2
          rw [e4] at e5
          rw [show g2 = b from Option.some.inj e5, hes] at hh2
          cases hh2)).trans hes
      rw [Below.heap_setCell _ _ _ _ hbp, Below.heap_setCell _ _ _ _ hbp, hes5] at h1
      rw [← Option.some.inj h1]
      trivial
/-- The first entry's map. -/
theorem BokAt.fresh {w : World} {n0 p s : Nat} {L : List Ent} {dv : Value} (hL : L = []) (h : BokAt w n0 p L s (.map none) dv) : BokAt ((w.alloc (.map #[] 0)).setCell ⟨p, 0, none⟩ (.map (some w.heap.size))) n0 p L s (.map (some w.heap.size)) dv ∧ Kp badB n0 p w ((w.alloc (.map #[] 0)).setCell ⟨p, 0, none⟩ (.map (some w.heap.size))) := by
  subst hL
  have h1 := h.gr ((Gr.refl w).alloc (.map #[] 0))
  have hpl := (Array.getElem?_eq_some_iff.1 h.blk).1
  refine ⟨⟨set_blk h1.blk _, h.low, by have := h1.old; simpa using this, ownsRow_same h1.data fun g hg => Below.heap_setCell _ _ _ _ (h1.dataNe hg), .inr ⟨_, rfl, h.old, (MapS.made w).block (Below.heap_setCell _ _ _ _ (show w.heap.size ≠ p by omega))⟩, h.ok, h.sure⟩, (Kp.of_gr ((Gr.refl w).alloc _)).trans (Kp.set _ 0 _)⟩

set_option maxRecDepth 100000 in
set_option maxHeartbeats 4000000 in
/-- Add: refused. -/
theorem add_no {w : World} {n0 p s : Nat} {L : List Ent} (h : Bok w n0 p L s) (x : ByteArray) (n : Int) (hx : x.size ≤ 3000) (ha : addC L x n ≠ 0) : Calls Tryz.prog 6 #[.pointer (some ⟨p, 0, none⟩), .string x, .int .i64 n] w fun e w' => e = .returned (errV (addC L x n)) ∧ Bok w' n0 p L s ∧ Kp badB n0 p w w' := by
  have HB : Hid (∀ u, Gr w u → Bok u n0 p L s ∧ Kp badB n0 p w u) := Lib.hid (fun u g => ⟨h.elim fun mv h => h.elim fun dv h => ⟨mv, dv, h.gr g⟩, .of_gr g⟩)
  obtain ⟨mv, dv, h⟩ := h
  have HC1 := Lib.hid h.c1
  have HOK := Lib.hid h.ok
  have HN := Lib.hid (name_any x hx w)
  have HA := Lib.hid ha
  clear h hx ha
  cases hq : nameOk x with
  | false =>
    have HE : Hid (addC L x n = 5) := Lib.hid (by unfold addC; rw [if_pos hq])
    rw [hq] at HN
    clear hq
    go_enter Tryz.func6, Tryz.ntmps6
    go_wp2_with (go_at_call 8; refine HN.out.mono ?_; rintro e w1 ⟨rfl, hg⟩; have HG := Lib.hid hg; clear hg)
    go_ret
    exact ⟨by rw [HE.out]; rfl, HB.out _ HG.out⟩
  | true =>
    rw [hq] at HN
    by_cases hr : n < 1 ∨ 1000000 < n
    · have HE : Hid (addC L x n = 2) := Lib.hid (by unfold addC; rw [if_neg (by rw [hq]; decide), if_pos hr])
      clear hq
      by_cases h1 : n < 1
      · go_enter Tryz.func6, Tryz.ntmps6
        go_wp2_with (go_at_call 8; refine HN.out.mono ?_; rintro e w1 ⟨rfl, hg⟩; have HG := Lib.hid hg; clear hg)
        go_ret
        exact ⟨by rw [HE.out]; rfl, HB.out _ HG.out⟩
      · have h2 : 1000000 < n := by omega
        clear hr
        go_enter Tryz.func6, Tryz.ntmps6
        go_wp2_with (go_at_call 8; refine HN.out.mono ?_; rintro e w1 ⟨rfl, hg⟩; have HG := Lib.hid hg; clear hg)
        go_ret
        exact ⟨by rw [HE.out]; rfl, HB.out _ HG.out⟩
    · have h1 : ¬ n < 1 := fun e => hr (.inl e)
      have h2 : ¬ 1000000 < n := fun e => hr (.inr e)
      have hl : 500 ≤ L.length := by
        rcases Nat.lt_or_ge L.length 500 with h3 | h3
        · exact absurd (by unfold addC; rw [if_neg (by rw [hq]; decide), if_neg hr, if_neg (by omega)]) HA.out
        · exact h3
      have HE : Hid (addC L x n = 4) := Lib.hid (by unfold addC; rw [if_neg (by rw [hq]; decide), if_neg hr, if_pos hl])
      have hl2 : (L.length : Int) = 500 := by have := HOK.out.1; omega
      rw [hl2] at HC1
      clear hq hr hl hl2
      go_enter Tryz.func6, Tryz.ntmps6
      go_wp2_with (go_at_call 8; refine HN.out.mono ?_; rintro e w1 ⟨rfl, hg⟩; have HG := Lib.hid hg; have c1 := hg.cell HC1.out; clear hg)
      go_ret
      exact ⟨by rw [HE.out]; rfl, HB.out _ HG.out⟩
set_option maxRecDepth 100000 in
set_option maxHeartbeats 8000000 in
/-- Add: done. -/
theorem add_yes {w : World} {n0 p s : Nat} {L : List Ent} (h : Bok w n0 p L s) (x : ByteArray) (n : Int) (hx : x.size ≤ 3000) (ht : Tab w) (ha : addC L x n = 0) (hgl : ∀ u, Kp badB n0 p w u → Tab u) : Calls Tryz.prog 6 #[.pointer (some ⟨p, 0, none⟩), .string x, .int .i64 n] w fun e w' => e = .returned .nilIface ∧ Bok w' n0 p (L ++ [(x, n)]) s ∧ Kp badB n0 p w w' := by
  obtain ⟨mv, dv, h⟩ := h
  have HN := Lib.hid (name_any x hx w)
  have ha0 := addC_zero ha
  have HA := Lib.hid ha
  have HA0 := Lib.hid ha0
  rw [ha0.1] at HN
  have h1 : ¬ n < 1 := by omega
  have h2 : ¬ 1000000 < n := by omega
  have HX := Lib.hid hx
  have HGL := Lib.hid hgl
  have HSH : Hid (∃ a n c, dv = .slice a n c) := Lib.hid (by obtain ⟨a, c, e⟩ := h.shape; exact ⟨a, _, c, e⟩)
  have HLN : Hid (∀ u, Tab u → Calls Tryz.prog 23 #[.int .i64 (L.length : Int), .string x, .int .i64 n] u fun e w' => e = .returned (.string (jline (L.length : Int) (x, n))) ∧ Gr u w') := Lib.hid (fun u hu => line_any _ n x (by unfold Bd; omega) (by unfold Bd; omega) hx u hu)
  have HSZ : Hid ((journal L).size ≤ 100000 ∧ (jline (L.length : Int) (x, n)).size ≤ 100000) := Lib.hid (by
    have e1 := (h.ok.snoc ha).size
    rw [journal_snoc, ByteArray.size_append] at e1
    omega)
  have hl3 : ¬ (L.length : Int) = 500 := by omega
  have HTI0 : Hid (∀ b w1 dv u bb, Kp badB n0 p w w1 → BokAt w1 n0 p L s (.map (some b)) dv → AppI w1 dv bb u → Tab u) := Lib.hid (fun b w1 dv u bb h1 h2 h3 => HGL.out u (h1.trans ⟨h3.os, h3.tape, h3.output, h3.size, fun q o h4 h5 h6 => (h3.block q (Array.getElem?_eq_some_iff.1 h4).1 fun e => by
    rcases h2.data.2 with ⟨e4, _⟩ | ⟨g2, _, _, e4, h11, hh2, _⟩
    · have := e.2; rw [e4] at this; cases this
    · have e5 := e.2
      rw [e4] at e5
      have e6 : g2 = q := Option.some.inj e5
      rw [e6] at hh2 h11
      rw [h4] at hh2
      have e7 := Option.some.inj hh2
      rcases h6 with h6 | h6
      · omega
      · exact h6 (by rw [e7]; rfl)).trans h4⟩))
  have hmm := @run_makeMap Tryz.prog
  rcases h.map with ⟨rfl, hL⟩ | ⟨b, rfl, hnb, hm⟩
  · have H0 := Lib.hid h
    have HL := Lib.hid hL
    have hem := eqM_nil
    clear h ha ha0 hx ht hgl hL
    go_enter Tryz.func6, Tryz.ntmps6
    go_upto_region 9 with (go_at_call 8; refine HN.out.mono ?_; rintro e w1 ⟨rfl, hg⟩; have H1 := Lib.hid (H0.out.gr hg); have c0 := H1.out.c0; have c1 := H1.out.c1; have z0 := H1.out.fz 0; have hpl := (Array.getElem?_eq_some_iff.1 H1.out.blk).1; have HG1 := Lib.hid hg; clear hg)
    all_goals (try (exfalso; omega))
    obtain ⟨b, hb⟩ : ∃ b, b = w1.heap.size := ⟨_, rfl⟩
    have HF := Lib.hid (H1.out.fresh HL.out)
    rw [World.setCell_alloc_past _ _ _ _ hpl] at HF
    rw [← hb] at HF ⊢
    have HNB : Hid (n0 ≤ b) := Lib.hid (by rw [hb]; exact H1.out.old)
    clear hb hpl c0 c1 z0 H0 H1 HL hmm hem
    obtain ⟨w2, hw2⟩ : ∃ w2, w2 = (w1.setCell ⟨p, 0, none⟩ (.map (some b))).alloc (.map #[] 0) := ⟨_, rfl⟩
    rw [← hw2] at HF ⊢
    clear hw2
    have HB := Lib.hid HF.out.1
    have HKP : Hid (Kp badB n0 p w w2) := Lib.hid ((Kp.of_gr HG1.out).trans HF.out.2)
    clear HF
    have HTI1 := Lib.hid (HTI0.out b)
    have HM : Hid (MapS w2 b L) := Lib.hid (by
      rcases HB.out.map with ⟨e, _⟩ | ⟨b', e, _, h9⟩
      · cases e
      · cases e; exact h9)
    have HBP := Lib.hid (HB.out.mapNe HM.out)
    have HTI : Hid (∀ bb u, AppI w2 dv bb u → Tab u) := Lib.hid (fun bb u h => HTI1.out w2 dv u bb HKP.out HB.out h)
    clear HTI1
    refine wp_region_l (n := 15) (AppI w2 dv) 12 [Fv.of 0 (Fg.eq (.pointer (some ⟨p, 0, none⟩))), Fv.of 1 (Fg.eq (.pointer (some ⟨p, 0, none⟩))), Fv.of 2 (Fg.eq (.pointer (some ⟨p, 0, none⟩))), Fv.of 3 (Fg.eq (.pointer (some ⟨p, 2, none⟩))), Fv.of 4 (Fg.eq dv), Fv.of 5 (Fg.eq (.pointer (some ⟨p, 0, none⟩))), Fv.of 6 (Fg.eq (.pointer (some ⟨p, 0, none⟩))), Fv.of 7 (Fg.eq (.pointer (some ⟨p, 1, none⟩))), Fv.of 8 (Fg.eq (.int .i64 (L.length : Int))), Fv.of 9 (Fg.eq (.string x)), Fv.of 10 (Fg.eq (.int .i64 n)), Fv.of 11 (Fg.eq (.string (jline (L.length : Int) (x, n)))), Fv.of 12 (Fg.rowD n0 (journal L ++ jline (L.length : Int) (x, n))), Fv.of 13 (Fg.eq (.pointer (some ⟨p, 0, none⟩))), Fv.of 14 (Fg.eq (.pointer (some ⟨p, 2, none⟩)))] [36, 37, 38, 39, 40, 41, 42, 43, 44, 45, 46, 47, 48, 49, 50] ?_ (by decide) (by kernel_rfl) (by kernel_rfl) (by kernel_rfl) (by kernel_rfl) ?_ ?_
    · exact .of_gr (Gr.refl w2).drew
    · intro Ls i' o' ac w1' hi' ho hA
      match i', hi' with
      | 0, _ =>
        obtain rfl := Option.some.inj ho
        exact lstep_val hA (by decide) (s_move rfl (show ac.eval (.tmp 0) = .pointer (some ⟨p, 0, none⟩) from hA.other 0 (by decide))) (fun f hf => hf)
      | 1, _ =>
        obtain rfl := Option.some.inj ho
        exact lstep_val hA (by decide) (s_move rfl (show ac.eval (.tmp 0) = .pointer (some ⟨p, 0, none⟩) from hA.other 0 (by decide))) (fun f hf => hf)
      | 2, _ =>
        obtain rfl := Option.some.inj ho
        exact lstep_val hA (by decide) (s_nil rfl (hA.fact 1 (hA.dep 1 (by kernel_rfl) (by decide)))) (fun f hf => hf)
      | 3, _ =>
        obtain rfl := Option.some.inj ho
        exact lstep_val hA (by decide) (s_fb2 rfl (hA.fact 2 (hA.dep 2 (by kernel_rfl) (by decide)))) (fun f hf => hf)
      | 4, _ =>
        obtain rfl := Option.some.inj ho
        exact lstep_val hA (by decide) (s_loadD HSH.out rfl (hA.fact 3 (hA.dep 3 (by kernel_rfl) (by decide))) (hA.any (R := fun u => u.cell? ⟨p, 2, none⟩ = some (dv)) (fun bb u hI => hI.cell HB.out.c2 (fun e => HB.out.dataNe e.2 rfl)))) (fun f hf => hf)
      | 5, _ =>
        obtain rfl := Option.some.inj ho
        exact lstep_val hA (by decide) (s_move rfl (show ac.eval (.tmp 0) = .pointer (some ⟨p, 0, none⟩) from hA.other 0 (by decide))) (fun f hf => hf)
      | 6, _ =>
        obtain rfl := Option.some.inj ho
        exact lstep_val hA (by decide) (s_nil rfl (hA.fact 5 (hA.dep 5 (by kernel_rfl) (by decide)))) (fun f hf => hf)
      | 7, _ =>
        obtain rfl := Option.some.inj ho
        exact lstep_val hA (by decide) (s_fb1 rfl (hA.fact 6 (hA.dep 6 (by kernel_rfl) (by decide)))) (fun f hf => hf)
      | 8, _ =>
        obtain rfl := Option.some.inj ho
        exact lstep_val hA (by decide) (s_loadN rfl (hA.fact 7 (hA.dep 7 (by kernel_rfl) (by decide))) (hA.any (R := fun u => u.cell? ⟨p, 1, none⟩ = some (.int .i64 (L.length : Int))) (fun bb u hI => hI.cell HB.out.c1 (fun e => HB.out.dataNe e.2 rfl)))) (fun f hf => hf)
      | 9, _ =>
        obtain rfl := Option.some.inj ho
        exact lstep_val hA (by decide) (s_move rfl (show ac.eval (.tmp 1) = .string x from hA.other 1 (by decide))) (fun f hf => hf)
      | 10, _ =>
        obtain rfl := Option.some.inj ho
        exact lstep_val hA (by decide) (s_move rfl (show ac.eval (.tmp 2) = .int .i64 n from hA.other 2 (by decide))) (fun f hf => hf)
      | 11, _ =>
        obtain rfl := Option.some.inj ho
        have htb : Tab w1' := hA.any (R := Tab) (fun bb u hI => HTI.out bb u hI)
        exact lstep_callG hA (by decide) (s_line rfl rfl (hA.fact 8 (hA.dep 8 (by kernel_rfl) (by decide))) (hA.fact 9 (hA.dep 9 (by kernel_rfl) (by decide))) (hA.fact 10 (hA.dep 10 (by kernel_rfl) (by decide)))) (fun bb u hI g => hI.gr g) ((HLN.out _ htb).mono (fun e w2 ⟨h1, h2⟩ => ⟨_, h1, h2, fun f hf => hf⟩))
      | 12, _ =>
        obtain rfl := Option.some.inj ho
        have hno : AppI w2 dv false w1' := hA.no hA.self
        obtain ⟨v', w2, hr, hrow, hgrow⟩ := data_app (x := jline (L.length : Int) (x, n)) (hno.row HB.out.data) HSZ.out.1 HSZ.out.2 (Nat.le_trans HB.out.old hno.size)
        refine lstep_turn hA rfl (s_appS rfl rfl (hA.fact 4 (hA.dep 4 (by kernel_rfl) (by decide))) (hA.fact 11 (hA.dep 11 (by kernel_rfl) (by decide))) hr) ?_ (fun f hf => ?_) (fun j hj hu => ?_)
        · exact (hno.mono fun q e => absurd e.1 (by decide)).then (.of_grown hgrow fun g e => ⟨rfl, e⟩)
        · show w2.ownsRow n0 5 1 (f 12) _ _
          rw [show f 12 = v' from hf]
          exact hrow
        · match j, hj, hu with
          | 0, _, hu => exact hu
          | 1, _, hu => exact hu
          | 2, _, hu => exact hu
          | 3, _, hu => exact hu
          | 4, _, hu => exact hu
          | 5, _, hu => exact hu
          | 6, _, hu => exact hu
          | 7, _, hu => exact hu
          | 8, _, hu => exact hu
          | 9, _, hu => exact hu
          | 10, _, hu => exact hu
          | 11, _, hu => exact hu
          | 12, hj, _ => exact (hA.self hj).elim
          | 13, _, hu => exact hu
          | 14, _, hu => exact hu
          | j + 15, hj, _ => exact absurd (hA.low _ hj) (by omega)
      | 13, _ =>
        obtain rfl := Option.some.inj ho
        exact lstep_val hA (by decide) (s_nil rfl (hA.fact 0 (hA.dep 0 (by kernel_rfl) (by decide)))) (fun f hf => hf)
      | 14, _ =>
        obtain rfl := Option.some.inj ho
        exact lstep_val hA (by decide) (s_fb2 rfl (hA.fact 13 (hA.dep 13 (by kernel_rfl) (by decide)))) (fun f hf => hf)
      | k' + 15, hk' => exact absurd (show k' + 15 < 15 from hk') (by omega)
    · intro vs5 w5 hI hv
      have hrow : w5.ownsRow n0 5 1 (vs5 12) _ _ := hv 12 (by omega)
      have vz : vs5 14 = .pointer (some ⟨p, 2, none⟩) := hv 14 (by omega)
      clear hv
      have HI := Lib.hid hI
      have HRW := Lib.hid hrow
      simp only [putN, List.drop_succ_cons, List.drop_zero, List.getElem?_cons_succ, List.getElem?_cons_zero, vz]
      clear vz hI hrow
      generalize vs5 0 = z0
      generalize vs5 1 = z1
      generalize vs5 2 = z2
      generalize vs5 3 = z3
      generalize vs5 4 = z4
      generalize vs5 5 = z5
      generalize vs5 6 = z6
      generalize vs5 7 = z7
      generalize vs5 8 = z8
      generalize vs5 9 = z9
      generalize vs5 10 = z10
      generalize vs5 11 = z11
      generalize vs5 13 = z13
      generalize vs5 12 = dv' at *
      obtain ⟨da, dn, dc, rfl⟩ : ∃ a n c, dv' = .slice a n c := by
        rcases HRW.out.2 with ⟨e, _⟩ | ⟨g, cap, cur, e, _⟩
        · exact ⟨none, 0, 0, e⟩
        · exact ⟨_, _, _, e⟩
      have hkeep : ∀ {o : Nat} {v : Value}, w2.cell? ⟨p, o, none⟩ = some v → w5.cell? ⟨p, o, none⟩ = some v := fun hc => HI.out.cell hc (fun e => HB.out.dataNe e.2 rfl)
      have hfz : ∀ o : Nat, w5.frozen? ⟨p, o, none⟩ = false := fun o => HI.out.frozen (p := ⟨p, o, none⟩) (Array.getElem?_eq_some_iff.1 HB.out.blk).1 (HB.out.fz o) (fun e => HB.out.dataNe e.2 rfl)
      have d0 := hkeep HB.out.c0
      have d1 := hkeep HB.out.c1
      have d2 := hkeep HB.out.c2
      have e1 := hfz 1
      have e2 := hfz 2
      have hl0 : (0 : Int) ≤ (L.length : Int) := by omega
      have hl1 : (L.length : Int) < 500 := by have := HA0.out.2.2.2; omega
      have HM5 : Hid (MapS ((w5.setCell ⟨p, 2, none⟩ (.slice da dn dc)).setCell ⟨p, 1, none⟩ (.int .i64 ((L.length : Int) + 1))) b L) := Lib.hid (HM.out.block (by
        rw [Below.heap_setCell _ _ _ _ HBP.out, Below.heap_setCell _ _ _ _ HBP.out]
        obtain ⟨es, clock, hes⟩ := HM.out.isMap
        exact HI.out.block b (Array.getElem?_eq_some_iff.1 hes).1 (fun e3 => by
          rcases HB.out.data.2 with ⟨e4, _⟩ | ⟨g2, _, _, e4, _, hh2, _⟩
          · have := e3.2; rw [e4] at this; cases this
          · have e5 := e3.2
            rw [e4] at e5
            rw [show g2 = b from Option.some.inj e5, hes] at hh2
            cases hh2)))
      have HSUM2 : Hid (wrap64 (getN L x + n) = getN L x + n) := Lib.hid (by have := HB.out.ok.get x; have := HA0.out; unfold wrap64; omega)
      have HSUM : Hid (IntKind.i64.wrap (getN L x + n) = getN L x + n) := Lib.hid (by have := HB.out.ok.get x; have := HA0.out; rw [IntKind.wrap_i64]; omega)
      clear hkeep hfz
      go_wp2_with (first
        | (at_lookup; refine wpList_look_mapS (by rfl) _ _ (by rfl) b L (by rfl) HM5.out x (by rfl) HX.out ?_)
        | (at_mapUpdate; go_loud (refine wpList_set_mapS (by rfl) _ _ _ (by rfl) b L (by rfl) HM5.out (by have := HA0.out.2.2.2; omega) x n (by rfl) (by first | rfl | (exact congrArg (Value.int IntKind.i64) HSUM.out) | (exact congrArg (Value.int IntKind.i64) HSUM2.out)) HX.out (by have := HB.out.ok.get x; have := HA0.out; omega) ?_; intro w7 hm7 hg7; have HE7 := Lib.hid (HB.out.more HI.out HRW.out HA.out HNB.out HBP.out hm7 hg7 HM.out); clear hm7 hg7))
        | go_in)
      go_ret
      exact ⟨rfl, ⟨_, _, HE7.out.1⟩, HKP.out.trans HE7.out.2⟩
  · have H0 := Lib.hid h
    have hem := eqM_some b
    have HNB := Lib.hid hnb
    clear h ha ha0 hx ht hgl hm hnb
    go_enter Tryz.func6, Tryz.ntmps6
    go_upto_region 9 with (go_at_call 8; refine HN.out.mono ?_; rintro e w1 ⟨rfl, hg⟩; have H1 := Lib.hid (H0.out.gr hg); have c0 := H1.out.c0; have c1 := H1.out.c1; have z0 := H1.out.fz 0; have hpl := (Array.getElem?_eq_some_iff.1 H1.out.blk).1; have HG1 := Lib.hid hg; clear hg)
    all_goals (try (exfalso; omega))
    have HB := Lib.hid H1.out
    have HKP : Hid (Kp badB n0 p w w1) := Lib.hid (.of_gr HG1.out)
    clear hpl c0 c1 z0 H0 hmm hem
    have HTI1 := Lib.hid (HTI0.out b)
    have HM : Hid (MapS w1 b L) := Lib.hid (by
      rcases HB.out.map with ⟨e, _⟩ | ⟨b', e, _, h9⟩
      · cases e
      · cases e; exact h9)
    have HBP := Lib.hid (HB.out.mapNe HM.out)
    have HTI : Hid (∀ bb u, AppI w1 dv bb u → Tab u) := Lib.hid (fun bb u h => HTI1.out w1 dv u bb HKP.out HB.out h)
    clear HTI1
    refine wp_region_l (n := 15) (AppI w1 dv) 12 [Fv.of 0 (Fg.eq (.pointer (some ⟨p, 0, none⟩))), Fv.of 1 (Fg.eq (.pointer (some ⟨p, 0, none⟩))), Fv.of 2 (Fg.eq (.pointer (some ⟨p, 0, none⟩))), Fv.of 3 (Fg.eq (.pointer (some ⟨p, 2, none⟩))), Fv.of 4 (Fg.eq dv), Fv.of 5 (Fg.eq (.pointer (some ⟨p, 0, none⟩))), Fv.of 6 (Fg.eq (.pointer (some ⟨p, 0, none⟩))), Fv.of 7 (Fg.eq (.pointer (some ⟨p, 1, none⟩))), Fv.of 8 (Fg.eq (.int .i64 (L.length : Int))), Fv.of 9 (Fg.eq (.string x)), Fv.of 10 (Fg.eq (.int .i64 n)), Fv.of 11 (Fg.eq (.string (jline (L.length : Int) (x, n)))), Fv.of 12 (Fg.rowD n0 (journal L ++ jline (L.length : Int) (x, n))), Fv.of 13 (Fg.eq (.pointer (some ⟨p, 0, none⟩))), Fv.of 14 (Fg.eq (.pointer (some ⟨p, 2, none⟩)))] [36, 37, 38, 39, 40, 41, 42, 43, 44, 45, 46, 47, 48, 49, 50] ?_ (by decide) (by kernel_rfl) (by kernel_rfl) (by kernel_rfl) (by kernel_rfl) ?_ ?_
    · exact .of_gr (Gr.refl w1).drew
    · intro Ls i' o' ac w1' hi' ho hA
      match i', hi' with
      | 0, _ =>
        obtain rfl := Option.some.inj ho
        exact lstep_val hA (by decide) (s_move rfl (show ac.eval (.tmp 0) = .pointer (some ⟨p, 0, none⟩) from hA.other 0 (by decide))) (fun f hf => hf)
      | 1, _ =>
        obtain rfl := Option.some.inj ho
        exact lstep_val hA (by decide) (s_move rfl (show ac.eval (.tmp 0) = .pointer (some ⟨p, 0, none⟩) from hA.other 0 (by decide))) (fun f hf => hf)
      | 2, _ =>
        obtain rfl := Option.some.inj ho
        exact lstep_val hA (by decide) (s_nil rfl (hA.fact 1 (hA.dep 1 (by kernel_rfl) (by decide)))) (fun f hf => hf)
      | 3, _ =>
        obtain rfl := Option.some.inj ho
        exact lstep_val hA (by decide) (s_fb2 rfl (hA.fact 2 (hA.dep 2 (by kernel_rfl) (by decide)))) (fun f hf => hf)
      | 4, _ =>
        obtain rfl := Option.some.inj ho
        exact lstep_val hA (by decide) (s_loadD HSH.out rfl (hA.fact 3 (hA.dep 3 (by kernel_rfl) (by decide))) (hA.any (R := fun u => u.cell? ⟨p, 2, none⟩ = some (dv)) (fun bb u hI => hI.cell HB.out.c2 (fun e => HB.out.dataNe e.2 rfl)))) (fun f hf => hf)
      | 5, _ =>
        obtain rfl := Option.some.inj ho
        exact lstep_val hA (by decide) (s_move rfl (show ac.eval (.tmp 0) = .pointer (some ⟨p, 0, none⟩) from hA.other 0 (by decide))) (fun f hf => hf)
      | 6, _ =>
        obtain rfl := Option.some.inj ho
        exact lstep_val hA (by decide) (s_nil rfl (hA.fact 5 (hA.dep 5 (by kernel_rfl) (by decide)))) (fun f hf => hf)
      | 7, _ =>
        obtain rfl := Option.some.inj ho
        exact lstep_val hA (by decide) (s_fb1 rfl (hA.fact 6 (hA.dep 6 (by kernel_rfl) (by decide)))) (fun f hf => hf)
      | 8, _ =>
        obtain rfl := Option.some.inj ho
        exact lstep_val hA (by decide) (s_loadN rfl (hA.fact 7 (hA.dep 7 (by kernel_rfl) (by decide))) (hA.any (R := fun u => u.cell? ⟨p, 1, none⟩ = some (.int .i64 (L.length : Int))) (fun bb u hI => hI.cell HB.out.c1 (fun e => HB.out.dataNe e.2 rfl)))) (fun f hf => hf)
      | 9, _ =>
        obtain rfl := Option.some.inj ho
        exact lstep_val hA (by decide) (s_move rfl (show ac.eval (.tmp 1) = .string x from hA.other 1 (by decide))) (fun f hf => hf)
      | 10, _ =>
        obtain rfl := Option.some.inj ho
        exact lstep_val hA (by decide) (s_move rfl (show ac.eval (.tmp 2) = .int .i64 n from hA.other 2 (by decide))) (fun f hf => hf)
      | 11, _ =>
        obtain rfl := Option.some.inj ho
        have htb : Tab w1' := hA.any (R := Tab) (fun bb u hI => HTI.out bb u hI)
        exact lstep_callG hA (by decide) (s_line rfl rfl (hA.fact 8 (hA.dep 8 (by kernel_rfl) (by decide))) (hA.fact 9 (hA.dep 9 (by kernel_rfl) (by decide))) (hA.fact 10 (hA.dep 10 (by kernel_rfl) (by decide)))) (fun bb u hI g => hI.gr g) ((HLN.out _ htb).mono (fun e w2 ⟨h1, h2⟩ => ⟨_, h1, h2, fun f hf => hf⟩))
      | 12, _ =>
        obtain rfl := Option.some.inj ho
        have hno : AppI w1 dv false w1' := hA.no hA.self
        obtain ⟨v', w2, hr, hrow, hgrow⟩ := data_app (x := jline (L.length : Int) (x, n)) (hno.row HB.out.data) HSZ.out.1 HSZ.out.2 (Nat.le_trans HB.out.old hno.size)
        refine lstep_turn hA rfl (s_appS rfl rfl (hA.fact 4 (hA.dep 4 (by kernel_rfl) (by decide))) (hA.fact 11 (hA.dep 11 (by kernel_rfl) (by decide))) hr) ?_ (fun f hf => ?_) (fun j hj hu => ?_)
        · exact (hno.mono fun q e => absurd e.1 (by decide)).then (.of_grown hgrow fun g e => ⟨rfl, e⟩)
        · show w2.ownsRow n0 5 1 (f 12) _ _
          rw [show f 12 = v' from hf]
          exact hrow
        · match j, hj, hu with
          | 0, _, hu => exact hu
          | 1, _, hu => exact hu
          | 2, _, hu => exact hu
          | 3, _, hu => exact hu
          | 4, _, hu => exact hu
          | 5, _, hu => exact hu
          | 6, _, hu => exact hu
          | 7, _, hu => exact hu
          | 8, _, hu => exact hu
          | 9, _, hu => exact hu
          | 10, _, hu => exact hu
          | 11, _, hu => exact hu
          | 12, hj, _ => exact (hA.self hj).elim
          | 13, _, hu => exact hu
          | 14, _, hu => exact hu
          | j + 15, hj, _ => exact absurd (hA.low _ hj) (by omega)
      | 13, _ =>
        obtain rfl := Option.some.inj ho
        exact lstep_val hA (by decide) (s_nil rfl (hA.fact 0 (hA.dep 0 (by kernel_rfl) (by decide)))) (fun f hf => hf)
      | 14, _ =>
        obtain rfl := Option.some.inj ho
        exact lstep_val hA (by decide) (s_fb2 rfl (hA.fact 13 (hA.dep 13 (by kernel_rfl) (by decide)))) (fun f hf => hf)
      | k' + 15, hk' => exact absurd (show k' + 15 < 15 from hk') (by omega)
    · intro vs5 w5 hI hv
      have hrow : w5.ownsRow n0 5 1 (vs5 12) _ _ := hv 12 (by omega)
      have vz : vs5 14 = .pointer (some ⟨p, 2, none⟩) := hv 14 (by omega)
      clear hv
      have HI := Lib.hid hI
      have HRW := Lib.hid hrow
      simp only [putN, List.drop_succ_cons, List.drop_zero, List.getElem?_cons_succ, List.getElem?_cons_zero, vz]
      clear vz hI hrow
      generalize vs5 0 = z0
      generalize vs5 1 = z1
      generalize vs5 2 = z2
      generalize vs5 3 = z3
      generalize vs5 4 = z4
      generalize vs5 5 = z5
      generalize vs5 6 = z6
      generalize vs5 7 = z7
      generalize vs5 8 = z8
      generalize vs5 9 = z9
      generalize vs5 10 = z10
      generalize vs5 11 = z11
      generalize vs5 13 = z13
      generalize vs5 12 = dv' at *
      obtain ⟨da, dn, dc, rfl⟩ : ∃ a n c, dv' = .slice a n c := by
        rcases HRW.out.2 with ⟨e, _⟩ | ⟨g, cap, cur, e, _⟩
        · exact ⟨none, 0, 0, e⟩
        · exact ⟨_, _, _, e⟩
      have hkeep : ∀ {o : Nat} {v : Value}, w1.cell? ⟨p, o, none⟩ = some v → w5.cell? ⟨p, o, none⟩ = some v := fun hc => HI.out.cell hc (fun e => HB.out.dataNe e.2 rfl)
      have hfz : ∀ o : Nat, w5.frozen? ⟨p, o, none⟩ = false := fun o => HI.out.frozen (p := ⟨p, o, none⟩) (Array.getElem?_eq_some_iff.1 HB.out.blk).1 (HB.out.fz o) (fun e => HB.out.dataNe e.2 rfl)
      have d0 := hkeep HB.out.c0
      have d1 := hkeep HB.out.c1
      have d2 := hkeep HB.out.c2
      have e1 := hfz 1
      have e2 := hfz 2
      have hl0 : (0 : Int) ≤ (L.length : Int) := by omega
      have hl1 : (L.length : Int) < 500 := by have := HA0.out.2.2.2; omega
      have HM5 : Hid (MapS ((w5.setCell ⟨p, 2, none⟩ (.slice da dn dc)).setCell ⟨p, 1, none⟩ (.int .i64 ((L.length : Int) + 1))) b L) := Lib.hid (HM.out.block (by
        rw [Below.heap_setCell _ _ _ _ HBP.out, Below.heap_setCell _ _ _ _ HBP.out]
        obtain ⟨es, clock, hes⟩ := HM.out.isMap
        exact HI.out.block b (Array.getElem?_eq_some_iff.1 hes).1 (fun e3 => by
          rcases HB.out.data.2 with ⟨e4, _⟩ | ⟨g2, _, _, e4, _, hh2, _⟩
          · have := e3.2; rw [e4] at this; cases this
          · have e5 := e3.2
            rw [e4] at e5
            rw [show g2 = b from Option.some.inj e5, hes] at hh2
            cases hh2)))
      have HSUM2 : Hid (wrap64 (getN L x + n) = getN L x + n) := Lib.hid (by have := HB.out.ok.get x; have := HA0.out; unfold wrap64; omega)
      have HSUM : Hid (IntKind.i64.wrap (getN L x + n) = getN L x + n) := Lib.hid (by have := HB.out.ok.get x; have := HA0.out; rw [IntKind.wrap_i64]; omega)
      clear hkeep hfz
      go_wp2_with (first
        | (at_lookup; refine wpList_look_mapS (by rfl) _ _ (by rfl) b L (by rfl) HM5.out x (by rfl) HX.out ?_)
        | (at_mapUpdate; go_loud (refine wpList_set_mapS (by rfl) _ _ _ (by rfl) b L (by rfl) HM5.out (by have := HA0.out.2.2.2; omega) x n (by rfl) (by first | rfl | (exact congrArg (Value.int IntKind.i64) HSUM.out) | (exact congrArg (Value.int IntKind.i64) HSUM2.out)) HX.out (by have := HB.out.ok.get x; have := HA0.out; omega) ?_; intro w7 hm7 hg7; have HE7 := Lib.hid (HB.out.more HI.out HRW.out HA.out HNB.out HBP.out hm7 hg7 HM.out); clear hm7 hg7))
        | go_in)
      go_ret
      exact ⟨rfl, ⟨_, _, HE7.out.1⟩, HKP.out.trans HE7.out.2⟩
end Go.Proofs.YticifnegoacopaaGreatDoor

/-
  The reference's Fifo. (Printed by genrfifo.py.)
-/
import Derived.Test.YtgifghbnpdanhaaGreatDoorShaperPlaysPart11
import Derived.Test.YtgifghbnpdanhaaGreatDoorPlayC
import Derived.Test.YtgifghbnpdanhaaGreatDoorRegG
import Derived.Test.YtgifghbnpdanhaaGreatDoorReg
import Derived.BigGuardPart
import Derived.BigRegion
import Derived.Deep.RegionWith
import Derived.Deep.DeepCutAuto
import Derived.Deep.CutBlock
import Derived.Deep.LoopGhost
namespace Go.Proofs.YtgifghbnpdanhaaGreatDoor
open Go.RowKit Go.Extern.Stop Go.Stop Go.Extern

theorem packInfo : (Tryz.prog.info? 95).map (fun i => (i.zero, i.size, i.bytes)) = some (some Hel.zero.val, 6, 48) := by kernel_rfl
section
variable {ev : Operand → Value} {o : Oper} {w : World} {x y : Operand} {u : Value}
theorem q_loadSP {ad : Addr} {a : Option Addr} {n c : Nat} (ho : o.op = .load 44 x) (h : ev x = .pointer (some ad)) (hc : w.cell? ad = some (.slice a n c)) : (execOp ev o).run Tryz.prog w = .ok (.value (.slice a n c)) w := by
  simp [execOp, ho, h, hc, go_sem]
theorem q_loadP {p q : Nat} {z : Hel} (ho : o.op = .load 95 x) (h : ev x = .pointer (some ⟨p, q, none⟩)) (hc : HelAt w p q z) : (execOp ev o).run Tryz.prog w = .ok (.value z.val) w := by
  obtain ⟨c0, c1, c2, c3, c4, c5⟩ := hc
  simp [execOp, ho, h, c0, c1, c2, c3, c4, c5, Hel.val, go_sem]
theorem q_buildP {z : Hel} (ho : o.op = .buildSlice 44 1 #[(0, y)]) (h : ev y = z.val) : (execOp ev o).run Tryz.prog w = .ok (.value (.slice (some ⟨w.heap.size, 0, none⟩) 1 1)) (w.alloc (.cells #[.int .i64 z.t, .int .i64 z.len, .int .i64 z.flow, .int .i64 z.band, .int .i64 z.mark, .int .i64 z.n] 95)) := by
  simp [execOp, ho, h, Hel.val, go_sem]
end
def Fg.rowp (w0 : World) (v : Value) (xs : List Hel) : Fg := ⟨fun u w => RowH 95 w u xs ∧ ∀ g, u.ownBlock = some g → v.ownBlock = some g ∨ w0.heap.size ≤ g, fun _ _ _ ⟨h1, h2⟩ k => ⟨h1.gr k, h2⟩⟩
section
variable {ev : Operand → Value} {o : Oper} {w : World} {x y : Operand} {u : Value}
theorem r_fa_millraceref_Fifo_3 {p o' : Nat} (ho : o.op = .fieldAddr 46 x 3) (h : ev x = .pointer (some ⟨p, o', none⟩)) : (execOp ev o).run Tryz.prog w = .ok (.value (.pointer (some ⟨p, o' + 3, none⟩))) w := by
  simp [execOp, ho, h, go_sem]
end
section
variable {ev : Operand → Value} {o : Oper} {w : World} {x y z : Operand} {u : Value}
theorem g_fa_millraceref_Fifo_3 {p o' : Nat} (ho : o.op = .fieldAddr 46 x 3) (h : ev x = .pointer (some ⟨p, o', none⟩)) : (execOp ev o).run Tryz.prog w = .ok (.value (.pointer (some ⟨p, o' + 3, none⟩))) w := by
  simp [execOp, ho, h, go_sem]
theorem g_loadS___millraceref_Pack {ad : Addr} {a : Option Addr} {n c : Nat} (ho : o.op = .load 44 x) (h : ev x = .pointer (some ad)) (hc : w.cell? ad = some (.slice a n c)) : (execOp ev o).run Tryz.prog w = .ok (.value (.slice a n c)) w := by
  simp [execOp, ho, h, hc, go_sem]
theorem g_len___millraceref_Pack {a : Option Addr} {n c : Nat} (ho : o.op = .call { callee := .builtin .len, args := #[x], argTypes := #[44] }) (h : ev x = .slice a n c) : (execOp ev o).run Tryz.prog w = .ok (.value (.int .i64 (n : Int))) w := by
  simp [execOp, ho, h, resolve, invoke, builtin, Builtin.len_, go_sem]
theorem g_fa_millraceref_Fifo_0 {p o' : Nat} (ho : o.op = .fieldAddr 46 x 0) (h : ev x = .pointer (some ⟨p, o', none⟩)) : (execOp ev o).run Tryz.prog w = .ok (.value (.pointer (some ⟨p, o', none⟩))) w := by
  simp [execOp, ho, h, go_sem]
theorem g_gtr {m n : Int} {b : Bool} (ho : o.op = .binOp .gtr 3 x y 3) (h : ev x = .int .i64 m) (k : ev y = .int .i64 n) (hb : decide (n < m) = b) : (execOp ev o).run Tryz.prog w = .ok (.value (.bool b)) w := by
  subst hb
  simp [execOp, ho, h, k, go_sem]
theorem g_call_millrace_millraceref_Bytes {x0 : Operand} {v0 : Value} (ho : o.op = .call { callee := .value (.func 27), args := #[x0], argTypes := #[44] }) (hf : ev (.func 27) = .func (.func 27) #[] #[]) (h0 : ev x0 = v0) : (execOp ev o).run Tryz.prog w = .ok (.enter 27 #[v0]) w := by
  simp [execOp, ho, hf, h0, resolve, invoke, go_sem]
theorem g_fa_millraceref_Fifo_1 {p o' : Nat} (ho : o.op = .fieldAddr 46 x 1) (h : ev x = .pointer (some ⟨p, o', none⟩)) : (execOp ev o).run Tryz.prog w = .ok (.value (.pointer (some ⟨p, o' + 1, none⟩))) w := by
  simp [execOp, ho, h, go_sem]
theorem g_add {m n r : Int} (ho : o.op = .binOp .add 3 x y 3) (h : ev x = .int .i64 m) (k : ev y = .int .i64 n) (hb : IntKind.i64.wrap (m + n) = r) : (execOp ev o).run Tryz.prog w = .ok (.value (.int .i64 r)) w := by
  subst hb
  simp [execOp, ho, h, k, go_sem]
theorem g_fa_millraceref_Pack_0 {p o' : Nat} (ho : o.op = .fieldAddr 95 x 0) (h : ev x = .pointer (some ⟨p, o', none⟩)) : (execOp ev o).run Tryz.prog w = .ok (.value (.pointer (some ⟨p, o', none⟩))) w := by
  simp [execOp, ho, h, go_sem]
theorem g_fa_api_Item_1 {p o' : Nat} (ho : o.op = .fieldAddr 90 x 1) (h : ev x = .pointer (some ⟨p, o', none⟩)) : (execOp ev o).run Tryz.prog w = .ok (.value (.pointer (some ⟨p, o' + 1, none⟩))) w := by
  simp [execOp, ho, h, go_sem]
end

/-- append of a row's tail to nothing. -/
theorem wpList_append_tail {P : Program} {E : TypeId} {w : World} {ops : Array Oper} {rest : List Oper} {o : Oper} {a : Act} {Q : Exit → Act → World → Prop} (hgd : o.guard = none) (s x : Operand) (t : TypeId)
    (ho : o.op = .call { callee := .builtin .append, args := #[s, x], argTypes := #[t, t] }) (i : TypeInfo) (z : Value) (ht : P.underlying t = some (.slice E)) (hi : P.info? E = some i) (hz : i.zero = some z) (hsize : i.size = 6) (hby : i.bytes = 48) (hzs : z.cells.size = 6) (hKz : ∀ u ∈ z.cells.toList, isInt u)
    (g off : Nat) (hs : a.eval s = .slice (some ⟨g, off, none⟩) 0 0) (h : RowH E w (.slice (some ⟨g, off, none⟩) 0 0) []) (ad : Addr) (c : Nat) (ys : List Hel) (hx : a.eval x = .slice (some ad) ys.length c) (hnews : ∀ j u, (flat ys)[j]? = some u → w.cell? (ad.add j) = some u) (hn : ys.length ≤ 999990)
    (hK : ∀ v' w', RowH E w' v' ys → w.grownBy w' (some g) → (∀ k, v'.ownBlock = some k → some g = some k ∨ w.heap.size ≤ k) → wpList P ops Q rest (a.put o.dst v') w') : wpList P ops Q (o :: rest) a w := by
  cases ys with
  | nil => exact wpList_append_row0 hgd s x t ho i ht hi g off 0 0 hs (Nat.le_refl _) ad c hx (hK _ _ h ⟨rfl, rfl, rfl, Nat.le_refl _, fun _ _ _ => rfl⟩ (fun k hk => .inl hk))
  | cons y ys => exact wpList_append_rowH hgd s x t ho i z ht hi hz hsize hby hzs hKz hs h ad c (y :: ys) hx (by simp) hnews (by simp at hn ⊢; omega) (fun v' w' h1 h2 h3 _ => hK v' w' (by simpa using h1) h2 h3)
/-- A slice of packets in a cell. -/
structure RLst (w : World) (p o : Nat) (v : Value) (xs : List Hel) : Prop where
  c : w.cell? ⟨p, o, none⟩ = some v
  f : w.frozen? ⟨p, o, none⟩ = false
  row : RowH 95 w v xs
/-- All but that cell and the row are as they were. -/
structure CSav (p o : Nat) (v : Value) (w w' : World) : Prop where
  sav : Sav (LFoot p v) w w'
  cell : ∀ i, i ≠ o → w'.cell? ⟨p, i, none⟩ = w.cell? ⟨p, i, none⟩
  frozen : ∀ i, w'.frozen? ⟨p, i, none⟩ = w.frozen? ⟨p, i, none⟩
section
variable {p o : Nat} {v v' : Value} {w w' w'' : World} {xs ys : List Hel} {B : Nat → Prop}
theorem RLst.shape (h : RLst w p o v xs) : ∃ a cap, v = .slice a xs.length cap := h.row.shape
theorem RLst.ne (h : RLst w p o v xs) : ¬ v.ownBlock = some p := by
  obtain ⟨a, c, rfl⟩ := h.shape
  exact h.row.ne h.c notInt_slice
theorem RLst.lt (h : RLst w p o v xs) : p < w.heap.size := cell_lt h.c
theorem RLst.sav (h : RLst w p o v xs) (k : Sav B w w') (hp : ¬ B p) (hv : ∀ g, v.ownBlock = some g → ¬ B g) : RLst w' p o v xs := ⟨k.cell h.c hp, k.frozen (p := ⟨p, o, none⟩) h.lt h.f hp, h.row.sav k hv⟩
theorem RLst.gr (h : RLst w p o v xs) (k : Gr w w') : RLst w' p o v xs := h.sav (B := fun _ => False) (.of_gr k) id (fun _ _ => id)
theorem CSav.of_gr (h : Gr w w') (hp : p < w.heap.size) : CSav p o v w w' := ⟨.of_gr h, fun i _ => h.cells p i hp, fun i => h.frozen (p := ⟨p, i, none⟩) hp⟩
theorem CSav.trans {a b c : World} (h : CSav p o v a b) (k : CSav p o v' b c) (hv : ∀ g, v'.ownBlock = some g → v.ownBlock = some g ∨ a.heap.size ≤ g) : CSav p o v a c :=
  ⟨h.sav.trans k.sav (fun q hq => hq.elim (fun e => .inl (.inl e)) (fun e => (hv q e).imp .inr id)), fun i hi => (k.cell i hi).trans (h.cell i hi), fun i => (k.frozen i).trans (h.frozen i)⟩
theorem CSav.more {a b c : World} (h : CSav p o v a b) (k : Sav B b c) (hB : ∀ q, B q → a.heap.size ≤ q) (hp : p < a.heap.size) : CSav p o v a c :=
  have hn : ¬ B p := fun e => by have := hB p e; omega
  have hl : p < b.heap.size := Nat.lt_of_lt_of_le hp h.sav.size
  ⟨h.sav.trans k (fun q hq => .inr (hB q hq)), fun i hi => by
    rw [← h.cell i hi]
    exact World.cell?_of_block (a := ⟨p, i, none⟩) (k.block p hl hn), fun i => by
    rw [← h.frozen i]
    exact World.frozen?_of_block (a := ⟨p, i, none⟩) (k.block p hl hn)⟩
end
/-- What is left of a slice of packets that was written. -/
structure RDid (w w' : World) (p o : Nat) (v v' : Value) (xs' : List Hel) : Prop where
  l : RLst w' p o v' xs'
  sav : CSav p o v w w'
  own : ∀ g, v'.ownBlock = some g → v.ownBlock = some g ∨ w.heap.size ≤ g
theorem RDid.gr {w w' w'' : World} {p o : Nat} {v v' : Value} {xs : List Hel} (h : RDid w w' p o v v' xs) (hp : p < w.heap.size) (g : Gr w' w'') : RDid w w'' p o v v' xs :=
  ⟨h.l.gr g, h.sav.more (B := fun _ => False) (.of_gr g) (fun _ h => h.elim) hp, h.own⟩
theorem RDid.of_gr {w w' : World} {p o : Nat} {v : Value} {xs : List Hel} (h : RLst w p o v xs) (g : Gr w w') : RDid w w' p o v v xs := ⟨h.gr g, .of_gr g h.lt, fun _ => .inl⟩
theorem RDid.then {a b c : World} {p o : Nat} {v v' v'' : Value} {xs ys : List Hel} (h : RDid a b p o v v' xs) (k : RDid b c p o v' v'' ys) : RDid a c p o v v'' ys :=
  ⟨k.l, h.sav.trans k.sav h.own, fun g hg => (k.own g hg).elim (h.own g) (fun h1 => .inr (Nat.le_trans h.sav.sav.size h1))⟩
theorem RDid.ahead {a b c : World} {p o : Nat} {v v' : Value} {xs : List Hel} (g : Gr a b) (hp : p < a.heap.size) (h : RDid b c p o v v' xs) : RDid a c p o v v' xs :=
  ⟨h.l, (CSav.of_gr g hp).trans h.sav (fun _ => .inl), fun k hk => (h.own k hk).imp id (Nat.le_trans g.size)⟩
theorem RDid.more {a b c : World} {p o : Nat} {v v' : Value} {xs : List Hel} {B : Nat → Prop} (h : RDid a b p o v v' xs) (k : Sav B b c) (hB : ∀ q, B q → a.heap.size ≤ q ∧ v'.ownBlock ≠ some q) (hp : p < a.heap.size) : RDid a c p o v v' xs :=
  ⟨h.l.sav k (fun e => by have := (hB p e).1; omega) (fun g hg e => (hB g e).2 hg), h.sav.more k (fun q e => (hB q e).1) hp, h.own⟩
/-- The row is written, then the cell. -/
theorem RDid.app {w0 w2 : World} {p o : Nat} {v v' : Value} {ys : List Hel} (hc : w0.cell? ⟨p, o, none⟩ = some v) (hf : w0.frozen? ⟨p, o, none⟩ = false) (hs : Sav (fun q => v.ownBlock = some q) w0 w2) (hr : RowH 95 w2 v' ys) (ho : ∀ g, v'.ownBlock = some g → v.ownBlock = some g ∨ w0.heap.size ≤ g) (hne : ¬ v.ownBlock = some p) (hp : p < w0.heap.size) :
    RDid w0 (w2.setCell ⟨p, o, none⟩ v') p o v v' ys := by
  have hne2 : ∀ g, v'.ownBlock = some g → ¬ g = p := fun g hg e => (ho g hg).elim (fun h1 => hne (by rw [← e]; exact h1)) (fun h1 => by omega)
  have hsv : Sav (fun q => q = p) w2 (w2.setCell ⟨p, o, none⟩ v') := .set p o v'
  have d := hs.cell hc hne
  have d1 := hs.frozen (p := ⟨p, o, none⟩) hp hf hne
  refine ⟨⟨World.cell?_setCell_same _ _ _ d, by simpa using d1, hr.sav hsv hne2⟩, ⟨(hs.mono fun q hq => .inr hq).then (hsv.mono fun q hq => .inl hq), fun i hi => ?_, fun i => ?_⟩, ho⟩
  · rw [World.cell?_setCell_other _ _ _ _ (by intro e; injection e with _ e2; exact hi e2.symm)]
    exact World.cell?_of_block (a := ⟨p, i, none⟩) (hs.block p hp hne)
  · rw [show (w2.setCell ⟨p, o, none⟩ v').frozen? ⟨p, i, none⟩ = w2.frozen? ⟨p, i, none⟩ from by simp]
    exact World.frozen?_of_block (a := ⟨p, i, none⟩) (hs.block p hp hne)
/-- A Fifo of the reference's at p. -/
structure RFifoAt (w : World) (p : Nat) (v : Value) (l : List Hel) (P R : Int) (head : Bool) : Prop where
  c0 : w.cell? ⟨p, 0, none⟩ = some (.int .i64 P)
  c1 : w.cell? ⟨p, 1, none⟩ = some (.int .i64 R)
  c2 : w.cell? ⟨p, 2, none⟩ = some (.bool head)
  l : RLst w p 3 v l
section
variable {w w' : World} {p : Nat} {v v' : Value} {l l' : List Hel} {P R : Int} {head : Bool} {B : Nat → Prop}
theorem RFifoAt.gr (h : RFifoAt w p v l P R head) (g : Gr w w') : RFifoAt w' p v l P R head := ⟨g.cell h.c0, g.cell h.c1, g.cell h.c2, h.l.gr g⟩
theorem RFifoAt.sav (h : RFifoAt w p v l P R head) (k : Sav B w w') (hp : ¬ B p) (hv : ∀ g, v.ownBlock = some g → ¬ B g) : RFifoAt w' p v l P R head := ⟨k.cell h.c0 hp, k.cell h.c1 hp, k.cell h.c2 hp, h.l.sav k hp hv⟩
theorem RFifoAt.then (h : RFifoAt w p v l P R head) (d : RDid w w' p 3 v v' l') : RFifoAt w' p v' l' P R head :=
  ⟨(d.sav.cell 0 (by decide)).trans h.c0, (d.sav.cell 1 (by decide)).trans h.c1, (d.sav.cell 2 (by decide)).trans h.c2, d.l⟩
end
set_option maxRecDepth 100000 in
set_option maxHeartbeats 40000000 in
theorem rfput_any (p : Nat) (v : Value) (xs : List Hel) (P R : Int) (head : Bool) (now : Int) (x : Hel) (w : World) (h : RFifoAt w p v xs P R head) (hP : 0 ≤ P ∧ P ≤ 1000000) (hR : 0 ≤ R ∧ R ≤ 1000000) (hn : xs.length ≤ 900) (hl : Lens xs) (hx : 0 ≤ x.len ∧ x.len ≤ 10000) :
    Calls Tryz.prog 141 #[.pointer (some ⟨p, 0, none⟩), .int .i64 now, x.val] w fun e w' => ∃ r v', e = .returned r ∧ RowH 95 w' r ((fifo P R head).put xs now x).2 ∧ RDid w w' p 3 v v' ((fifo P R head).put xs now x).1 := by
  have HP := Lib.hid hP
  have HR := Lib.hid hR
  have HNL := Lib.hid hn
  have HLL := Lib.hid hl
  have HXX := Lib.hid hx
  have HSM := Lib.hid (hl.sum (by omega))
  obtain ⟨ba, cap, rfl⟩ := h.l.shape
  have HF := Lib.hid h
  have HPL := Lib.hid h.l.lt
  clear h hP hR hn hl hx
  unfold Hel.val
  go_enter Tryz.func141, Tryz.ntmps141
  go_upto_region 1 with fail
  obtain ⟨w0, hw0⟩ : ∃ w0, w0 = w.alloc (.cells #[.int .i64 x.t, .int .i64 x.len, .int .i64 x.flow, .int .i64 x.band, .int .i64 x.mark, .int .i64 x.n] 95) := ⟨_, rfl⟩
  obtain ⟨xb, hxb⟩ : ∃ xb, xb = w.heap.size := ⟨_, rfl⟩
  have HX0 : Hid (HelAt w0 xb 0 x ∧ xb = w.heap.size) := Lib.hid (by rw [hw0]; exact ⟨held_new w x hxb, hxb⟩)
  have HF0 : Hid (RFifoAt w0 p (.slice ba xs.length cap) xs P R head) := Lib.hid (by rw [hw0]; exact HF.out.gr ((Gr.refl _).alloc _))
  have HG0 : Hid (Gr w w0) := Lib.hid (by rw [hw0]; exact (Gr.refl _).alloc _)
  have HXB := Lib.hid (show xb = w.heap.size from hxb)
  have HLT1 := Lib.hid (fun g (hg : (Value.slice ba xs.length cap).ownBlock = some g) => (show g < w.heap.size from HF.out.l.row.lt hg))
  rw [← hw0, ← hxb]
  clear hw0 hxb HF
  have c2 := HF0.out.c2
  cases head with
  | false =>
    go_upto_region 8 with fail
    have CN := Lib.hid (show IntKind.i64.wrap ((xs.length : Int) + 1) = (xs.length : Int) + 1 from by have := HNL.out; rw [IntKind.wrap_i64]; omega)
    have CA := Lib.hid (show IntKind.i64.wrap (sumLen xs + x.len) = sumLen xs + x.len from by have := HSM.out; have := HXX.out; rw [IntKind.wrap_i64]; omega)
    go_cut [90] (fun s90 wx => s90 = .bool (decide (Full P R (xs ++ [x]))) ∧ Gr w0 wx)
    case first =>
      by_cases c1 : P < (xs.length : Int) + 1
      · have C1 := Lib.hid (decide_eq_true c1)
        have C2 : Hid True := trivial
        have HB := Lib.hid (decide_eq_true (show Full P R (xs ++ [x]) from .inl (by first | exact c1 | (simp; omega))))
        clear c1
        refine wp_region_gg (n := 26) [Fg.eq (.pointer (some ⟨p, 0, none⟩)), Fg.eq (.pointer (some ⟨p, 0, none⟩)), Fg.eq (.pointer (some ⟨p, 3, none⟩)), Fg.eq (.slice ba xs.length cap), Fg.eq (.int .i64 (xs.length : Int)), Fg.eq (.int .i64 ((xs.length : Int) + 1)), Fg.eq (.pointer (some ⟨p, 0, none⟩)), Fg.eq (.pointer (some ⟨p, 0, none⟩)), Fg.eq (.pointer (some ⟨p, 0, none⟩)), Fg.eq (.int .i64 P), Fg.eq (.bool true), Fg.eq (.bool true), Fg.eq undef, Fg.eq undef, Fg.eq undef, Fg.eq undef, Fg.eq undef, Fg.eq undef, Fg.eq undef, Fg.eq undef, Fg.eq undef, Fg.eq undef, Fg.eq undef, Fg.eq undef, Fg.eq undef, Fg.eq undef] [64, 65, 66, 67, 68, 69, 70, 71, 72, 73, 74, 75, 76, 77, 78, 79, 80, 81, 82, 83, 84, 85, 86, 87, 88, 89] (by kernel_rfl) (by kernel_rfl) (by kernel_rfl) ?_ ?_
        · intro L i o' a w1 hi ho hA
          have hgr : Gr w0 w1 := (Gr.refl w0).drew.trans hA.gr
          match i, hi with
          | 0, _ =>
            obtain rfl := Option.some.inj ho
            exact gg_plain rfl (gstep_val (q_move rfl (show a.eval (.tmp 0) = .pointer (some ⟨p, 0, none⟩) from hA.other 0 (by decide))) rfl)
          | 1, _ =>
            obtain rfl := Option.some.inj ho
            exact gg_plain rfl (gstep_val (q_nil rfl (hA.fact 0 (hA.dep 0 (by kernel_rfl) (by decide)))) rfl)
          | 2, _ =>
            obtain rfl := Option.some.inj ho
            exact gg_plain rfl (gstep_val (g_fa_millraceref_Fifo_3 rfl (hA.fact 1 (hA.dep 1 (by kernel_rfl) (by decide)))) rfl)
          | 3, _ =>
            obtain rfl := Option.some.inj ho
            exact gg_plain rfl (gstep_val (g_loadS___millraceref_Pack rfl (hA.fact 2 (hA.dep 2 (by kernel_rfl) (by decide))) (hgr.cell HF0.out.l.c)) rfl)
          | 4, _ =>
            obtain rfl := Option.some.inj ho
            exact gg_plain rfl (gstep_val (g_len___millraceref_Pack rfl (hA.fact 3 (hA.dep 3 (by kernel_rfl) (by decide)))) rfl)
          | 5, _ =>
            obtain rfl := Option.some.inj ho
            exact gg_plain rfl (gstep_val (g_add rfl (hA.fact 4 (hA.dep 4 (by kernel_rfl) (by decide))) rfl (CN.out)) rfl)
          | 6, _ =>
            obtain rfl := Option.some.inj ho
            exact gg_plain rfl (gstep_val (q_move rfl (show a.eval (.tmp 0) = .pointer (some ⟨p, 0, none⟩) from hA.other 0 (by decide))) rfl)
          | 7, _ =>
            obtain rfl := Option.some.inj ho
            exact gg_plain rfl (gstep_val (q_nil rfl (hA.fact 6 (hA.dep 6 (by kernel_rfl) (by decide)))) rfl)
          | 8, _ =>
            obtain rfl := Option.some.inj ho
            exact gg_plain rfl (gstep_val (g_fa_millraceref_Fifo_0 rfl (hA.fact 7 (hA.dep 7 (by kernel_rfl) (by decide)))) rfl)
          | 9, _ =>
            obtain rfl := Option.some.inj ho
            exact gg_plain rfl (gstep_val (q_loadI rfl (hA.fact 8 (hA.dep 8 (by kernel_rfl) (by decide))) (hgr.cell HF0.out.c0)) rfl)
          | 10, _ =>
            obtain rfl := Option.some.inj ho
            exact gg_plain rfl (gstep_val (g_gtr rfl (hA.fact 5 (hA.dep 5 (by kernel_rfl) (by decide))) (hA.fact 9 (hA.dep 9 (by kernel_rfl) (by decide))) (C1.out)) rfl)
          | 11, _ =>
            obtain rfl := Option.some.inj ho
            exact gg_plain rfl (gstep_val (q_move rfl (hA.fact 10 (hA.dep 10 (by kernel_rfl) (by decide)))) rfl)
          | 12, _ =>
            obtain rfl := Option.some.inj ho
            exact gg_no (b := false) rfl (hA.fact 11 (hA.dep 11 (by kernel_rfl) (by decide))) rfl
          | 13, _ =>
            obtain rfl := Option.some.inj ho
            exact gg_no (b := false) rfl (hA.fact 11 (hA.dep 11 (by kernel_rfl) (by decide))) rfl
          | 14, _ =>
            obtain rfl := Option.some.inj ho
            exact gg_no (b := false) rfl (hA.fact 11 (hA.dep 11 (by kernel_rfl) (by decide))) rfl
          | 15, _ =>
            obtain rfl := Option.some.inj ho
            exact gg_no (b := false) rfl (hA.fact 11 (hA.dep 11 (by kernel_rfl) (by decide))) rfl
          | 16, _ =>
            obtain rfl := Option.some.inj ho
            exact gg_no (b := false) rfl (hA.fact 11 (hA.dep 11 (by kernel_rfl) (by decide))) rfl
          | 17, _ =>
            obtain rfl := Option.some.inj ho
            exact gg_no (b := false) rfl (hA.fact 11 (hA.dep 11 (by kernel_rfl) (by decide))) rfl
          | 18, _ =>
            obtain rfl := Option.some.inj ho
            exact gg_no (b := false) rfl (hA.fact 11 (hA.dep 11 (by kernel_rfl) (by decide))) rfl
          | 19, _ =>
            obtain rfl := Option.some.inj ho
            exact gg_no (b := false) rfl (hA.fact 11 (hA.dep 11 (by kernel_rfl) (by decide))) rfl
          | 20, _ =>
            obtain rfl := Option.some.inj ho
            exact gg_no (b := false) rfl (hA.fact 11 (hA.dep 11 (by kernel_rfl) (by decide))) rfl
          | 21, _ =>
            obtain rfl := Option.some.inj ho
            exact gg_no (b := false) rfl (hA.fact 11 (hA.dep 11 (by kernel_rfl) (by decide))) rfl
          | 22, _ =>
            obtain rfl := Option.some.inj ho
            exact gg_no (b := false) rfl (hA.fact 11 (hA.dep 11 (by kernel_rfl) (by decide))) rfl
          | 23, _ =>
            obtain rfl := Option.some.inj ho
            exact gg_no (b := false) rfl (hA.fact 11 (hA.dep 11 (by kernel_rfl) (by decide))) rfl
          | 24, _ =>
            obtain rfl := Option.some.inj ho
            exact gg_no (b := false) rfl (hA.fact 11 (hA.dep 11 (by kernel_rfl) (by decide))) rfl
          | 25, _ =>
            obtain rfl := Option.some.inj ho
            exact gg_no (b := false) rfl (hA.fact 11 (hA.dep 11 (by kernel_rfl) (by decide))) rfl
          | k + 26, hk => exact absurd (show k + 26 < 26 from hk) (by omega)
        · intro vs w5 hg5 hv
          have HGX := Lib.hid ((Gr.refl w0).drew.trans hg5)
          have v75 : vs 11 = .bool true := hv 11 (by omega)
          have v89 : vs 25 = undef := hv 25 (by omega)
          clear hv hg5
          simp only [putN, List.drop_succ_cons, List.drop_zero, List.getElem?_cons_succ, List.getElem?_cons_zero]
          generalize vs 11 = z75 at *
          subst v75
          generalize vs 25 = z89 at *
          subst v89
          generalize vs 0 = z64 at *
          generalize vs 1 = z65 at *
          generalize vs 2 = z66 at *
          generalize vs 3 = z67 at *
          generalize vs 4 = z68 at *
          generalize vs 5 = z69 at *
          generalize vs 6 = z70 at *
          generalize vs 7 = z71 at *
          generalize vs 8 = z72 at *
          generalize vs 9 = z73 at *
          generalize vs 10 = z74 at *
          generalize vs 12 = z76 at *
          generalize vs 13 = z77 at *
          generalize vs 14 = z78 at *
          generalize vs 15 = z79 at *
          generalize vs 16 = z80 at *
          generalize vs 17 = z81 at *
          generalize vs 18 = z82 at *
          generalize vs 19 = z83 at *
          generalize vs 20 = z84 at *
          generalize vs 21 = z85 at *
          generalize vs 22 = z86 at *
          generalize vs 23 = z87 at *
          generalize vs 24 = z88 at *
          go_wp2
          go_meet
          exact ⟨by simp [HB.out], HGX.out⟩
      · have C1 := Lib.hid (decide_eq_false c1)
        by_cases c2 : R < sumLen xs + x.len
        · have C2 := Lib.hid (decide_eq_true c2)
          have HB := Lib.hid (decide_eq_true (show Full P R (xs ++ [x]) from .inr (by first | exact c2 | (rw [sumLen_one]; exact c2))))
          clear c1 c2
          refine wp_region_gg (n := 26) [Fg.eq (.pointer (some ⟨p, 0, none⟩)), Fg.eq (.pointer (some ⟨p, 0, none⟩)), Fg.eq (.pointer (some ⟨p, 3, none⟩)), Fg.eq (.slice ba xs.length cap), Fg.eq (.int .i64 (xs.length : Int)), Fg.eq (.int .i64 ((xs.length : Int) + 1)), Fg.eq (.pointer (some ⟨p, 0, none⟩)), Fg.eq (.pointer (some ⟨p, 0, none⟩)), Fg.eq (.pointer (some ⟨p, 0, none⟩)), Fg.eq (.int .i64 P), Fg.eq (.bool false), Fg.eq (.bool false), Fg.eq (.pointer (some ⟨p, 0, none⟩)), Fg.eq (.pointer (some ⟨p, 0, none⟩)), Fg.eq (.pointer (some ⟨p, 3, none⟩)), Fg.eq (.slice ba xs.length cap), Fg.eq ((.int .i64 (sumLen xs))), Fg.eq (.pointer (some ⟨xb, 0, none⟩)), Fg.eq (.pointer (some ⟨xb, 1, none⟩)), Fg.eq (.int .i64 x.len), Fg.eq (.int .i64 (sumLen xs + x.len)), Fg.eq (.pointer (some ⟨p, 0, none⟩)), Fg.eq (.pointer (some ⟨p, 0, none⟩)), Fg.eq (.pointer (some ⟨p, 1, none⟩)), Fg.eq (.int .i64 R), Fg.eq (.bool true)] [64, 65, 66, 67, 68, 69, 70, 71, 72, 73, 74, 75, 76, 77, 78, 79, 80, 81, 82, 83, 84, 85, 86, 87, 88, 89] (by kernel_rfl) (by kernel_rfl) (by kernel_rfl) ?_ ?_
          · intro L i o' a w1 hi ho hA
            have hgr : Gr w0 w1 := (Gr.refl w0).drew.trans hA.gr
            match i, hi with
            | 0, _ =>
              obtain rfl := Option.some.inj ho
              exact gg_plain rfl (gstep_val (q_move rfl (show a.eval (.tmp 0) = .pointer (some ⟨p, 0, none⟩) from hA.other 0 (by decide))) rfl)
            | 1, _ =>
              obtain rfl := Option.some.inj ho
              exact gg_plain rfl (gstep_val (q_nil rfl (hA.fact 0 (hA.dep 0 (by kernel_rfl) (by decide)))) rfl)
            | 2, _ =>
              obtain rfl := Option.some.inj ho
              exact gg_plain rfl (gstep_val (g_fa_millraceref_Fifo_3 rfl (hA.fact 1 (hA.dep 1 (by kernel_rfl) (by decide)))) rfl)
            | 3, _ =>
              obtain rfl := Option.some.inj ho
              exact gg_plain rfl (gstep_val (g_loadS___millraceref_Pack rfl (hA.fact 2 (hA.dep 2 (by kernel_rfl) (by decide))) (hgr.cell HF0.out.l.c)) rfl)
            | 4, _ =>
              obtain rfl := Option.some.inj ho
              exact gg_plain rfl (gstep_val (g_len___millraceref_Pack rfl (hA.fact 3 (hA.dep 3 (by kernel_rfl) (by decide)))) rfl)
            | 5, _ =>
              obtain rfl := Option.some.inj ho
              exact gg_plain rfl (gstep_val (g_add rfl (hA.fact 4 (hA.dep 4 (by kernel_rfl) (by decide))) rfl (CN.out)) rfl)
            | 6, _ =>
              obtain rfl := Option.some.inj ho
              exact gg_plain rfl (gstep_val (q_move rfl (show a.eval (.tmp 0) = .pointer (some ⟨p, 0, none⟩) from hA.other 0 (by decide))) rfl)
            | 7, _ =>
              obtain rfl := Option.some.inj ho
              exact gg_plain rfl (gstep_val (q_nil rfl (hA.fact 6 (hA.dep 6 (by kernel_rfl) (by decide)))) rfl)
            | 8, _ =>
              obtain rfl := Option.some.inj ho
              exact gg_plain rfl (gstep_val (g_fa_millraceref_Fifo_0 rfl (hA.fact 7 (hA.dep 7 (by kernel_rfl) (by decide)))) rfl)
            | 9, _ =>
              obtain rfl := Option.some.inj ho
              exact gg_plain rfl (gstep_val (q_loadI rfl (hA.fact 8 (hA.dep 8 (by kernel_rfl) (by decide))) (hgr.cell HF0.out.c0)) rfl)
            | 10, _ =>
              obtain rfl := Option.some.inj ho
              exact gg_plain rfl (gstep_val (g_gtr rfl (hA.fact 5 (hA.dep 5 (by kernel_rfl) (by decide))) (hA.fact 9 (hA.dep 9 (by kernel_rfl) (by decide))) (C1.out)) rfl)
            | 11, _ =>
              obtain rfl := Option.some.inj ho
              exact gg_plain rfl (gstep_val (q_move rfl (hA.fact 10 (hA.dep 10 (by kernel_rfl) (by decide)))) rfl)
            | 12, _ =>
              obtain rfl := Option.some.inj ho
              exact gg_yes (b := false) rfl (hA.fact 11 (hA.dep 11 (by kernel_rfl) (by decide))) (gstep_val (q_move rfl (show a.eval (.tmp 0) = .pointer (some ⟨p, 0, none⟩) from hA.other 0 (by decide))) rfl)
            | 13, _ =>
              obtain rfl := Option.some.inj ho
              exact gg_yes (b := false) rfl (hA.fact 11 (hA.dep 11 (by kernel_rfl) (by decide))) (gstep_val (q_nil rfl (hA.fact 12 (hA.dep 12 (by kernel_rfl) (by decide)))) rfl)
            | 14, _ =>
              obtain rfl := Option.some.inj ho
              exact gg_yes (b := false) rfl (hA.fact 11 (hA.dep 11 (by kernel_rfl) (by decide))) (gstep_val (g_fa_millraceref_Fifo_3 rfl (hA.fact 13 (hA.dep 13 (by kernel_rfl) (by decide)))) rfl)
            | 15, _ =>
              obtain rfl := Option.some.inj ho
              exact gg_yes (b := false) rfl (hA.fact 11 (hA.dep 11 (by kernel_rfl) (by decide))) (gstep_val (g_loadS___millraceref_Pack rfl (hA.fact 14 (hA.dep 14 (by kernel_rfl) (by decide))) (hgr.cell HF0.out.l.c)) rfl)
            | 16, _ =>
              obtain rfl := Option.some.inj ho
              exact gg_yes (b := false) rfl (hA.fact 11 (hA.dep 11 (by kernel_rfl) (by decide))) (gstep_call (g_call_millrace_millraceref_Bytes rfl rfl (hA.fact 15 (hA.dep 15 (by kernel_rfl) (by decide)))) ((rbytes_any _ xs w1 (HF0.out.l.row.gr hgr) (by have := HNL.out; omega) HLL.out).mono (fun e w' ⟨h1, h2⟩ => ⟨_, h1, h2, rfl⟩)))
            | 17, _ =>
              obtain rfl := Option.some.inj ho
              exact gg_yes (b := false) rfl (hA.fact 11 (hA.dep 11 (by kernel_rfl) (by decide))) (gstep_val (g_fa_millraceref_Pack_0 rfl (show a.eval (.tmp 5) = .pointer (some ⟨xb, 0, none⟩) from hA.other 5 (by decide))) rfl)
            | 18, _ =>
              obtain rfl := Option.some.inj ho
              exact gg_yes (b := false) rfl (hA.fact 11 (hA.dep 11 (by kernel_rfl) (by decide))) (gstep_val (g_fa_api_Item_1 rfl (hA.fact 17 (hA.dep 17 (by kernel_rfl) (by decide)))) rfl)
            | 19, _ =>
              obtain rfl := Option.some.inj ho
              exact gg_yes (b := false) rfl (hA.fact 11 (hA.dep 11 (by kernel_rfl) (by decide))) (gstep_val (q_loadI rfl (hA.fact 18 (hA.dep 18 (by kernel_rfl) (by decide))) (hgr.cell HX0.out.1.c1)) rfl)
            | 20, _ =>
              obtain rfl := Option.some.inj ho
              exact gg_yes (b := false) rfl (hA.fact 11 (hA.dep 11 (by kernel_rfl) (by decide))) (gstep_val (g_add rfl (hA.fact 16 (hA.dep 16 (by kernel_rfl) (by decide))) (hA.fact 19 (hA.dep 19 (by kernel_rfl) (by decide))) (CA.out)) rfl)
            | 21, _ =>
              obtain rfl := Option.some.inj ho
              exact gg_yes (b := false) rfl (hA.fact 11 (hA.dep 11 (by kernel_rfl) (by decide))) (gstep_val (q_move rfl (show a.eval (.tmp 0) = .pointer (some ⟨p, 0, none⟩) from hA.other 0 (by decide))) rfl)
            | 22, _ =>
              obtain rfl := Option.some.inj ho
              exact gg_yes (b := false) rfl (hA.fact 11 (hA.dep 11 (by kernel_rfl) (by decide))) (gstep_val (q_nil rfl (hA.fact 21 (hA.dep 21 (by kernel_rfl) (by decide)))) rfl)
            | 23, _ =>
              obtain rfl := Option.some.inj ho
              exact gg_yes (b := false) rfl (hA.fact 11 (hA.dep 11 (by kernel_rfl) (by decide))) (gstep_val (g_fa_millraceref_Fifo_1 rfl (hA.fact 22 (hA.dep 22 (by kernel_rfl) (by decide)))) rfl)
            | 24, _ =>
              obtain rfl := Option.some.inj ho
              exact gg_yes (b := false) rfl (hA.fact 11 (hA.dep 11 (by kernel_rfl) (by decide))) (gstep_val (q_loadI rfl (hA.fact 23 (hA.dep 23 (by kernel_rfl) (by decide))) (hgr.cell HF0.out.c1)) rfl)
            | 25, _ =>
              obtain rfl := Option.some.inj ho
              exact gg_yes (b := false) rfl (hA.fact 11 (hA.dep 11 (by kernel_rfl) (by decide))) (gstep_val (g_gtr rfl (hA.fact 20 (hA.dep 20 (by kernel_rfl) (by decide))) (hA.fact 24 (hA.dep 24 (by kernel_rfl) (by decide))) (C2.out)) rfl)
            | k + 26, hk => exact absurd (show k + 26 < 26 from hk) (by omega)
          · intro vs w5 hg5 hv
            have HGX := Lib.hid ((Gr.refl w0).drew.trans hg5)
            have v75 : vs 11 = .bool false := hv 11 (by omega)
            have v89 : vs 25 = .bool true := hv 25 (by omega)
            clear hv hg5
            simp only [putN, List.drop_succ_cons, List.drop_zero, List.getElem?_cons_succ, List.getElem?_cons_zero]
            generalize vs 11 = z75 at *
            subst v75
            generalize vs 25 = z89 at *
            subst v89
            generalize vs 0 = z64 at *
            generalize vs 1 = z65 at *
            generalize vs 2 = z66 at *
            generalize vs 3 = z67 at *
            generalize vs 4 = z68 at *
            generalize vs 5 = z69 at *
            generalize vs 6 = z70 at *
            generalize vs 7 = z71 at *
            generalize vs 8 = z72 at *
            generalize vs 9 = z73 at *
            generalize vs 10 = z74 at *
            generalize vs 12 = z76 at *
            generalize vs 13 = z77 at *
            generalize vs 14 = z78 at *
            generalize vs 15 = z79 at *
            generalize vs 16 = z80 at *
            generalize vs 17 = z81 at *
            generalize vs 18 = z82 at *
            generalize vs 19 = z83 at *
            generalize vs 20 = z84 at *
            generalize vs 21 = z85 at *
            generalize vs 22 = z86 at *
            generalize vs 23 = z87 at *
            generalize vs 24 = z88 at *
            go_wp2
            go_meet
            exact ⟨by simp [HB.out], HGX.out⟩
        · have C2 := Lib.hid (decide_eq_false c2)
          have HB := Lib.hid (decide_eq_false (show ¬ Full P R (xs ++ [x]) from fun h => h.elim (fun h => c1 (by first | exact h | (simp at h; omega))) (fun h => c2 (by first | exact h | (rw [sumLen_one] at h; exact h)))))
          clear c1 c2
          refine wp_region_gg (n := 26) [Fg.eq (.pointer (some ⟨p, 0, none⟩)), Fg.eq (.pointer (some ⟨p, 0, none⟩)), Fg.eq (.pointer (some ⟨p, 3, none⟩)), Fg.eq (.slice ba xs.length cap), Fg.eq (.int .i64 (xs.length : Int)), Fg.eq (.int .i64 ((xs.length : Int) + 1)), Fg.eq (.pointer (some ⟨p, 0, none⟩)), Fg.eq (.pointer (some ⟨p, 0, none⟩)), Fg.eq (.pointer (some ⟨p, 0, none⟩)), Fg.eq (.int .i64 P), Fg.eq (.bool false), Fg.eq (.bool false), Fg.eq (.pointer (some ⟨p, 0, none⟩)), Fg.eq (.pointer (some ⟨p, 0, none⟩)), Fg.eq (.pointer (some ⟨p, 3, none⟩)), Fg.eq (.slice ba xs.length cap), Fg.eq ((.int .i64 (sumLen xs))), Fg.eq (.pointer (some ⟨xb, 0, none⟩)), Fg.eq (.pointer (some ⟨xb, 1, none⟩)), Fg.eq (.int .i64 x.len), Fg.eq (.int .i64 (sumLen xs + x.len)), Fg.eq (.pointer (some ⟨p, 0, none⟩)), Fg.eq (.pointer (some ⟨p, 0, none⟩)), Fg.eq (.pointer (some ⟨p, 1, none⟩)), Fg.eq (.int .i64 R), Fg.eq (.bool false)] [64, 65, 66, 67, 68, 69, 70, 71, 72, 73, 74, 75, 76, 77, 78, 79, 80, 81, 82, 83, 84, 85, 86, 87, 88, 89] (by kernel_rfl) (by kernel_rfl) (by kernel_rfl) ?_ ?_
          · intro L i o' a w1 hi ho hA
            have hgr : Gr w0 w1 := (Gr.refl w0).drew.trans hA.gr
            match i, hi with
            | 0, _ =>
              obtain rfl := Option.some.inj ho
              exact gg_plain rfl (gstep_val (q_move rfl (show a.eval (.tmp 0) = .pointer (some ⟨p, 0, none⟩) from hA.other 0 (by decide))) rfl)
            | 1, _ =>
              obtain rfl := Option.some.inj ho
              exact gg_plain rfl (gstep_val (q_nil rfl (hA.fact 0 (hA.dep 0 (by kernel_rfl) (by decide)))) rfl)
            | 2, _ =>
              obtain rfl := Option.some.inj ho
              exact gg_plain rfl (gstep_val (g_fa_millraceref_Fifo_3 rfl (hA.fact 1 (hA.dep 1 (by kernel_rfl) (by decide)))) rfl)
            | 3, _ =>
              obtain rfl := Option.some.inj ho
              exact gg_plain rfl (gstep_val (g_loadS___millraceref_Pack rfl (hA.fact 2 (hA.dep 2 (by kernel_rfl) (by decide))) (hgr.cell HF0.out.l.c)) rfl)
            | 4, _ =>
              obtain rfl := Option.some.inj ho
              exact gg_plain rfl (gstep_val (g_len___millraceref_Pack rfl (hA.fact 3 (hA.dep 3 (by kernel_rfl) (by decide)))) rfl)
            | 5, _ =>
              obtain rfl := Option.some.inj ho
              exact gg_plain rfl (gstep_val (g_add rfl (hA.fact 4 (hA.dep 4 (by kernel_rfl) (by decide))) rfl (CN.out)) rfl)
            | 6, _ =>
              obtain rfl := Option.some.inj ho
              exact gg_plain rfl (gstep_val (q_move rfl (show a.eval (.tmp 0) = .pointer (some ⟨p, 0, none⟩) from hA.other 0 (by decide))) rfl)
            | 7, _ =>
              obtain rfl := Option.some.inj ho
              exact gg_plain rfl (gstep_val (q_nil rfl (hA.fact 6 (hA.dep 6 (by kernel_rfl) (by decide)))) rfl)
            | 8, _ =>
              obtain rfl := Option.some.inj ho
              exact gg_plain rfl (gstep_val (g_fa_millraceref_Fifo_0 rfl (hA.fact 7 (hA.dep 7 (by kernel_rfl) (by decide)))) rfl)
            | 9, _ =>
              obtain rfl := Option.some.inj ho
              exact gg_plain rfl (gstep_val (q_loadI rfl (hA.fact 8 (hA.dep 8 (by kernel_rfl) (by decide))) (hgr.cell HF0.out.c0)) rfl)
            | 10, _ =>
              obtain rfl := Option.some.inj ho
              exact gg_plain rfl (gstep_val (g_gtr rfl (hA.fact 5 (hA.dep 5 (by kernel_rfl) (by decide))) (hA.fact 9 (hA.dep 9 (by kernel_rfl) (by decide))) (C1.out)) rfl)
            | 11, _ =>
              obtain rfl := Option.some.inj ho
              exact gg_plain rfl (gstep_val (q_move rfl (hA.fact 10 (hA.dep 10 (by kernel_rfl) (by decide)))) rfl)
            | 12, _ =>
              obtain rfl := Option.some.inj ho
              exact gg_yes (b := false) rfl (hA.fact 11 (hA.dep 11 (by kernel_rfl) (by decide))) (gstep_val (q_move rfl (show a.eval (.tmp 0) = .pointer (some ⟨p, 0, none⟩) from hA.other 0 (by decide))) rfl)
            | 13, _ =>
              obtain rfl := Option.some.inj ho
              exact gg_yes (b := false) rfl (hA.fact 11 (hA.dep 11 (by kernel_rfl) (by decide))) (gstep_val (q_nil rfl (hA.fact 12 (hA.dep 12 (by kernel_rfl) (by decide)))) rfl)
            | 14, _ =>
              obtain rfl := Option.some.inj ho
              exact gg_yes (b := false) rfl (hA.fact 11 (hA.dep 11 (by kernel_rfl) (by decide))) (gstep_val (g_fa_millraceref_Fifo_3 rfl (hA.fact 13 (hA.dep 13 (by kernel_rfl) (by decide)))) rfl)
            | 15, _ =>
              obtain rfl := Option.some.inj ho
              exact gg_yes (b := false) rfl (hA.fact 11 (hA.dep 11 (by kernel_rfl) (by decide))) (gstep_val (g_loadS___millraceref_Pack rfl (hA.fact 14 (hA.dep 14 (by kernel_rfl) (by decide))) (hgr.cell HF0.out.l.c)) rfl)
            | 16, _ =>
              obtain rfl := Option.some.inj ho
              exact gg_yes (b := false) rfl (hA.fact 11 (hA.dep 11 (by kernel_rfl) (by decide))) (gstep_call (g_call_millrace_millraceref_Bytes rfl rfl (hA.fact 15 (hA.dep 15 (by kernel_rfl) (by decide)))) ((rbytes_any _ xs w1 (HF0.out.l.row.gr hgr) (by have := HNL.out; omega) HLL.out).mono (fun e w' ⟨h1, h2⟩ => ⟨_, h1, h2, rfl⟩)))
            | 17, _ =>
              obtain rfl := Option.some.inj ho
              exact gg_yes (b := false) rfl (hA.fact 11 (hA.dep 11 (by kernel_rfl) (by decide))) (gstep_val (g_fa_millraceref_Pack_0 rfl (show a.eval (.tmp 5) = .pointer (some ⟨xb, 0, none⟩) from hA.other 5 (by decide))) rfl)
            | 18, _ =>
              obtain rfl := Option.some.inj ho
              exact gg_yes (b := false) rfl (hA.fact 11 (hA.dep 11 (by kernel_rfl) (by decide))) (gstep_val (g_fa_api_Item_1 rfl (hA.fact 17 (hA.dep 17 (by kernel_rfl) (by decide)))) rfl)
            | 19, _ =>
              obtain rfl := Option.some.inj ho
              exact gg_yes (b := false) rfl (hA.fact 11 (hA.dep 11 (by kernel_rfl) (by decide))) (gstep_val (q_loadI rfl (hA.fact 18 (hA.dep 18 (by kernel_rfl) (by decide))) (hgr.cell HX0.out.1.c1)) rfl)
            | 20, _ =>
              obtain rfl := Option.some.inj ho
              exact gg_yes (b := false) rfl (hA.fact 11 (hA.dep 11 (by kernel_rfl) (by decide))) (gstep_val (g_add rfl (hA.fact 16 (hA.dep 16 (by kernel_rfl) (by decide))) (hA.fact 19 (hA.dep 19 (by kernel_rfl) (by decide))) (CA.out)) rfl)
            | 21, _ =>
              obtain rfl := Option.some.inj ho
              exact gg_yes (b := false) rfl (hA.fact 11 (hA.dep 11 (by kernel_rfl) (by decide))) (gstep_val (q_move rfl (show a.eval (.tmp 0) = .pointer (some ⟨p, 0, none⟩) from hA.other 0 (by decide))) rfl)
            | 22, _ =>
              obtain rfl := Option.some.inj ho
              exact gg_yes (b := false) rfl (hA.fact 11 (hA.dep 11 (by kernel_rfl) (by decide))) (gstep_val (q_nil rfl (hA.fact 21 (hA.dep 21 (by kernel_rfl) (by decide)))) rfl)
            | 23, _ =>
              obtain rfl := Option.some.inj ho
              exact gg_yes (b := false) rfl (hA.fact 11 (hA.dep 11 (by kernel_rfl) (by decide))) (gstep_val (g_fa_millraceref_Fifo_1 rfl (hA.fact 22 (hA.dep 22 (by kernel_rfl) (by decide)))) rfl)
            | 24, _ =>
              obtain rfl := Option.some.inj ho
              exact gg_yes (b := false) rfl (hA.fact 11 (hA.dep 11 (by kernel_rfl) (by decide))) (gstep_val (q_loadI rfl (hA.fact 23 (hA.dep 23 (by kernel_rfl) (by decide))) (hgr.cell HF0.out.c1)) rfl)
            | 25, _ =>
              obtain rfl := Option.some.inj ho
              exact gg_yes (b := false) rfl (hA.fact 11 (hA.dep 11 (by kernel_rfl) (by decide))) (gstep_val (g_gtr rfl (hA.fact 20 (hA.dep 20 (by kernel_rfl) (by decide))) (hA.fact 24 (hA.dep 24 (by kernel_rfl) (by decide))) (C2.out)) rfl)
            | k + 26, hk => exact absurd (show k + 26 < 26 from hk) (by omega)
          · intro vs w5 hg5 hv
            have HGX := Lib.hid ((Gr.refl w0).drew.trans hg5)
            have v75 : vs 11 = .bool false := hv 11 (by omega)
            have v89 : vs 25 = .bool false := hv 25 (by omega)
            clear hv hg5
            simp only [putN, List.drop_succ_cons, List.drop_zero, List.getElem?_cons_succ, List.getElem?_cons_zero]
            generalize vs 11 = z75 at *
            subst v75
            generalize vs 25 = z89 at *
            subst v89
            generalize vs 0 = z64 at *
            generalize vs 1 = z65 at *
            generalize vs 2 = z66 at *
            generalize vs 3 = z67 at *
            generalize vs 4 = z68 at *
            generalize vs 5 = z69 at *
            generalize vs 6 = z70 at *
            generalize vs 7 = z71 at *
            generalize vs 8 = z72 at *
            generalize vs 9 = z73 at *
            generalize vs 10 = z74 at *
            generalize vs 12 = z76 at *
            generalize vs 13 = z77 at *
            generalize vs 14 = z78 at *
            generalize vs 15 = z79 at *
            generalize vs 16 = z80 at *
            generalize vs 17 = z81 at *
            generalize vs 18 = z82 at *
            generalize vs 19 = z83 at *
            generalize vs 20 = z84 at *
            generalize vs 21 = z85 at *
            generalize vs 22 = z86 at *
            generalize vs 23 = z87 at *
            generalize vs 24 = z88 at *
            go_wp2
            go_meet
            exact ⟨by simp [HB.out], HGX.out⟩
    case rest =>
      obtain ⟨rfl, hg⟩ := hcut
      have HG1 := Lib.hid hg
      have HF1 := Lib.hid (HF0.out.gr hg)
      have HGW := Lib.hid (HG0.out.trans hg)
      have HX1 := Lib.hid (HX0.out.1.gr hg)
      clear hg
      by_cases hf : Full P R (xs ++ [x])
      · rw [decide_eq_true hf]
        have HFF := Lib.hid hf
        clear hf
        obtain ⟨x0, x1, x2, x3, x4, x5⟩ := HX1.out
        go_wp2
        go_ret
        rw [fifo_full HFF.out]
        exact ⟨_, _, rfl, RowH.one _ wc x rfl, RDid.ahead (HGW.out.alloc _) HPL.out (RDid.of_gr (HF1.out.l.gr ((Gr.refl _).alloc _)) (Gr.refl _))⟩
      · rw [decide_eq_false hf]
        have HFF := Lib.hid hf
        clear hf HF0 HX0
        obtain ⟨w0, hw0⟩ : ∃ w0, w0 = wc := ⟨_, rfl⟩
        rw [← hw0] at HF1 HX1 HGW ⊢
        have HX0 := Lib.hid (show HelAt w0 xb 0 x ∧ True from ⟨HX1.out, trivial⟩)
        have HC3 := Lib.hid HF1.out.l.c
        have HF3 := Lib.hid HF1.out.l.f
        have HROW0 := Lib.hid HF1.out.l.row
        have HNE := Lib.hid (show ¬ (Value.slice ba xs.length cap).ownBlock = some p ∧ ¬ (Value.slice ba xs.length cap).ownBlock = some xb from ⟨HF1.out.l.ne, fun e => by have h1 := HLT1.out _ e; have h2 := HXB.out; omega⟩)
        have HLT := Lib.hid (fun g (hg : (Value.slice ba xs.length cap).ownBlock = some g) => (show g < w0.heap.size from HROW0.out.lt hg))
        clear hw0
        go_upto_region 10 with fail
        refine wp_region_k (n := 10) (fun u => Sav (fun q => (Value.slice ba xs.length cap).ownBlock = some q) w0 u ∧ RowH 95 u (.slice ba xs.length cap) xs) [Fg.eq (.pointer (some ⟨p, 0, none⟩)), Fg.eq (.pointer (some ⟨p, 0, none⟩)), Fg.eq (.pointer (some ⟨p, 0, none⟩)), Fg.eq (.pointer (some ⟨p, 3, none⟩)), Fg.eq (.slice ba xs.length cap), Fg.eq (x.val), Fg.hel w0.heap.size x, Fg.rowp w0 (.slice ba xs.length cap) (xs ++ [x]), Fg.eq (.pointer (some ⟨p, 0, none⟩)), Fg.eq (.pointer (some ⟨p, 3, none⟩))] [93, 94, 95, 96, 97, 98, 99, 100, 101, 102] (⟨.of_gr (Gr.refl w0).drew, HROW0.out.gr (Gr.refl w0).drew⟩) (by kernel_rfl) (by kernel_rfl) (by kernel_rfl) ?_ ?_
        · intro L i o a w1 hi ho hA
          have hI := hA.gr
          match i, hi with
          | 0, _ =>
            obtain rfl := Option.some.inj ho
            exact kstep_val hA (q_move rfl (show a.eval (.tmp 0) = .pointer (some ⟨p, 0, none⟩) from hA.other 0 (by decide))) rfl
          | 1, _ =>
            obtain rfl := Option.some.inj ho
            exact kstep_val hA (q_move rfl (show a.eval (.tmp 0) = .pointer (some ⟨p, 0, none⟩) from hA.other 0 (by decide))) rfl
          | 2, _ =>
            obtain rfl := Option.some.inj ho
            exact kstep_val hA (q_nil rfl (hA.fact 1 (hA.dep 1 (by kernel_rfl) (by decide)))) rfl
          | 3, _ =>
            obtain rfl := Option.some.inj ho
            exact kstep_val hA (r_fa_millraceref_Fifo_3 rfl (hA.fact 2 (hA.dep 2 (by kernel_rfl) (by decide)))) rfl
          | 4, _ =>
            obtain rfl := Option.some.inj ho
            exact kstep_val hA (q_loadSP rfl (hA.fact 3 (hA.dep 3 (by kernel_rfl) (by decide))) (hI.1.cell HC3.out HNE.out.1)) rfl
          | 5, _ =>
            obtain rfl := Option.some.inj ho
            exact kstep_val hA (q_loadP rfl (show a.eval (.tmp 5) = .pointer (some ⟨xb, 0, none⟩) from hA.other 5 (by decide)) (HX0.out.1.sav hI.1 HNE.out.2)) rfl
          | 6, _ =>
            obtain rfl := Option.some.inj ho
            exact kstep_gr hA (q_buildP rfl (hA.fact 5 (hA.dep 5 (by kernel_rfl) (by decide)))) ((Gr.refl _).alloc _) ⟨hI.1.then (.of_gr ((Gr.refl _).alloc _)), hI.2.gr ((Gr.refl _).alloc _)⟩ ⟨_, rfl, hI.1.size, held_new _ _ rfl⟩
          | 7, _ =>
            obtain rfl := Option.some.inj ho
            obtain ⟨g, hv, hg, hh⟩ := (hA.fact 6 (hA.dep 6 (by kernel_rfl) (by decide)))
            obtain ⟨i0, hi0, hz0, hz1, hz2⟩ := info_parts packInfo
            obtain ⟨v', w', hr, hrow, hgrow, hown, hold⟩ := RowH.app (P := Tryz.prog) (ys := [x]) 44 44 i0 Hel.zero.val Tryz.underlying44 hi0 hz0 hz1 hz2 rfl (by intro u hu; exact (cells_int Hel.zero u (by simpa [Hel.val, Value.cells, Hel.cells] using hu)).2) hI.2 ⟨g, 0, none⟩ 1 (by simp) (by rw [flat_one]; exact hh.news) (by have := HNL.out; simp; omega)
            refine kstep_keep hA (q_append rfl (hA.fact 4 (hA.dep 4 (by kernel_rfl) (by decide))) hv hr) ⟨hI.1.then (.of_grown hgrow fun _ h => h), hold⟩ ⟨hrow, fun g hg => (hown g hg).imp id (Nat.le_trans hI.1.size)⟩ ?_
            intro j hj u hu
            match j, hj, hu with
            | 0, _, hu => exact hu
            | 1, _, hu => exact hu
            | 2, _, hu => exact hu
            | 3, _, hu => exact hu
            | 4, _, hu => exact hu
            | 5, _, hu => exact hu
            | 8, _, hu => exact hu
            | 9, _, hu => exact hu
            | 6, _, hu => obtain ⟨g', h1, h2, h3⟩ := hu; exact ⟨g', h1, h2, h3.sav (B := fun q => (Value.slice ba xs.length cap).ownBlock = some q) (.of_grown hgrow fun _ h => h) (fun e => by have := HLT.out g' e; omega)⟩
            | 7, hj, _ => exact absurd rfl hj
            | j + 10, _, _ => trivial
          | 8, _ =>
            obtain rfl := Option.some.inj ho
            exact kstep_val hA (q_nil rfl (hA.fact 0 (hA.dep 0 (by kernel_rfl) (by decide)))) rfl
          | 9, _ =>
            obtain rfl := Option.some.inj ho
            exact kstep_val hA (r_fa_millraceref_Fifo_3 rfl (hA.fact 8 (hA.dep 8 (by kernel_rfl) (by decide)))) rfl
        · intro vs w2 hI hv
          obtain ⟨hrow, hown⟩ := hv 7 (by omega)
          have v9 : vs 9 = .pointer (some ⟨p, 3, none⟩) := hv 9 (by omega)
          have hrow' : RowH 95 w2 (vs 7) (xs ++ [x]) := hrow
          have hown' : ∀ g, (vs 7).ownBlock = some g → (Value.slice ba xs.length cap).ownBlock = some g ∨ w0.heap.size ≤ g := hown
          have d0 := hI.1.cell HC3.out HNE.out.1
          have d1 := hI.1.frozen (p := ⟨p, 3, none⟩) (cell_lt HC3.out) HF3.out HNE.out.1
          have HSV := Lib.hid hI.1
          clear hv hrow hown hI
          simp only [putN, List.drop_succ_cons, List.drop_zero, List.getElem?_cons_succ, List.getElem?_cons_zero]
          generalize vs 7 = u7 at *
          generalize vs 9 = u9 at *
          subst v9
          obtain ⟨a', cap', rfl⟩ := hrow'.shape
          have HROW := Lib.hid hrow'
          have HOWN := Lib.hid hown'
          clear hrow' hown'
          rw [List.length_append, show [x].length = 1 from rfl] at *
          go_wp2
          obtain ⟨w3, hw3⟩ : ∃ w3, w3 = w2.setCell ⟨p, 3, none⟩ (.slice a' (xs.length + 1) cap') := ⟨_, rfl⟩
          have HD3 : Hid (RDid w0 w3 p 3 (.slice ba xs.length cap) (.slice a' (xs.length + 1) cap') (xs ++ [x])) := Lib.hid (by
            rw [hw3]
            exact RDid.app HC3.out HF3.out HSV.out HROW.out HOWN.out HNE.out.1 (cell_lt HC3.out))
          rw [← hw3]
          clear hw3 d0 d1 HSV HROW HOWN
          go_wp2
          go_ret
          rw [fifo_fits HFF.out]
          exact ⟨_, _, rfl, RowH.nil _ _, HD3.out.ahead HGW.out HPL.out⟩
  | true =>
    have HC3 := Lib.hid HF0.out.l.c
    have HF3 := Lib.hid HF0.out.l.f
    have HROW0 := Lib.hid HF0.out.l.row
    have HNE := Lib.hid (show ¬ (Value.slice ba xs.length cap).ownBlock = some p ∧ ¬ (Value.slice ba xs.length cap).ownBlock = some xb from ⟨HF0.out.l.ne, fun e => by have h1 := HLT1.out _ e; have h2 := HX0.out.2; omega⟩)
    have HLT := Lib.hid (fun g (hg : (Value.slice ba xs.length cap).ownBlock = some g) => (show g < w0.heap.size from HROW0.out.lt hg))
    go_upto_region 2 with fail
    refine wp_region_k (n := 10) (fun u => Sav (fun q => (Value.slice ba xs.length cap).ownBlock = some q) w0 u ∧ RowH 95 u (.slice ba xs.length cap) xs) [Fg.eq (.pointer (some ⟨p, 0, none⟩)), Fg.eq (.pointer (some ⟨p, 0, none⟩)), Fg.eq (.pointer (some ⟨p, 0, none⟩)), Fg.eq (.pointer (some ⟨p, 3, none⟩)), Fg.eq (.slice ba xs.length cap), Fg.eq (x.val), Fg.hel w0.heap.size x, Fg.rowp w0 (.slice ba xs.length cap) (xs ++ [x]), Fg.eq (.pointer (some ⟨p, 0, none⟩)), Fg.eq (.pointer (some ⟨p, 3, none⟩))] [12, 13, 14, 15, 16, 17, 18, 19, 20, 21] (⟨.of_gr (Gr.refl w0).drew, HROW0.out.gr (Gr.refl w0).drew⟩) (by kernel_rfl) (by kernel_rfl) (by kernel_rfl) ?_ ?_
    · intro L i o a w1 hi ho hA
      have hI := hA.gr
      match i, hi with
      | 0, _ =>
        obtain rfl := Option.some.inj ho
        exact kstep_val hA (q_move rfl (show a.eval (.tmp 0) = .pointer (some ⟨p, 0, none⟩) from hA.other 0 (by decide))) rfl
      | 1, _ =>
        obtain rfl := Option.some.inj ho
        exact kstep_val hA (q_move rfl (show a.eval (.tmp 0) = .pointer (some ⟨p, 0, none⟩) from hA.other 0 (by decide))) rfl
      | 2, _ =>
        obtain rfl := Option.some.inj ho
        exact kstep_val hA (q_nil rfl (hA.fact 1 (hA.dep 1 (by kernel_rfl) (by decide)))) rfl
      | 3, _ =>
        obtain rfl := Option.some.inj ho
        exact kstep_val hA (r_fa_millraceref_Fifo_3 rfl (hA.fact 2 (hA.dep 2 (by kernel_rfl) (by decide)))) rfl
      | 4, _ =>
        obtain rfl := Option.some.inj ho
        exact kstep_val hA (q_loadSP rfl (hA.fact 3 (hA.dep 3 (by kernel_rfl) (by decide))) (hI.1.cell HC3.out HNE.out.1)) rfl
      | 5, _ =>
        obtain rfl := Option.some.inj ho
        exact kstep_val hA (q_loadP rfl (show a.eval (.tmp 5) = .pointer (some ⟨xb, 0, none⟩) from hA.other 5 (by decide)) (HX0.out.1.sav hI.1 HNE.out.2)) rfl
      | 6, _ =>
        obtain rfl := Option.some.inj ho
        exact kstep_gr hA (q_buildP rfl (hA.fact 5 (hA.dep 5 (by kernel_rfl) (by decide)))) ((Gr.refl _).alloc _) ⟨hI.1.then (.of_gr ((Gr.refl _).alloc _)), hI.2.gr ((Gr.refl _).alloc _)⟩ ⟨_, rfl, hI.1.size, held_new _ _ rfl⟩
      | 7, _ =>
        obtain rfl := Option.some.inj ho
        obtain ⟨g, hv, hg, hh⟩ := (hA.fact 6 (hA.dep 6 (by kernel_rfl) (by decide)))
        obtain ⟨i0, hi0, hz0, hz1, hz2⟩ := info_parts packInfo
        obtain ⟨v', w', hr, hrow, hgrow, hown, hold⟩ := RowH.app (P := Tryz.prog) (ys := [x]) 44 44 i0 Hel.zero.val Tryz.underlying44 hi0 hz0 hz1 hz2 rfl (by intro u hu; exact (cells_int Hel.zero u (by simpa [Hel.val, Value.cells, Hel.cells] using hu)).2) hI.2 ⟨g, 0, none⟩ 1 (by simp) (by rw [flat_one]; exact hh.news) (by have := HNL.out; simp; omega)
        refine kstep_keep hA (q_append rfl (hA.fact 4 (hA.dep 4 (by kernel_rfl) (by decide))) hv hr) ⟨hI.1.then (.of_grown hgrow fun _ h => h), hold⟩ ⟨hrow, fun g hg => (hown g hg).imp id (Nat.le_trans hI.1.size)⟩ ?_
        intro j hj u hu
        match j, hj, hu with
        | 0, _, hu => exact hu
        | 1, _, hu => exact hu
        | 2, _, hu => exact hu
        | 3, _, hu => exact hu
        | 4, _, hu => exact hu
        | 5, _, hu => exact hu
        | 8, _, hu => exact hu
        | 9, _, hu => exact hu
        | 6, _, hu => obtain ⟨g', h1, h2, h3⟩ := hu; exact ⟨g', h1, h2, h3.sav (B := fun q => (Value.slice ba xs.length cap).ownBlock = some q) (.of_grown hgrow fun _ h => h) (fun e => by have := HLT.out g' e; omega)⟩
        | 7, hj, _ => exact absurd rfl hj
        | j + 10, _, _ => trivial
      | 8, _ =>
        obtain rfl := Option.some.inj ho
        exact kstep_val hA (q_nil rfl (hA.fact 0 (hA.dep 0 (by kernel_rfl) (by decide)))) rfl
      | 9, _ =>
        obtain rfl := Option.some.inj ho
        exact kstep_val hA (r_fa_millraceref_Fifo_3 rfl (hA.fact 8 (hA.dep 8 (by kernel_rfl) (by decide)))) rfl
    · intro vs w2 hI hv
      obtain ⟨hrow, hown⟩ := hv 7 (by omega)
      have v9 : vs 9 = .pointer (some ⟨p, 3, none⟩) := hv 9 (by omega)
      have hrow' : RowH 95 w2 (vs 7) (xs ++ [x]) := hrow
      have hown' : ∀ g, (vs 7).ownBlock = some g → (Value.slice ba xs.length cap).ownBlock = some g ∨ w0.heap.size ≤ g := hown
      have d0 := hI.1.cell HC3.out HNE.out.1
      have d1 := hI.1.frozen (p := ⟨p, 3, none⟩) (cell_lt HC3.out) HF3.out HNE.out.1
      have HSV := Lib.hid hI.1
      clear hv hrow hown hI
      simp only [putN, List.drop_succ_cons, List.drop_zero, List.getElem?_cons_succ, List.getElem?_cons_zero]
      generalize vs 7 = u7 at *
      generalize vs 9 = u9 at *
      subst v9
      obtain ⟨a', cap', rfl⟩ := hrow'.shape
      have HROW := Lib.hid hrow'
      have HOWN := Lib.hid hown'
      clear hrow' hown'
      rw [List.length_append, show [x].length = 1 from rfl] at *
      go_wp2
      obtain ⟨w3, hw3⟩ : ∃ w3, w3 = w2.setCell ⟨p, 3, none⟩ (.slice a' (xs.length + 1) cap') := ⟨_, rfl⟩
      have HD3 : Hid (RDid w0 w3 p 3 (.slice ba xs.length cap) (.slice a' (xs.length + 1) cap') (xs ++ [x])) := Lib.hid (by
        rw [hw3]
        exact RDid.app HC3.out HF3.out HSV.out HROW.out HOWN.out HNE.out.1 (cell_lt HC3.out))
      rw [← hw3]
      clear hw3 d0 d1 HSV HROW HOWN
      have HDD := Lib.hid (HD3.out.ahead HG0.out HPL.out)
      have HFA := Lib.hid (HF0.out.then HD3.out)
      obtain ⟨i0, hi0, hz0, hz1, hz2⟩ := info_parts packInfo
      have HBD : Hid (Lens (xs ++ [x]) ∧ (xs ++ [x]).length ≤ 901) := Lib.hid ⟨fun y hy => (by
        rcases List.mem_append.1 hy with hy | hy
        · exact HLL.out y hy
        · obtain rfl := List.mem_singleton.1 hy
          exact HXX.out), by have := HNL.out; simp; omega⟩
      clear HX0 HD3 HF0 c2 HC3 HF3 HROW0 HNE HLT
      go_wp2
      go_loopg [7] (xs ++ [x]).length (fun g s7 wr => ∃ (los kept : List Hel) (v1 : Value), Hid (los ++ kept = xs ++ [x]) ∧ g = kept.length ∧ Hid (shed P R (xs ++ [x]) = (los ++ (shed P R kept).1, (shed P R kept).2)) ∧ Hid (RowH 95 wr s7 los ∧ RFifoAt wr p v1 kept P R true ∧ RDid w wr p 3 (.slice ba xs.length cap) v1 kept ∧ ∀ g, s7.ownBlock = some g → w.heap.size ≤ g ∧ v1.ownBlock ≠ some g))
      case atStart => exact ⟨[], xs ++ [x], _, Lib.hid rfl, rfl, Lib.hid rfl, Lib.hid ⟨RowH.nil _ _, HFA.out, HDD.out, fun g hg => by cases hg⟩⟩
      case round =>
        obtain ⟨los, kept, v1, HEQ, rfl, HSH, HW⟩ := hrel
        obtain ⟨ka, kc, rfl⟩ := HW.out.2.1.l.shape
        have HK := Lib.hid HW.out.2.1
        have HLK : Hid (Lens kept ∧ kept.length ≤ 901 ∧ los.length ≤ 901) := Lib.hid ⟨fun y hy => HBD.out.1 y (by rw [← HEQ.out]; exact List.mem_append_right _ hy), by have h1 := HBD.out.2; rw [← HEQ.out] at h1; simp at h1; omega, by have h1 := HBD.out.2; rw [← HEQ.out] at h1; simp at h1; omega⟩
        go_upto_region 4 with fail
        go_cut [43] (fun s43 wx => s43 = .bool (decide (Full P R kept)) ∧ Gr wr wx)
        case first =>
          by_cases c1 : P < (kept.length : Int)
          · have C1 := Lib.hid (decide_eq_true c1)
            have C2 : Hid True := trivial
            have HB := Lib.hid (decide_eq_true (show Full P R (kept) from .inl (by first | exact c1 | (simp; omega))))
            clear c1
            refine wp_region_gg (n := 21) [Fg.eq (.pointer (some ⟨p, 0, none⟩)), Fg.eq (.pointer (some ⟨p, 0, none⟩)), Fg.eq (.pointer (some ⟨p, 3, none⟩)), Fg.eq (.slice ka kept.length kc), Fg.eq (.int .i64 (kept.length : Int)), Fg.eq (.pointer (some ⟨p, 0, none⟩)), Fg.eq (.pointer (some ⟨p, 0, none⟩)), Fg.eq (.pointer (some ⟨p, 0, none⟩)), Fg.eq (.int .i64 P), Fg.eq (.bool true), Fg.eq (.bool true), Fg.eq undef, Fg.eq undef, Fg.eq undef, Fg.eq undef, Fg.eq undef, Fg.eq undef, Fg.eq undef, Fg.eq undef, Fg.eq undef, Fg.eq undef] [22, 23, 24, 25, 26, 27, 28, 29, 30, 31, 32, 33, 34, 35, 36, 37, 38, 39, 40, 41, 42] (by kernel_rfl) (by kernel_rfl) (by kernel_rfl) ?_ ?_
            · intro L i o' a w1 hi ho hA
              have hgr : Gr wr w1 := (Gr.refl wr).drew.trans hA.gr
              match i, hi with
              | 0, _ =>
                obtain rfl := Option.some.inj ho
                exact gg_plain rfl (gstep_val (q_move rfl (show a.eval (.tmp 0) = .pointer (some ⟨p, 0, none⟩) from hA.other 0 (by decide))) rfl)
              | 1, _ =>
                obtain rfl := Option.some.inj ho
                exact gg_plain rfl (gstep_val (q_nil rfl (hA.fact 0 (hA.dep 0 (by kernel_rfl) (by decide)))) rfl)
              | 2, _ =>
                obtain rfl := Option.some.inj ho
                exact gg_plain rfl (gstep_val (g_fa_millraceref_Fifo_3 rfl (hA.fact 1 (hA.dep 1 (by kernel_rfl) (by decide)))) rfl)
              | 3, _ =>
                obtain rfl := Option.some.inj ho
                exact gg_plain rfl (gstep_val (g_loadS___millraceref_Pack rfl (hA.fact 2 (hA.dep 2 (by kernel_rfl) (by decide))) (hgr.cell HK.out.l.c)) rfl)
              | 4, _ =>
                obtain rfl := Option.some.inj ho
                exact gg_plain rfl (gstep_val (g_len___millraceref_Pack rfl (hA.fact 3 (hA.dep 3 (by kernel_rfl) (by decide)))) rfl)
              | 5, _ =>
                obtain rfl := Option.some.inj ho
                exact gg_plain rfl (gstep_val (q_move rfl (show a.eval (.tmp 0) = .pointer (some ⟨p, 0, none⟩) from hA.other 0 (by decide))) rfl)
              | 6, _ =>
                obtain rfl := Option.some.inj ho
                exact gg_plain rfl (gstep_val (q_nil rfl (hA.fact 5 (hA.dep 5 (by kernel_rfl) (by decide)))) rfl)
              | 7, _ =>
                obtain rfl := Option.some.inj ho
                exact gg_plain rfl (gstep_val (g_fa_millraceref_Fifo_0 rfl (hA.fact 6 (hA.dep 6 (by kernel_rfl) (by decide)))) rfl)
              | 8, _ =>
                obtain rfl := Option.some.inj ho
                exact gg_plain rfl (gstep_val (q_loadI rfl (hA.fact 7 (hA.dep 7 (by kernel_rfl) (by decide))) (hgr.cell HK.out.c0)) rfl)
              | 9, _ =>
                obtain rfl := Option.some.inj ho
                exact gg_plain rfl (gstep_val (g_gtr rfl (hA.fact 4 (hA.dep 4 (by kernel_rfl) (by decide))) (hA.fact 8 (hA.dep 8 (by kernel_rfl) (by decide))) (C1.out)) rfl)
              | 10, _ =>
                obtain rfl := Option.some.inj ho
                exact gg_plain rfl (gstep_val (q_move rfl (hA.fact 9 (hA.dep 9 (by kernel_rfl) (by decide)))) rfl)
              | 11, _ =>
                obtain rfl := Option.some.inj ho
                exact gg_no (b := false) rfl (hA.fact 10 (hA.dep 10 (by kernel_rfl) (by decide))) rfl
              | 12, _ =>
                obtain rfl := Option.some.inj ho
                exact gg_no (b := false) rfl (hA.fact 10 (hA.dep 10 (by kernel_rfl) (by decide))) rfl
              | 13, _ =>
                obtain rfl := Option.some.inj ho
                exact gg_no (b := false) rfl (hA.fact 10 (hA.dep 10 (by kernel_rfl) (by decide))) rfl
              | 14, _ =>
                obtain rfl := Option.some.inj ho
                exact gg_no (b := false) rfl (hA.fact 10 (hA.dep 10 (by kernel_rfl) (by decide))) rfl
              | 15, _ =>
                obtain rfl := Option.some.inj ho
                exact gg_no (b := false) rfl (hA.fact 10 (hA.dep 10 (by kernel_rfl) (by decide))) rfl
              | 16, _ =>
                obtain rfl := Option.some.inj ho
                exact gg_no (b := false) rfl (hA.fact 10 (hA.dep 10 (by kernel_rfl) (by decide))) rfl
              | 17, _ =>
                obtain rfl := Option.some.inj ho
                exact gg_no (b := false) rfl (hA.fact 10 (hA.dep 10 (by kernel_rfl) (by decide))) rfl
              | 18, _ =>
                obtain rfl := Option.some.inj ho
                exact gg_no (b := false) rfl (hA.fact 10 (hA.dep 10 (by kernel_rfl) (by decide))) rfl
              | 19, _ =>
                obtain rfl := Option.some.inj ho
                exact gg_no (b := false) rfl (hA.fact 10 (hA.dep 10 (by kernel_rfl) (by decide))) rfl
              | 20, _ =>
                obtain rfl := Option.some.inj ho
                exact gg_no (b := false) rfl (hA.fact 10 (hA.dep 10 (by kernel_rfl) (by decide))) rfl
              | k + 21, hk => exact absurd (show k + 21 < 21 from hk) (by omega)
            · intro vs w5 hg5 hv
              have HGX := Lib.hid ((Gr.refl wr).drew.trans hg5)
              have v32 : vs 10 = .bool true := hv 10 (by omega)
              have v42 : vs 20 = undef := hv 20 (by omega)
              clear hv hg5
              simp only [putN, List.drop_succ_cons, List.drop_zero, List.getElem?_cons_succ, List.getElem?_cons_zero]
              generalize vs 10 = z32 at *
              subst v32
              generalize vs 20 = z42 at *
              subst v42
              generalize vs 0 = z22 at *
              generalize vs 1 = z23 at *
              generalize vs 2 = z24 at *
              generalize vs 3 = z25 at *
              generalize vs 4 = z26 at *
              generalize vs 5 = z27 at *
              generalize vs 6 = z28 at *
              generalize vs 7 = z29 at *
              generalize vs 8 = z30 at *
              generalize vs 9 = z31 at *
              generalize vs 11 = z33 at *
              generalize vs 12 = z34 at *
              generalize vs 13 = z35 at *
              generalize vs 14 = z36 at *
              generalize vs 15 = z37 at *
              generalize vs 16 = z38 at *
              generalize vs 17 = z39 at *
              generalize vs 18 = z40 at *
              generalize vs 19 = z41 at *
              go_wp2
              go_meet
              exact ⟨by simp [HB.out], HGX.out⟩
          · have C1 := Lib.hid (decide_eq_false c1)
            by_cases c2 : R < sumLen kept
            · have C2 := Lib.hid (decide_eq_true c2)
              have HB := Lib.hid (decide_eq_true (show Full P R (kept) from .inr (by first | exact c2 | (rw [sumLen_one]; exact c2))))
              clear c1 c2
              refine wp_region_gg (n := 21) [Fg.eq (.pointer (some ⟨p, 0, none⟩)), Fg.eq (.pointer (some ⟨p, 0, none⟩)), Fg.eq (.pointer (some ⟨p, 3, none⟩)), Fg.eq (.slice ka kept.length kc), Fg.eq (.int .i64 (kept.length : Int)), Fg.eq (.pointer (some ⟨p, 0, none⟩)), Fg.eq (.pointer (some ⟨p, 0, none⟩)), Fg.eq (.pointer (some ⟨p, 0, none⟩)), Fg.eq (.int .i64 P), Fg.eq (.bool false), Fg.eq (.bool false), Fg.eq (.pointer (some ⟨p, 0, none⟩)), Fg.eq (.pointer (some ⟨p, 0, none⟩)), Fg.eq (.pointer (some ⟨p, 3, none⟩)), Fg.eq (.slice ka kept.length kc), Fg.eq ((.int .i64 (sumLen kept))), Fg.eq (.pointer (some ⟨p, 0, none⟩)), Fg.eq (.pointer (some ⟨p, 0, none⟩)), Fg.eq (.pointer (some ⟨p, 1, none⟩)), Fg.eq (.int .i64 R), Fg.eq (.bool true)] [22, 23, 24, 25, 26, 27, 28, 29, 30, 31, 32, 33, 34, 35, 36, 37, 38, 39, 40, 41, 42] (by kernel_rfl) (by kernel_rfl) (by kernel_rfl) ?_ ?_
              · intro L i o' a w1 hi ho hA
                have hgr : Gr wr w1 := (Gr.refl wr).drew.trans hA.gr
                match i, hi with
                | 0, _ =>
                  obtain rfl := Option.some.inj ho
                  exact gg_plain rfl (gstep_val (q_move rfl (show a.eval (.tmp 0) = .pointer (some ⟨p, 0, none⟩) from hA.other 0 (by decide))) rfl)
                | 1, _ =>
                  obtain rfl := Option.some.inj ho
                  exact gg_plain rfl (gstep_val (q_nil rfl (hA.fact 0 (hA.dep 0 (by kernel_rfl) (by decide)))) rfl)
                | 2, _ =>
                  obtain rfl := Option.some.inj ho
                  exact gg_plain rfl (gstep_val (g_fa_millraceref_Fifo_3 rfl (hA.fact 1 (hA.dep 1 (by kernel_rfl) (by decide)))) rfl)
                | 3, _ =>
                  obtain rfl := Option.some.inj ho
                  exact gg_plain rfl (gstep_val (g_loadS___millraceref_Pack rfl (hA.fact 2 (hA.dep 2 (by kernel_rfl) (by decide))) (hgr.cell HK.out.l.c)) rfl)
                | 4, _ =>
                  obtain rfl := Option.some.inj ho
                  exact gg_plain rfl (gstep_val (g_len___millraceref_Pack rfl (hA.fact 3 (hA.dep 3 (by kernel_rfl) (by decide)))) rfl)
                | 5, _ =>
                  obtain rfl := Option.some.inj ho
                  exact gg_plain rfl (gstep_val (q_move rfl (show a.eval (.tmp 0) = .pointer (some ⟨p, 0, none⟩) from hA.other 0 (by decide))) rfl)
                | 6, _ =>
                  obtain rfl := Option.some.inj ho
                  exact gg_plain rfl (gstep_val (q_nil rfl (hA.fact 5 (hA.dep 5 (by kernel_rfl) (by decide)))) rfl)
                | 7, _ =>
                  obtain rfl := Option.some.inj ho
                  exact gg_plain rfl (gstep_val (g_fa_millraceref_Fifo_0 rfl (hA.fact 6 (hA.dep 6 (by kernel_rfl) (by decide)))) rfl)
                | 8, _ =>
                  obtain rfl := Option.some.inj ho
                  exact gg_plain rfl (gstep_val (q_loadI rfl (hA.fact 7 (hA.dep 7 (by kernel_rfl) (by decide))) (hgr.cell HK.out.c0)) rfl)
                | 9, _ =>
                  obtain rfl := Option.some.inj ho
                  exact gg_plain rfl (gstep_val (g_gtr rfl (hA.fact 4 (hA.dep 4 (by kernel_rfl) (by decide))) (hA.fact 8 (hA.dep 8 (by kernel_rfl) (by decide))) (C1.out)) rfl)
                | 10, _ =>
                  obtain rfl := Option.some.inj ho
                  exact gg_plain rfl (gstep_val (q_move rfl (hA.fact 9 (hA.dep 9 (by kernel_rfl) (by decide)))) rfl)
                | 11, _ =>
                  obtain rfl := Option.some.inj ho
                  exact gg_yes (b := false) rfl (hA.fact 10 (hA.dep 10 (by kernel_rfl) (by decide))) (gstep_val (q_move rfl (show a.eval (.tmp 0) = .pointer (some ⟨p, 0, none⟩) from hA.other 0 (by decide))) rfl)
                | 12, _ =>
                  obtain rfl := Option.some.inj ho
                  exact gg_yes (b := false) rfl (hA.fact 10 (hA.dep 10 (by kernel_rfl) (by decide))) (gstep_val (q_nil rfl (hA.fact 11 (hA.dep 11 (by kernel_rfl) (by decide)))) rfl)
                | 13, _ =>
                  obtain rfl := Option.some.inj ho
                  exact gg_yes (b := false) rfl (hA.fact 10 (hA.dep 10 (by kernel_rfl) (by decide))) (gstep_val (g_fa_millraceref_Fifo_3 rfl (hA.fact 12 (hA.dep 12 (by kernel_rfl) (by decide)))) rfl)
                | 14, _ =>
                  obtain rfl := Option.some.inj ho
                  exact gg_yes (b := false) rfl (hA.fact 10 (hA.dep 10 (by kernel_rfl) (by decide))) (gstep_val (g_loadS___millraceref_Pack rfl (hA.fact 13 (hA.dep 13 (by kernel_rfl) (by decide))) (hgr.cell HK.out.l.c)) rfl)
                | 15, _ =>
                  obtain rfl := Option.some.inj ho
                  exact gg_yes (b := false) rfl (hA.fact 10 (hA.dep 10 (by kernel_rfl) (by decide))) (gstep_call (g_call_millrace_millraceref_Bytes rfl rfl (hA.fact 14 (hA.dep 14 (by kernel_rfl) (by decide)))) ((rbytes_any _ kept w1 (HK.out.l.row.gr hgr) (by have := HLK.out.2.1; omega) HLK.out.1).mono (fun e w' ⟨h1, h2⟩ => ⟨_, h1, h2, rfl⟩)))
                | 16, _ =>
                  obtain rfl := Option.some.inj ho
                  exact gg_yes (b := false) rfl (hA.fact 10 (hA.dep 10 (by kernel_rfl) (by decide))) (gstep_val (q_move rfl (show a.eval (.tmp 0) = .pointer (some ⟨p, 0, none⟩) from hA.other 0 (by decide))) rfl)
                | 17, _ =>
                  obtain rfl := Option.some.inj ho
                  exact gg_yes (b := false) rfl (hA.fact 10 (hA.dep 10 (by kernel_rfl) (by decide))) (gstep_val (q_nil rfl (hA.fact 16 (hA.dep 16 (by kernel_rfl) (by decide)))) rfl)
                | 18, _ =>
                  obtain rfl := Option.some.inj ho
                  exact gg_yes (b := false) rfl (hA.fact 10 (hA.dep 10 (by kernel_rfl) (by decide))) (gstep_val (g_fa_millraceref_Fifo_1 rfl (hA.fact 17 (hA.dep 17 (by kernel_rfl) (by decide)))) rfl)
                | 19, _ =>
                  obtain rfl := Option.some.inj ho
                  exact gg_yes (b := false) rfl (hA.fact 10 (hA.dep 10 (by kernel_rfl) (by decide))) (gstep_val (q_loadI rfl (hA.fact 18 (hA.dep 18 (by kernel_rfl) (by decide))) (hgr.cell HK.out.c1)) rfl)
                | 20, _ =>
                  obtain rfl := Option.some.inj ho
                  exact gg_yes (b := false) rfl (hA.fact 10 (hA.dep 10 (by kernel_rfl) (by decide))) (gstep_val (g_gtr rfl (hA.fact 15 (hA.dep 15 (by kernel_rfl) (by decide))) (hA.fact 19 (hA.dep 19 (by kernel_rfl) (by decide))) (C2.out)) rfl)
                | k + 21, hk => exact absurd (show k + 21 < 21 from hk) (by omega)
              · intro vs w5 hg5 hv
                have HGX := Lib.hid ((Gr.refl wr).drew.trans hg5)
                have v32 : vs 10 = .bool false := hv 10 (by omega)
                have v42 : vs 20 = .bool true := hv 20 (by omega)
                clear hv hg5
                simp only [putN, List.drop_succ_cons, List.drop_zero, List.getElem?_cons_succ, List.getElem?_cons_zero]
                generalize vs 10 = z32 at *
                subst v32
                generalize vs 20 = z42 at *
                subst v42
                generalize vs 0 = z22 at *
                generalize vs 1 = z23 at *
                generalize vs 2 = z24 at *
                generalize vs 3 = z25 at *
                generalize vs 4 = z26 at *
                generalize vs 5 = z27 at *
                generalize vs 6 = z28 at *
                generalize vs 7 = z29 at *
                generalize vs 8 = z30 at *
                generalize vs 9 = z31 at *
                generalize vs 11 = z33 at *
                generalize vs 12 = z34 at *
                generalize vs 13 = z35 at *
                generalize vs 14 = z36 at *
                generalize vs 15 = z37 at *
                generalize vs 16 = z38 at *
                generalize vs 17 = z39 at *
                generalize vs 18 = z40 at *
                generalize vs 19 = z41 at *
                go_wp2
                go_meet
                exact ⟨by simp [HB.out], HGX.out⟩
            · have C2 := Lib.hid (decide_eq_false c2)
              have HB := Lib.hid (decide_eq_false (show ¬ Full P R (kept) from fun h => h.elim (fun h => c1 (by first | exact h | (simp at h; omega))) (fun h => c2 (by first | exact h | (rw [sumLen_one] at h; exact h)))))
              clear c1 c2
              refine wp_region_gg (n := 21) [Fg.eq (.pointer (some ⟨p, 0, none⟩)), Fg.eq (.pointer (some ⟨p, 0, none⟩)), Fg.eq (.pointer (some ⟨p, 3, none⟩)), Fg.eq (.slice ka kept.length kc), Fg.eq (.int .i64 (kept.length : Int)), Fg.eq (.pointer (some ⟨p, 0, none⟩)), Fg.eq (.pointer (some ⟨p, 0, none⟩)), Fg.eq (.pointer (some ⟨p, 0, none⟩)), Fg.eq (.int .i64 P), Fg.eq (.bool false), Fg.eq (.bool false), Fg.eq (.pointer (some ⟨p, 0, none⟩)), Fg.eq (.pointer (some ⟨p, 0, none⟩)), Fg.eq (.pointer (some ⟨p, 3, none⟩)), Fg.eq (.slice ka kept.length kc), Fg.eq ((.int .i64 (sumLen kept))), Fg.eq (.pointer (some ⟨p, 0, none⟩)), Fg.eq (.pointer (some ⟨p, 0, none⟩)), Fg.eq (.pointer (some ⟨p, 1, none⟩)), Fg.eq (.int .i64 R), Fg.eq (.bool false)] [22, 23, 24, 25, 26, 27, 28, 29, 30, 31, 32, 33, 34, 35, 36, 37, 38, 39, 40, 41, 42] (by kernel_rfl) (by kernel_rfl) (by kernel_rfl) ?_ ?_
              · intro L i o' a w1 hi ho hA
                have hgr : Gr wr w1 := (Gr.refl wr).drew.trans hA.gr
                match i, hi with
                | 0, _ =>
                  obtain rfl := Option.some.inj ho
                  exact gg_plain rfl (gstep_val (q_move rfl (show a.eval (.tmp 0) = .pointer (some ⟨p, 0, none⟩) from hA.other 0 (by decide))) rfl)
                | 1, _ =>
                  obtain rfl := Option.some.inj ho
                  exact gg_plain rfl (gstep_val (q_nil rfl (hA.fact 0 (hA.dep 0 (by kernel_rfl) (by decide)))) rfl)
                | 2, _ =>
                  obtain rfl := Option.some.inj ho
                  exact gg_plain rfl (gstep_val (g_fa_millraceref_Fifo_3 rfl (hA.fact 1 (hA.dep 1 (by kernel_rfl) (by decide)))) rfl)
                | 3, _ =>
                  obtain rfl := Option.some.inj ho
                  exact gg_plain rfl (gstep_val (g_loadS___millraceref_Pack rfl (hA.fact 2 (hA.dep 2 (by kernel_rfl) (by decide))) (hgr.cell HK.out.l.c)) rfl)
                | 4, _ =>
                  obtain rfl := Option.some.inj ho
                  exact gg_plain rfl (gstep_val (g_len___millraceref_Pack rfl (hA.fact 3 (hA.dep 3 (by kernel_rfl) (by decide)))) rfl)
                | 5, _ =>
                  obtain rfl := Option.some.inj ho
                  exact gg_plain rfl (gstep_val (q_move rfl (show a.eval (.tmp 0) = .pointer (some ⟨p, 0, none⟩) from hA.other 0 (by decide))) rfl)
                | 6, _ =>
                  obtain rfl := Option.some.inj ho
                  exact gg_plain rfl (gstep_val (q_nil rfl (hA.fact 5 (hA.dep 5 (by kernel_rfl) (by decide)))) rfl)
                | 7, _ =>
                  obtain rfl := Option.some.inj ho
                  exact gg_plain rfl (gstep_val (g_fa_millraceref_Fifo_0 rfl (hA.fact 6 (hA.dep 6 (by kernel_rfl) (by decide)))) rfl)
                | 8, _ =>
                  obtain rfl := Option.some.inj ho
                  exact gg_plain rfl (gstep_val (q_loadI rfl (hA.fact 7 (hA.dep 7 (by kernel_rfl) (by decide))) (hgr.cell HK.out.c0)) rfl)
                | 9, _ =>
                  obtain rfl := Option.some.inj ho
                  exact gg_plain rfl (gstep_val (g_gtr rfl (hA.fact 4 (hA.dep 4 (by kernel_rfl) (by decide))) (hA.fact 8 (hA.dep 8 (by kernel_rfl) (by decide))) (C1.out)) rfl)
                | 10, _ =>
                  obtain rfl := Option.some.inj ho
                  exact gg_plain rfl (gstep_val (q_move rfl (hA.fact 9 (hA.dep 9 (by kernel_rfl) (by decide)))) rfl)
                | 11, _ =>
                  obtain rfl := Option.some.inj ho
                  exact gg_yes (b := false) rfl (hA.fact 10 (hA.dep 10 (by kernel_rfl) (by decide))) (gstep_val (q_move rfl (show a.eval (.tmp 0) = .pointer (some ⟨p, 0, none⟩) from hA.other 0 (by decide))) rfl)
                | 12, _ =>
                  obtain rfl := Option.some.inj ho
                  exact gg_yes (b := false) rfl (hA.fact 10 (hA.dep 10 (by kernel_rfl) (by decide))) (gstep_val (q_nil rfl (hA.fact 11 (hA.dep 11 (by kernel_rfl) (by decide)))) rfl)
                | 13, _ =>
                  obtain rfl := Option.some.inj ho
                  exact gg_yes (b := false) rfl (hA.fact 10 (hA.dep 10 (by kernel_rfl) (by decide))) (gstep_val (g_fa_millraceref_Fifo_3 rfl (hA.fact 12 (hA.dep 12 (by kernel_rfl) (by decide)))) rfl)
                | 14, _ =>
                  obtain rfl := Option.some.inj ho
                  exact gg_yes (b := false) rfl (hA.fact 10 (hA.dep 10 (by kernel_rfl) (by decide))) (gstep_val (g_loadS___millraceref_Pack rfl (hA.fact 13 (hA.dep 13 (by kernel_rfl) (by decide))) (hgr.cell HK.out.l.c)) rfl)
                | 15, _ =>
                  obtain rfl := Option.some.inj ho
                  exact gg_yes (b := false) rfl (hA.fact 10 (hA.dep 10 (by kernel_rfl) (by decide))) (gstep_call (g_call_millrace_millraceref_Bytes rfl rfl (hA.fact 14 (hA.dep 14 (by kernel_rfl) (by decide)))) ((rbytes_any _ kept w1 (HK.out.l.row.gr hgr) (by have := HLK.out.2.1; omega) HLK.out.1).mono (fun e w' ⟨h1, h2⟩ => ⟨_, h1, h2, rfl⟩)))
                | 16, _ =>
                  obtain rfl := Option.some.inj ho
                  exact gg_yes (b := false) rfl (hA.fact 10 (hA.dep 10 (by kernel_rfl) (by decide))) (gstep_val (q_move rfl (show a.eval (.tmp 0) = .pointer (some ⟨p, 0, none⟩) from hA.other 0 (by decide))) rfl)
                | 17, _ =>
                  obtain rfl := Option.some.inj ho
                  exact gg_yes (b := false) rfl (hA.fact 10 (hA.dep 10 (by kernel_rfl) (by decide))) (gstep_val (q_nil rfl (hA.fact 16 (hA.dep 16 (by kernel_rfl) (by decide)))) rfl)
                | 18, _ =>
                  obtain rfl := Option.some.inj ho
                  exact gg_yes (b := false) rfl (hA.fact 10 (hA.dep 10 (by kernel_rfl) (by decide))) (gstep_val (g_fa_millraceref_Fifo_1 rfl (hA.fact 17 (hA.dep 17 (by kernel_rfl) (by decide)))) rfl)
                | 19, _ =>
                  obtain rfl := Option.some.inj ho
                  exact gg_yes (b := false) rfl (hA.fact 10 (hA.dep 10 (by kernel_rfl) (by decide))) (gstep_val (q_loadI rfl (hA.fact 18 (hA.dep 18 (by kernel_rfl) (by decide))) (hgr.cell HK.out.c1)) rfl)
                | 20, _ =>
                  obtain rfl := Option.some.inj ho
                  exact gg_yes (b := false) rfl (hA.fact 10 (hA.dep 10 (by kernel_rfl) (by decide))) (gstep_val (g_gtr rfl (hA.fact 15 (hA.dep 15 (by kernel_rfl) (by decide))) (hA.fact 19 (hA.dep 19 (by kernel_rfl) (by decide))) (C2.out)) rfl)
                | k + 21, hk => exact absurd (show k + 21 < 21 from hk) (by omega)
              · intro vs w5 hg5 hv
                have HGX := Lib.hid ((Gr.refl wr).drew.trans hg5)
                have v32 : vs 10 = .bool false := hv 10 (by omega)
                have v42 : vs 20 = .bool false := hv 20 (by omega)
                clear hv hg5
                simp only [putN, List.drop_succ_cons, List.drop_zero, List.getElem?_cons_succ, List.getElem?_cons_zero]
                generalize vs 10 = z32 at *
                subst v32
                generalize vs 20 = z42 at *
                subst v42
                generalize vs 0 = z22 at *
                generalize vs 1 = z23 at *
                generalize vs 2 = z24 at *
                generalize vs 3 = z25 at *
                generalize vs 4 = z26 at *
                generalize vs 5 = z27 at *
                generalize vs 6 = z28 at *
                generalize vs 7 = z29 at *
                generalize vs 8 = z30 at *
                generalize vs 9 = z31 at *
                generalize vs 11 = z33 at *
                generalize vs 12 = z34 at *
                generalize vs 13 = z35 at *
                generalize vs 14 = z36 at *
                generalize vs 15 = z37 at *
                generalize vs 16 = z38 at *
                generalize vs 17 = z39 at *
                generalize vs 18 = z40 at *
                generalize vs 19 = z41 at *
                go_wp2
                go_meet
                exact ⟨by simp [HB.out], HGX.out⟩
        case rest =>
          obtain ⟨rfl, hg⟩ := hcut
          have HFC := Lib.hid (HW.out.2.1.gr hg)
          have HDC := Lib.hid (HW.out.2.2.1.gr HPL.out hg)
          have HRC := Lib.hid (HW.out.1.gr hg)
          have HOC := Lib.hid HW.out.2.2.2
          clear hg HK HW
          by_cases hf : Full P R kept
          · rw [decide_eq_true hf]
            cases kept with
            | nil => exact absurd hf (not_full_nil HP.out.1 HR.out.1)
            | cons y rest =>
              have HFF := Lib.hid hf
              clear hf
              have HLR := Lib.hid (show rest.length ≤ 901 from by have := HLK.out.2.1; simp at this; omega)
              obtain ⟨ka2, kc2, he2, hcp, _, h3⟩ := HFC.out.l.row.any
              obtain ⟨kb, ko, hka, h4⟩ := h3.out (by simp)
              injection he2 with he3 he4 he5
              obtain rfl : ka = some ⟨kb, ko, none⟩ := he3.trans hka
              rw [← he5] at hcp
              have hy := h4 0 (by simp)
              rw [Nat.zero_mul, Nat.add_zero] at hy
              obtain ⟨y0, y1, y2, y3, y4, y5⟩ : HelAt wc kb ko y := hy
              clear h3 h4 he3 he4 he5 hka
              have c3 := HFC.out.l.c
              rw [List.length_cons] at *
              go_upto_region 6 with (at_builtin; refine wpList_append_rowH rfl _ _ _ (by rfl) i0 Hel.zero.val Tryz.underlying44 hi0 hz0 hz1 hz2 rfl ?c1 (by rfl) (HRC.out.gr ((Gr.refl _).alloc _)) ⟨wc.heap.size, 0, none⟩ 1 [y] (by rfl) (by simp) ?c3 ?c2 ?_; (case c1 => (intro u hu; exact (cells_int Hel.zero u (by simpa [Hel.val, Value.cells, Hel.cells] using hu)).2)); (case c3 => (rw [flat_one]; exact (held_new wc y rfl).news)); (case c2 => (have := HLK.out.2.2; simp; omega)); intro v5 w5 hrow hgr hown hold; have HR5 := Lib.hid hrow; have HG5 := Lib.hid hgr; have HO5 := Lib.hid hown; clear hrow hgr hown hold)
              have hsv : Sav (fun q => u7.ownBlock = some q) wc w5 := (Sav.of_gr (B := fun q => u7.ownBlock = some q) ((Gr.refl wc).alloc _)).then (.of_grown HG5.out fun _ h => h)
              have HD5 := Lib.hid (HDC.out.more hsv (fun q e => HOC.out q e) HPL.out)
              have HF5 := Lib.hid (HFC.out.sav hsv (fun e => by have := (HOC.out p e).1; have := HPL.out; omega) (fun g hg e => (HOC.out g e).2 hg))
              have HW5 := Lib.hid (show w.heap.size ≤ w5.heap.size from HD5.out.sav.sav.size)
              have HS5 := Lib.hid hsv.size
              have HN5 := Lib.hid (show ∀ g, v5.ownBlock = some g → w.heap.size ≤ g ∧ g < w5.heap.size from fun g hg => ⟨(HO5.out g hg).elim (fun h1 => (HOC.out g h1).1) (fun h1 => by have h2 := HDC.out.sav.sav.size; simp at h1; omega), HR5.out.lt hg⟩)
              clear hsv y0 y1 y2 y3 y4 y5 c3
              have e3 := HF5.out.l.c
              have ef := HF5.out.l.f
              have pl : p < w5.heap.size := cell_lt e3
              have HTL := Lib.hid (fun u (g : Gr w5 u) => HF5.out.l.row.gr g)
              have HAP := Lib.hid (fun (w9 : World) (v9 : Value) (hg : Gr w5 w9) (hr : RowH 95 w9 v9 rest) (ho : ∀ g, v9.ownBlock = some g → w5.heap.size ≤ g) => RDid.app HF5.out.l.c HF5.out.l.f (.of_gr hg) hr (fun g hg => .inr (ho g hg)) HF5.out.l.ne HF5.out.l.lt)
              by_cases hk1 : kc - 1 = 0
              · cases rest with
                | cons z r => exfalso; simp at hcp; omega
                | nil =>
                  simp only [List.length_nil, Nat.zero_add] at *
                  go_wp2
                  rw [← World.setCell_alloc_past _ _ _ _ pl]
                  have HG4 := Lib.hid (show Gr w5 (w5.alloc (.cells #[] 95)) from (Gr.refl _).alloc _)
                  have HR4 := Lib.hid (RowH.empty (E := 95) (w := w5) rfl)
                  have HO4 := Lib.hid (show ∀ g, (Value.slice (some ⟨w5.heap.size, 0, none⟩) 0 0).ownBlock = some g → w5.heap.size ≤ g from fun g hg => by simp [Value.ownBlock] at hg; omega)
                  have HDR := Lib.hid (HAP.out _ _ HG4.out HR4.out HO4.out)
                  go_roundg 0
                  case measure => simp
                  case rel =>
                    refine ⟨los ++ [y], [], _, Lib.hid (by rw [← HEQ.out]; simp), rfl, Lib.hid (by rw [HSH.out, shed_full HFF.out]; simp), Lib.hid ⟨(HR5.out.gr HG4.out).sav (.set p 3 _) (fun g hg e => by have h1 := (HN5.out g hg).1; have h2 := HPL.out; omega), HF5.out.then HDR.out, HD5.out.then HDR.out, fun g hg => ⟨(HN5.out g hg).1, fun e => by have h1 := HO4.out g e; have h2 := (HN5.out g hg).2; omega⟩⟩⟩
              · have HT2 := Lib.hid (fun u (g : Gr w5 u) => RowH.tail (x := y) (xs := rest) (HTL.out u g))
                go_wp2_with (at_builtin; refine wpList_append_tail rfl _ _ _ (by rfl) i0 Hel.zero.val Tryz.underlying44 hi0 hz0 hz1 hz2 rfl ?c1 w5.heap.size 0 (by rfl) (RowH.empty rfl) _ _ rest (by rfl) ?c3 ?c2 ?_; (case c1 => (intro u hu; exact (cells_int Hel.zero u (by simpa [Hel.val, Value.cells, Hel.cells] using hu)).2)); (case c3 => (exact (HT2.out _ ((Gr.refl _).alloc _)).all)); (case c2 => (have := HLR.out; omega)); intro v4 w4 hrow hgr hown; have HR4 := Lib.hid hrow; have HG4 := Lib.hid (show Gr w5 w4 from ((Gr.refl _).alloc _).grown hgr (fun k hk => by cases hk; exact Nat.le_refl _)); have HO4 := Lib.hid (show ∀ g, v4.ownBlock = some g → w5.heap.size ≤ g from fun g hg => (hown g hg).elim (fun h1 => by cases h1; exact Nat.le_refl _) (fun h1 => by simp at h1; omega)); obtain ⟨ta, tc, rfl⟩ := hrow.shape; have k3 := HG4.out.cell e3; have kf := (HG4.out.frozen (p := ⟨p, 3, none⟩) (cell_lt e3)).trans ef; clear hrow hgr hown)
                have HDR := Lib.hid (HAP.out _ _ HG4.out HR4.out HO4.out)
                go_roundg rest.length
                case measure => simp
                case rel =>
                  refine ⟨los ++ [y], rest, _, Lib.hid (by rw [← HEQ.out]; simp), rfl, Lib.hid (by rw [HSH.out, shed_full HFF.out]; simp), Lib.hid ⟨(HR5.out.gr HG4.out).sav (.set p 3 _) (fun g hg e => by have h1 := (HN5.out g hg).1; have h2 := HPL.out; omega), HF5.out.then HDR.out, HD5.out.then HDR.out, fun g hg => ⟨(HN5.out g hg).1, fun e => by have h1 := HO4.out g e; have h2 := (HN5.out g hg).2; omega⟩⟩⟩
          · rw [decide_eq_false hf]
            have HFF := Lib.hid hf
            clear hf
            go_wp2
            go_ret
            rw [fifo_head, HSH.out, shed_fits HFF.out]
            exact ⟨_, _, rfl, by simpa using HRC.out, HDC.out⟩
end Go.Proofs.YtgifghbnpdanhaaGreatDoor

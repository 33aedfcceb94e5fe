/-
  The program's Fifo. (Printed by genfifo.py.)
-/
import Derived.Test.YtgifghbnpdanhaaGreatDoorShaperPlaysPart11
import Derived.Test.YtgifghbnpdanhaaGreatDoorRegG
import Derived.BigGuardPart
import Derived.BigRegion
import Derived.Deep.RegionWith
import Derived.Deep.DeepCutAuto
import Derived.Deep.CutBlock
import Derived.Deep.LoopGhost
namespace Go.Proofs.YtgifghbnpdanhaaGreatDoor
open Go.RowKit Go.Extern.Stop Go.Stop Go.Extern

theorem llen_g (p o : Nat) (v : Value) (xs : List Hel) (w : World) (h : LstAt w p o v xs) : Calls Tryz.prog 82 #[.pointer (some ⟨p, o, none⟩)] w fun e w' => e = .returned (.int .i64 (xs.length : Int)) ∧ Gr w w' :=
  (llen_any p o v xs w h).mono fun _ _ ⟨h1, h2⟩ => ⟨h1, h2 ▸ Gr.refl _⟩
theorem lbytes_g (p o : Nat) (v : Value) (xs : List Hel) (w : World) (h : LstAt w p o v xs) : Calls Tryz.prog 81 #[.pointer (some ⟨p, o, none⟩)] w fun e w' => e = .returned (.int .i64 (sumLen xs)) ∧ Gr w w' :=
  (lbytes_any p o v xs w h).mono fun _ _ ⟨h1, h2⟩ => ⟨h1, h2 ▸ Gr.refl _⟩
/-- A Fifo of the program's at p (its first cells: it may lie in a greater record). -/
structure FifoAt (w : World) (p : Nat) (v : Value) (l : List Hel) (P R : Int) (head : Bool) : Prop where
  l : LstAt w p 0 v l
  c2 : w.cell? ⟨p, 2, none⟩ = some (.int .i64 P)
  c3 : w.cell? ⟨p, 3, none⟩ = some (.int .i64 R)
  c4 : w.cell? ⟨p, 4, none⟩ = some (.bool head)
section
variable {w w' : World} {p : Nat} {v v' : Value} {l l' : List Hel} {P R : Int} {head : Bool} {B : Nat → Prop}
theorem FifoAt.gr (h : FifoAt w p v l P R head) (g : Gr w w') : FifoAt w' p v l P R head := ⟨h.l.gr g, g.cell h.c2, g.cell h.c3, g.cell h.c4⟩
theorem FifoAt.sav (h : FifoAt w p v l P R head) (k : Sav B w w') (hp : ¬ B p) (hv : ∀ g, v.ownBlock = some g → ¬ B g) : FifoAt w' p v l P R head := ⟨h.l.sav k hp hv, k.cell h.c2 hp, k.cell h.c3 hp, k.cell h.c4 hp⟩
theorem FifoAt.then (h : FifoAt w p v l P R head) (k : LSav p 0 v w w') (hl : LstAt w' p 0 v' l') : FifoAt w' p v' l' P R head :=
  ⟨hl, (k.cell 2 (by decide) (by decide)).trans h.c2, (k.cell 3 (by decide) (by decide)).trans h.c3, (k.cell 4 (by decide) (by decide)).trans h.c4⟩
end
section
variable {ev : Operand → Value} {o : Oper} {w : World} {x y z : Operand} {u : Value}
theorem g_fa_queue_Fifo_0 {p o' : Nat} (ho : o.op = .fieldAddr 76 x 0) (h : ev x = .pointer (some ⟨p, o', none⟩)) : (execOp ev o).run Tryz.prog w = .ok (.value (.pointer (some ⟨p, o', none⟩))) w := by
  simp [execOp, ho, h, go_sem]
theorem g_call___millrace_queue_List__Len {x0 : Operand} {v0 : Value} (ho : o.op = .call { callee := .value (.func 82), args := #[x0], argTypes := #[74] }) (hf : ev (.func 82) = .func (.func 82) #[] #[]) (h0 : ev x0 = v0) : (execOp ev o).run Tryz.prog w = .ok (.enter 82 #[v0]) w := by
  simp [execOp, ho, hf, h0, resolve, invoke, go_sem]
theorem g_fa_queue_Fifo_1 {p o' : Nat} (ho : o.op = .fieldAddr 76 x 1) (h : ev x = .pointer (some ⟨p, o', none⟩)) : (execOp ev o).run Tryz.prog w = .ok (.value (.pointer (some ⟨p, o' + 2, none⟩))) w := by
  simp [execOp, ho, h, go_sem]
theorem g_geq {m n : Int} {b : Bool} (ho : o.op = .binOp .geq 3 x y 3) (h : ev x = .int .i64 m) (k : ev y = .int .i64 n) (hb : decide (n ≤ m) = b) : (execOp ev o).run Tryz.prog w = .ok (.value (.bool b)) w := by
  subst hb
  simp [execOp, ho, h, k, go_sem]
theorem g_call___millrace_queue_List__Bytes {x0 : Operand} {v0 : Value} (ho : o.op = .call { callee := .value (.func 81), args := #[x0], argTypes := #[74] }) (hf : ev (.func 81) = .func (.func 81) #[] #[]) (h0 : ev x0 = v0) : (execOp ev o).run Tryz.prog w = .ok (.enter 81 #[v0]) w := by
  simp [execOp, ho, hf, h0, resolve, invoke, go_sem]
theorem g_fa_queue_Held_0 {p o' : Nat} (ho : o.op = .fieldAddr 134 x 0) (h : ev x = .pointer (some ⟨p, o', none⟩)) : (execOp ev o).run Tryz.prog w = .ok (.value (.pointer (some ⟨p, o', none⟩))) w := by
  simp [execOp, ho, h, go_sem]
theorem g_fa_api_Item_1 {p o' : Nat} (ho : o.op = .fieldAddr 90 x 1) (h : ev x = .pointer (some ⟨p, o', none⟩)) : (execOp ev o).run Tryz.prog w = .ok (.value (.pointer (some ⟨p, o' + 1, none⟩))) w := by
  simp [execOp, ho, h, go_sem]
theorem g_add {m n r : Int} (ho : o.op = .binOp .add 3 x y 3) (h : ev x = .int .i64 m) (k : ev y = .int .i64 n) (hb : IntKind.i64.wrap (m + n) = r) : (execOp ev o).run Tryz.prog w = .ok (.value (.int .i64 r)) w := by
  subst hb
  simp [execOp, ho, h, k, go_sem]
theorem g_fa_queue_Fifo_2 {p o' : Nat} (ho : o.op = .fieldAddr 76 x 2) (h : ev x = .pointer (some ⟨p, o', none⟩)) : (execOp ev o).run Tryz.prog w = .ok (.value (.pointer (some ⟨p, o' + 3, none⟩))) w := by
  simp [execOp, ho, h, go_sem]
theorem g_gtr {m n : Int} {b : Bool} (ho : o.op = .binOp .gtr 3 x y 3) (h : ev x = .int .i64 m) (k : ev y = .int .i64 n) (hb : decide (n < m) = b) : (execOp ev o).run Tryz.prog w = .ok (.value (.bool b)) w := by
  subst hb
  simp [execOp, ho, h, k, go_sem]
end

/-- What a method of the Fifo's leaves. -/
structure FifoDid (w w' : World) (p : Nat) (v v' : Value) (l' : List Hel) (P R : Int) (head : Bool) : Prop where
  at_ : FifoAt w' p v' l' P R head
  sav : LSav p 0 v w w'
  own : ∀ g, v'.ownBlock = some g → v.ownBlock = some g ∨ w.heap.size ≤ g
theorem FifoDid.gr {w w' w'' : World} {p : Nat} {v v' : Value} {l' : List Hel} {P R : Int} {head : Bool} (h : FifoDid w w' p v v' l' P R head) (hp : p < w.heap.size) (g : Gr w' w'') : FifoDid w w'' p v v' l' P R head :=
  ⟨h.at_.gr g, h.sav.more (B' := fun _ => False) (.of_gr g) (fun _ h => h.elim) hp, h.own⟩
set_option maxRecDepth 100000 in
set_option maxHeartbeats 40000000 in
theorem fput_any (p : Nat) (v : Value) (l : List Hel) (P R : Int) (head : Bool) (now : Int) (x : Hel) (w : World) (h : FifoAt w p v l P R head) (hP : 0 ≤ P ∧ P ≤ 1000000) (hR : 0 ≤ R ∧ R ≤ 1000000) (hn : l.length ≤ 900) (hl : Lens l) (hx : 0 ≤ x.len ∧ x.len ≤ 10000) :
    Calls Tryz.prog 83 #[.pointer (some ⟨p, 0, none⟩), .int .i64 now, x.val] w fun e w' => ∃ r v', e = .returned r ∧ RowH 134 w' r ((fifo P R head).put l now x).2 ∧ FifoDid w w' p v v' ((fifo P R head).put l now x).1 P R head := by
  have HF := Lib.hid h
  have HP := Lib.hid hP
  have HR := Lib.hid hR
  have HNL := Lib.hid hn
  have HLL := Lib.hid hl
  have HXX := Lib.hid hx
  have HSM := Lib.hid (hl.sum (by omega))
  have c4 := h.c4
  obtain ⟨ba, cap, rfl⟩ := h.l.shape
  have HPL := Lib.hid h.l.lt
  clear h hP hR hn hl hx
  unfold Hel.val
  go_enter Tryz.func83, Tryz.ntmps83
  go_upto_region 1 with fail
  obtain ⟨w0, hw0⟩ : ∃ w0, w0 = w.alloc (.cells #[.int .i64 x.t, .int .i64 x.len, .int .i64 x.flow, .int .i64 x.band, .int .i64 x.mark, .int .i64 x.n] 134) := ⟨_, rfl⟩
  obtain ⟨xb, hxb⟩ : ∃ xb, xb = w.heap.size := ⟨_, rfl⟩
  have HX0 : Hid (HelAt w0 xb 0 x ∧ xb = w.heap.size) := Lib.hid (by rw [hw0]; exact ⟨held_new w x hxb, hxb⟩)
  have HF0 : Hid (FifoAt w0 p (.slice ba l.length cap) l P R head) := Lib.hid (by rw [hw0]; exact HF.out.gr ((Gr.refl _).alloc _))
  have HG0 : Hid (Gr w w0) := Lib.hid (by rw [hw0]; exact (Gr.refl _).alloc _)
  rw [← hw0, ← hxb]
  clear hw0 hxb c4 HF
  have c4 := HF0.out.c4
  cases head with
  | false =>
    go_upto_region 2 with fail
    have CA := Lib.hid (show IntKind.i64.wrap (sumLen l + x.len) = sumLen l + x.len from by have := HSM.out; have := HXX.out; rw [IntKind.wrap_i64]; omega)
    go_cut [38] (fun s38 wx => s38 = .bool (decide (Full P R (l ++ [x]))) ∧ Gr w0 wx)
    case first =>
      by_cases c1 : P ≤ (l.length : Int)
      · have C1 := Lib.hid (decide_eq_true c1)
        have C2 : Hid True := trivial
        have HB := Lib.hid (decide_eq_true (show Full P R (l ++ [x]) from .inl (by first | exact c1 | (simp; omega))))
        clear c1
        refine wp_region_gg (n := 23) [Fg.eq (.pointer (some ⟨p, 0, none⟩)), Fg.eq (.pointer (some ⟨p, 0, none⟩)), Fg.eq (.pointer (some ⟨p, 0, none⟩)), Fg.eq ((.int .i64 (l.length : Int))), Fg.eq (.pointer (some ⟨p, 0, none⟩)), Fg.eq (.pointer (some ⟨p, 0, none⟩)), Fg.eq (.pointer (some ⟨p, 2, none⟩)), Fg.eq (.int .i64 P), Fg.eq (.bool true), Fg.eq (.bool true), Fg.eq undef, Fg.eq undef, Fg.eq undef, Fg.eq undef, Fg.eq undef, Fg.eq undef, Fg.eq undef, Fg.eq undef, Fg.eq undef, Fg.eq undef, Fg.eq undef, Fg.eq undef, Fg.eq undef] [15, 16, 17, 18, 19, 20, 21, 22, 23, 24, 25, 26, 27, 28, 29, 30, 31, 32, 33, 34, 35, 36, 37] (by kernel_rfl) (by kernel_rfl) (by kernel_rfl) ?_ ?_
        · intro L i o' a w1 hi ho hA
          have hgr : Gr w0 w1 := (Gr.refl w0).drew.trans hA.gr
          match i, hi with
          | 0, _ =>
            obtain rfl := Option.some.inj ho
            exact gg_plain rfl (gstep_val (q_move rfl (show a.eval (.tmp 0) = .pointer (some ⟨p, 0, none⟩) from hA.other 0 (by decide))) rfl)
          | 1, _ =>
            obtain rfl := Option.some.inj ho
            exact gg_plain rfl (gstep_val (q_nil rfl (hA.fact 0 (hA.dep 0 (by kernel_rfl) (by decide)))) rfl)
          | 2, _ =>
            obtain rfl := Option.some.inj ho
            exact gg_plain rfl (gstep_val (g_fa_queue_Fifo_0 rfl (hA.fact 1 (hA.dep 1 (by kernel_rfl) (by decide)))) rfl)
          | 3, _ =>
            obtain rfl := Option.some.inj ho
            exact gg_plain rfl (gstep_call (g_call___millrace_queue_List__Len rfl rfl (hA.fact 2 (hA.dep 2 (by kernel_rfl) (by decide)))) ((llen_g p 0 _ l w1 (HF0.out.l.gr hgr)).mono (fun e w' ⟨h1, h2⟩ => ⟨_, h1, h2, rfl⟩)))
          | 4, _ =>
            obtain rfl := Option.some.inj ho
            exact gg_plain rfl (gstep_val (q_move rfl (show a.eval (.tmp 0) = .pointer (some ⟨p, 0, none⟩) from hA.other 0 (by decide))) rfl)
          | 5, _ =>
            obtain rfl := Option.some.inj ho
            exact gg_plain rfl (gstep_val (q_nil rfl (hA.fact 4 (hA.dep 4 (by kernel_rfl) (by decide)))) rfl)
          | 6, _ =>
            obtain rfl := Option.some.inj ho
            exact gg_plain rfl (gstep_val (g_fa_queue_Fifo_1 rfl (hA.fact 5 (hA.dep 5 (by kernel_rfl) (by decide)))) rfl)
          | 7, _ =>
            obtain rfl := Option.some.inj ho
            exact gg_plain rfl (gstep_val (q_loadI rfl (hA.fact 6 (hA.dep 6 (by kernel_rfl) (by decide))) (hgr.cell HF0.out.c2)) rfl)
          | 8, _ =>
            obtain rfl := Option.some.inj ho
            exact gg_plain rfl (gstep_val (g_geq rfl (hA.fact 3 (hA.dep 3 (by kernel_rfl) (by decide))) (hA.fact 7 (hA.dep 7 (by kernel_rfl) (by decide))) (C1.out)) rfl)
          | 9, _ =>
            obtain rfl := Option.some.inj ho
            exact gg_plain rfl (gstep_val (q_move rfl (hA.fact 8 (hA.dep 8 (by kernel_rfl) (by decide)))) rfl)
          | 10, _ =>
            obtain rfl := Option.some.inj ho
            exact gg_no (b := false) rfl (hA.fact 9 (hA.dep 9 (by kernel_rfl) (by decide))) rfl
          | 11, _ =>
            obtain rfl := Option.some.inj ho
            exact gg_no (b := false) rfl (hA.fact 9 (hA.dep 9 (by kernel_rfl) (by decide))) rfl
          | 12, _ =>
            obtain rfl := Option.some.inj ho
            exact gg_no (b := false) rfl (hA.fact 9 (hA.dep 9 (by kernel_rfl) (by decide))) rfl
          | 13, _ =>
            obtain rfl := Option.some.inj ho
            exact gg_no (b := false) rfl (hA.fact 9 (hA.dep 9 (by kernel_rfl) (by decide))) rfl
          | 14, _ =>
            obtain rfl := Option.some.inj ho
            exact gg_no (b := false) rfl (hA.fact 9 (hA.dep 9 (by kernel_rfl) (by decide))) rfl
          | 15, _ =>
            obtain rfl := Option.some.inj ho
            exact gg_no (b := false) rfl (hA.fact 9 (hA.dep 9 (by kernel_rfl) (by decide))) rfl
          | 16, _ =>
            obtain rfl := Option.some.inj ho
            exact gg_no (b := false) rfl (hA.fact 9 (hA.dep 9 (by kernel_rfl) (by decide))) rfl
          | 17, _ =>
            obtain rfl := Option.some.inj ho
            exact gg_no (b := false) rfl (hA.fact 9 (hA.dep 9 (by kernel_rfl) (by decide))) rfl
          | 18, _ =>
            obtain rfl := Option.some.inj ho
            exact gg_no (b := false) rfl (hA.fact 9 (hA.dep 9 (by kernel_rfl) (by decide))) rfl
          | 19, _ =>
            obtain rfl := Option.some.inj ho
            exact gg_no (b := false) rfl (hA.fact 9 (hA.dep 9 (by kernel_rfl) (by decide))) rfl
          | 20, _ =>
            obtain rfl := Option.some.inj ho
            exact gg_no (b := false) rfl (hA.fact 9 (hA.dep 9 (by kernel_rfl) (by decide))) rfl
          | 21, _ =>
            obtain rfl := Option.some.inj ho
            exact gg_no (b := false) rfl (hA.fact 9 (hA.dep 9 (by kernel_rfl) (by decide))) rfl
          | 22, _ =>
            obtain rfl := Option.some.inj ho
            exact gg_no (b := false) rfl (hA.fact 9 (hA.dep 9 (by kernel_rfl) (by decide))) rfl
          | k + 23, hk => exact absurd (show k + 23 < 23 from hk) (by omega)
        · intro vs w5 hg5 hv
          have HGX := Lib.hid ((Gr.refl w0).drew.trans hg5)
          have v24 : vs 9 = .bool true := hv 9 (by omega)
          have v37 : vs 22 = undef := hv 22 (by omega)
          clear hv hg5
          simp only [putN, List.drop_succ_cons, List.drop_zero, List.getElem?_cons_succ, List.getElem?_cons_zero]
          generalize vs 9 = z24 at *
          subst v24
          generalize vs 22 = z37 at *
          subst v37
          generalize vs 0 = z15 at *
          generalize vs 1 = z16 at *
          generalize vs 2 = z17 at *
          generalize vs 3 = z18 at *
          generalize vs 4 = z19 at *
          generalize vs 5 = z20 at *
          generalize vs 6 = z21 at *
          generalize vs 7 = z22 at *
          generalize vs 8 = z23 at *
          generalize vs 10 = z25 at *
          generalize vs 11 = z26 at *
          generalize vs 12 = z27 at *
          generalize vs 13 = z28 at *
          generalize vs 14 = z29 at *
          generalize vs 15 = z30 at *
          generalize vs 16 = z31 at *
          generalize vs 17 = z32 at *
          generalize vs 18 = z33 at *
          generalize vs 19 = z34 at *
          generalize vs 20 = z35 at *
          generalize vs 21 = z36 at *
          go_wp2
          go_meet
          exact ⟨by simp [HB.out], HGX.out⟩
      · have C1 := Lib.hid (decide_eq_false c1)
        by_cases c2 : R < sumLen l + x.len
        · have C2 := Lib.hid (decide_eq_true c2)
          have HB := Lib.hid (decide_eq_true (show Full P R (l ++ [x]) from .inr (by first | exact c2 | (rw [sumLen_one]; exact c2))))
          clear c1 c2
          refine wp_region_gg (n := 23) [Fg.eq (.pointer (some ⟨p, 0, none⟩)), Fg.eq (.pointer (some ⟨p, 0, none⟩)), Fg.eq (.pointer (some ⟨p, 0, none⟩)), Fg.eq ((.int .i64 (l.length : Int))), Fg.eq (.pointer (some ⟨p, 0, none⟩)), Fg.eq (.pointer (some ⟨p, 0, none⟩)), Fg.eq (.pointer (some ⟨p, 2, none⟩)), Fg.eq (.int .i64 P), Fg.eq (.bool false), Fg.eq (.bool false), Fg.eq (.pointer (some ⟨p, 0, none⟩)), Fg.eq (.pointer (some ⟨p, 0, none⟩)), Fg.eq (.pointer (some ⟨p, 0, none⟩)), Fg.eq ((.int .i64 (sumLen l))), Fg.eq (.pointer (some ⟨xb, 0, none⟩)), Fg.eq (.pointer (some ⟨xb, 1, none⟩)), Fg.eq (.int .i64 x.len), Fg.eq (.int .i64 (sumLen l + x.len)), Fg.eq (.pointer (some ⟨p, 0, none⟩)), Fg.eq (.pointer (some ⟨p, 0, none⟩)), Fg.eq (.pointer (some ⟨p, 3, none⟩)), Fg.eq (.int .i64 R), Fg.eq (.bool true)] [15, 16, 17, 18, 19, 20, 21, 22, 23, 24, 25, 26, 27, 28, 29, 30, 31, 32, 33, 34, 35, 36, 37] (by kernel_rfl) (by kernel_rfl) (by kernel_rfl) ?_ ?_
          · intro L i o' a w1 hi ho hA
            have hgr : Gr w0 w1 := (Gr.refl w0).drew.trans hA.gr
            match i, hi with
            | 0, _ =>
              obtain rfl := Option.some.inj ho
              exact gg_plain rfl (gstep_val (q_move rfl (show a.eval (.tmp 0) = .pointer (some ⟨p, 0, none⟩) from hA.other 0 (by decide))) rfl)
            | 1, _ =>
              obtain rfl := Option.some.inj ho
              exact gg_plain rfl (gstep_val (q_nil rfl (hA.fact 0 (hA.dep 0 (by kernel_rfl) (by decide)))) rfl)
            | 2, _ =>
              obtain rfl := Option.some.inj ho
              exact gg_plain rfl (gstep_val (g_fa_queue_Fifo_0 rfl (hA.fact 1 (hA.dep 1 (by kernel_rfl) (by decide)))) rfl)
            | 3, _ =>
              obtain rfl := Option.some.inj ho
              exact gg_plain rfl (gstep_call (g_call___millrace_queue_List__Len rfl rfl (hA.fact 2 (hA.dep 2 (by kernel_rfl) (by decide)))) ((llen_g p 0 _ l w1 (HF0.out.l.gr hgr)).mono (fun e w' ⟨h1, h2⟩ => ⟨_, h1, h2, rfl⟩)))
            | 4, _ =>
              obtain rfl := Option.some.inj ho
              exact gg_plain rfl (gstep_val (q_move rfl (show a.eval (.tmp 0) = .pointer (some ⟨p, 0, none⟩) from hA.other 0 (by decide))) rfl)
            | 5, _ =>
              obtain rfl := Option.some.inj ho
              exact gg_plain rfl (gstep_val (q_nil rfl (hA.fact 4 (hA.dep 4 (by kernel_rfl) (by decide)))) rfl)
            | 6, _ =>
              obtain rfl := Option.some.inj ho
              exact gg_plain rfl (gstep_val (g_fa_queue_Fifo_1 rfl (hA.fact 5 (hA.dep 5 (by kernel_rfl) (by decide)))) rfl)
            | 7, _ =>
              obtain rfl := Option.some.inj ho
              exact gg_plain rfl (gstep_val (q_loadI rfl (hA.fact 6 (hA.dep 6 (by kernel_rfl) (by decide))) (hgr.cell HF0.out.c2)) rfl)
            | 8, _ =>
              obtain rfl := Option.some.inj ho
              exact gg_plain rfl (gstep_val (g_geq rfl (hA.fact 3 (hA.dep 3 (by kernel_rfl) (by decide))) (hA.fact 7 (hA.dep 7 (by kernel_rfl) (by decide))) (C1.out)) rfl)
            | 9, _ =>
              obtain rfl := Option.some.inj ho
              exact gg_plain rfl (gstep_val (q_move rfl (hA.fact 8 (hA.dep 8 (by kernel_rfl) (by decide)))) rfl)
            | 10, _ =>
              obtain rfl := Option.some.inj ho
              exact gg_yes (b := false) rfl (hA.fact 9 (hA.dep 9 (by kernel_rfl) (by decide))) (gstep_val (q_move rfl (show a.eval (.tmp 0) = .pointer (some ⟨p, 0, none⟩) from hA.other 0 (by decide))) rfl)
            | 11, _ =>
              obtain rfl := Option.some.inj ho
              exact gg_yes (b := false) rfl (hA.fact 9 (hA.dep 9 (by kernel_rfl) (by decide))) (gstep_val (q_nil rfl (hA.fact 10 (hA.dep 10 (by kernel_rfl) (by decide)))) rfl)
            | 12, _ =>
              obtain rfl := Option.some.inj ho
              exact gg_yes (b := false) rfl (hA.fact 9 (hA.dep 9 (by kernel_rfl) (by decide))) (gstep_val (g_fa_queue_Fifo_0 rfl (hA.fact 11 (hA.dep 11 (by kernel_rfl) (by decide)))) rfl)
            | 13, _ =>
              obtain rfl := Option.some.inj ho
              exact gg_yes (b := false) rfl (hA.fact 9 (hA.dep 9 (by kernel_rfl) (by decide))) (gstep_call (g_call___millrace_queue_List__Bytes rfl rfl (hA.fact 12 (hA.dep 12 (by kernel_rfl) (by decide)))) ((lbytes_g p 0 _ l w1 (HF0.out.l.gr hgr)).mono (fun e w' ⟨h1, h2⟩ => ⟨_, h1, h2, rfl⟩)))
            | 14, _ =>
              obtain rfl := Option.some.inj ho
              exact gg_yes (b := false) rfl (hA.fact 9 (hA.dep 9 (by kernel_rfl) (by decide))) (gstep_val (g_fa_queue_Held_0 rfl (show a.eval (.tmp 5) = .pointer (some ⟨xb, 0, none⟩) from hA.other 5 (by decide))) rfl)
            | 15, _ =>
              obtain rfl := Option.some.inj ho
              exact gg_yes (b := false) rfl (hA.fact 9 (hA.dep 9 (by kernel_rfl) (by decide))) (gstep_val (g_fa_api_Item_1 rfl (hA.fact 14 (hA.dep 14 (by kernel_rfl) (by decide)))) rfl)
            | 16, _ =>
              obtain rfl := Option.some.inj ho
              exact gg_yes (b := false) rfl (hA.fact 9 (hA.dep 9 (by kernel_rfl) (by decide))) (gstep_val (q_loadI rfl (hA.fact 15 (hA.dep 15 (by kernel_rfl) (by decide))) (hgr.cell HX0.out.1.c1)) rfl)
            | 17, _ =>
              obtain rfl := Option.some.inj ho
              exact gg_yes (b := false) rfl (hA.fact 9 (hA.dep 9 (by kernel_rfl) (by decide))) (gstep_val (g_add rfl (hA.fact 13 (hA.dep 13 (by kernel_rfl) (by decide))) (hA.fact 16 (hA.dep 16 (by kernel_rfl) (by decide))) (CA.out)) rfl)
            | 18, _ =>
              obtain rfl := Option.some.inj ho
              exact gg_yes (b := false) rfl (hA.fact 9 (hA.dep 9 (by kernel_rfl) (by decide))) (gstep_val (q_move rfl (show a.eval (.tmp 0) = .pointer (some ⟨p, 0, none⟩) from hA.other 0 (by decide))) rfl)
            | 19, _ =>
              obtain rfl := Option.some.inj ho
              exact gg_yes (b := false) rfl (hA.fact 9 (hA.dep 9 (by kernel_rfl) (by decide))) (gstep_val (q_nil rfl (hA.fact 18 (hA.dep 18 (by kernel_rfl) (by decide)))) rfl)
            | 20, _ =>
              obtain rfl := Option.some.inj ho
              exact gg_yes (b := false) rfl (hA.fact 9 (hA.dep 9 (by kernel_rfl) (by decide))) (gstep_val (g_fa_queue_Fifo_2 rfl (hA.fact 19 (hA.dep 19 (by kernel_rfl) (by decide)))) rfl)
            | 21, _ =>
              obtain rfl := Option.some.inj ho
              exact gg_yes (b := false) rfl (hA.fact 9 (hA.dep 9 (by kernel_rfl) (by decide))) (gstep_val (q_loadI rfl (hA.fact 20 (hA.dep 20 (by kernel_rfl) (by decide))) (hgr.cell HF0.out.c3)) rfl)
            | 22, _ =>
              obtain rfl := Option.some.inj ho
              exact gg_yes (b := false) rfl (hA.fact 9 (hA.dep 9 (by kernel_rfl) (by decide))) (gstep_val (g_gtr rfl (hA.fact 17 (hA.dep 17 (by kernel_rfl) (by decide))) (hA.fact 21 (hA.dep 21 (by kernel_rfl) (by decide))) (C2.out)) rfl)
            | k + 23, hk => exact absurd (show k + 23 < 23 from hk) (by omega)
          · intro vs w5 hg5 hv
            have HGX := Lib.hid ((Gr.refl w0).drew.trans hg5)
            have v24 : vs 9 = .bool false := hv 9 (by omega)
            have v37 : vs 22 = .bool true := hv 22 (by omega)
            clear hv hg5
            simp only [putN, List.drop_succ_cons, List.drop_zero, List.getElem?_cons_succ, List.getElem?_cons_zero]
            generalize vs 9 = z24 at *
            subst v24
            generalize vs 22 = z37 at *
            subst v37
            generalize vs 0 = z15 at *
            generalize vs 1 = z16 at *
            generalize vs 2 = z17 at *
            generalize vs 3 = z18 at *
            generalize vs 4 = z19 at *
            generalize vs 5 = z20 at *
            generalize vs 6 = z21 at *
            generalize vs 7 = z22 at *
            generalize vs 8 = z23 at *
            generalize vs 10 = z25 at *
            generalize vs 11 = z26 at *
            generalize vs 12 = z27 at *
            generalize vs 13 = z28 at *
            generalize vs 14 = z29 at *
            generalize vs 15 = z30 at *
            generalize vs 16 = z31 at *
            generalize vs 17 = z32 at *
            generalize vs 18 = z33 at *
            generalize vs 19 = z34 at *
            generalize vs 20 = z35 at *
            generalize vs 21 = z36 at *
            go_wp2
            go_meet
            exact ⟨by simp [HB.out], HGX.out⟩
        · have C2 := Lib.hid (decide_eq_false c2)
          have HB := Lib.hid (decide_eq_false (show ¬ Full P R (l ++ [x]) from fun h => h.elim (fun h => c1 (by first | exact h | (simp at h; omega))) (fun h => c2 (by first | exact h | (rw [sumLen_one] at h; exact h)))))
          clear c1 c2
          refine wp_region_gg (n := 23) [Fg.eq (.pointer (some ⟨p, 0, none⟩)), Fg.eq (.pointer (some ⟨p, 0, none⟩)), Fg.eq (.pointer (some ⟨p, 0, none⟩)), Fg.eq ((.int .i64 (l.length : Int))), Fg.eq (.pointer (some ⟨p, 0, none⟩)), Fg.eq (.pointer (some ⟨p, 0, none⟩)), Fg.eq (.pointer (some ⟨p, 2, none⟩)), Fg.eq (.int .i64 P), Fg.eq (.bool false), Fg.eq (.bool false), Fg.eq (.pointer (some ⟨p, 0, none⟩)), Fg.eq (.pointer (some ⟨p, 0, none⟩)), Fg.eq (.pointer (some ⟨p, 0, none⟩)), Fg.eq ((.int .i64 (sumLen l))), Fg.eq (.pointer (some ⟨xb, 0, none⟩)), Fg.eq (.pointer (some ⟨xb, 1, none⟩)), Fg.eq (.int .i64 x.len), Fg.eq (.int .i64 (sumLen l + x.len)), Fg.eq (.pointer (some ⟨p, 0, none⟩)), Fg.eq (.pointer (some ⟨p, 0, none⟩)), Fg.eq (.pointer (some ⟨p, 3, none⟩)), Fg.eq (.int .i64 R), Fg.eq (.bool false)] [15, 16, 17, 18, 19, 20, 21, 22, 23, 24, 25, 26, 27, 28, 29, 30, 31, 32, 33, 34, 35, 36, 37] (by kernel_rfl) (by kernel_rfl) (by kernel_rfl) ?_ ?_
          · intro L i o' a w1 hi ho hA
            have hgr : Gr w0 w1 := (Gr.refl w0).drew.trans hA.gr
            match i, hi with
            | 0, _ =>
              obtain rfl := Option.some.inj ho
              exact gg_plain rfl (gstep_val (q_move rfl (show a.eval (.tmp 0) = .pointer (some ⟨p, 0, none⟩) from hA.other 0 (by decide))) rfl)
            | 1, _ =>
              obtain rfl := Option.some.inj ho
              exact gg_plain rfl (gstep_val (q_nil rfl (hA.fact 0 (hA.dep 0 (by kernel_rfl) (by decide)))) rfl)
            | 2, _ =>
              obtain rfl := Option.some.inj ho
              exact gg_plain rfl (gstep_val (g_fa_queue_Fifo_0 rfl (hA.fact 1 (hA.dep 1 (by kernel_rfl) (by decide)))) rfl)
            | 3, _ =>
              obtain rfl := Option.some.inj ho
              exact gg_plain rfl (gstep_call (g_call___millrace_queue_List__Len rfl rfl (hA.fact 2 (hA.dep 2 (by kernel_rfl) (by decide)))) ((llen_g p 0 _ l w1 (HF0.out.l.gr hgr)).mono (fun e w' ⟨h1, h2⟩ => ⟨_, h1, h2, rfl⟩)))
            | 4, _ =>
              obtain rfl := Option.some.inj ho
              exact gg_plain rfl (gstep_val (q_move rfl (show a.eval (.tmp 0) = .pointer (some ⟨p, 0, none⟩) from hA.other 0 (by decide))) rfl)
            | 5, _ =>
              obtain rfl := Option.some.inj ho
              exact gg_plain rfl (gstep_val (q_nil rfl (hA.fact 4 (hA.dep 4 (by kernel_rfl) (by decide)))) rfl)
            | 6, _ =>
              obtain rfl := Option.some.inj ho
              exact gg_plain rfl (gstep_val (g_fa_queue_Fifo_1 rfl (hA.fact 5 (hA.dep 5 (by kernel_rfl) (by decide)))) rfl)
            | 7, _ =>
              obtain rfl := Option.some.inj ho
              exact gg_plain rfl (gstep_val (q_loadI rfl (hA.fact 6 (hA.dep 6 (by kernel_rfl) (by decide))) (hgr.cell HF0.out.c2)) rfl)
            | 8, _ =>
              obtain rfl := Option.some.inj ho
              exact gg_plain rfl (gstep_val (g_geq rfl (hA.fact 3 (hA.dep 3 (by kernel_rfl) (by decide))) (hA.fact 7 (hA.dep 7 (by kernel_rfl) (by decide))) (C1.out)) rfl)
            | 9, _ =>
              obtain rfl := Option.some.inj ho
              exact gg_plain rfl (gstep_val (q_move rfl (hA.fact 8 (hA.dep 8 (by kernel_rfl) (by decide)))) rfl)
            | 10, _ =>
              obtain rfl := Option.some.inj ho
              exact gg_yes (b := false) rfl (hA.fact 9 (hA.dep 9 (by kernel_rfl) (by decide))) (gstep_val (q_move rfl (show a.eval (.tmp 0) = .pointer (some ⟨p, 0, none⟩) from hA.other 0 (by decide))) rfl)
            | 11, _ =>
              obtain rfl := Option.some.inj ho
              exact gg_yes (b := false) rfl (hA.fact 9 (hA.dep 9 (by kernel_rfl) (by decide))) (gstep_val (q_nil rfl (hA.fact 10 (hA.dep 10 (by kernel_rfl) (by decide)))) rfl)
            | 12, _ =>
              obtain rfl := Option.some.inj ho
              exact gg_yes (b := false) rfl (hA.fact 9 (hA.dep 9 (by kernel_rfl) (by decide))) (gstep_val (g_fa_queue_Fifo_0 rfl (hA.fact 11 (hA.dep 11 (by kernel_rfl) (by decide)))) rfl)
            | 13, _ =>
              obtain rfl := Option.some.inj ho
              exact gg_yes (b := false) rfl (hA.fact 9 (hA.dep 9 (by kernel_rfl) (by decide))) (gstep_call (g_call___millrace_queue_List__Bytes rfl rfl (hA.fact 12 (hA.dep 12 (by kernel_rfl) (by decide)))) ((lbytes_g p 0 _ l w1 (HF0.out.l.gr hgr)).mono (fun e w' ⟨h1, h2⟩ => ⟨_, h1, h2, rfl⟩)))
            | 14, _ =>
              obtain rfl := Option.some.inj ho
              exact gg_yes (b := false) rfl (hA.fact 9 (hA.dep 9 (by kernel_rfl) (by decide))) (gstep_val (g_fa_queue_Held_0 rfl (show a.eval (.tmp 5) = .pointer (some ⟨xb, 0, none⟩) from hA.other 5 (by decide))) rfl)
            | 15, _ =>
              obtain rfl := Option.some.inj ho
              exact gg_yes (b := false) rfl (hA.fact 9 (hA.dep 9 (by kernel_rfl) (by decide))) (gstep_val (g_fa_api_Item_1 rfl (hA.fact 14 (hA.dep 14 (by kernel_rfl) (by decide)))) rfl)
            | 16, _ =>
              obtain rfl := Option.some.inj ho
              exact gg_yes (b := false) rfl (hA.fact 9 (hA.dep 9 (by kernel_rfl) (by decide))) (gstep_val (q_loadI rfl (hA.fact 15 (hA.dep 15 (by kernel_rfl) (by decide))) (hgr.cell HX0.out.1.c1)) rfl)
            | 17, _ =>
              obtain rfl := Option.some.inj ho
              exact gg_yes (b := false) rfl (hA.fact 9 (hA.dep 9 (by kernel_rfl) (by decide))) (gstep_val (g_add rfl (hA.fact 13 (hA.dep 13 (by kernel_rfl) (by decide))) (hA.fact 16 (hA.dep 16 (by kernel_rfl) (by decide))) (CA.out)) rfl)
            | 18, _ =>
              obtain rfl := Option.some.inj ho
              exact gg_yes (b := false) rfl (hA.fact 9 (hA.dep 9 (by kernel_rfl) (by decide))) (gstep_val (q_move rfl (show a.eval (.tmp 0) = .pointer (some ⟨p, 0, none⟩) from hA.other 0 (by decide))) rfl)
            | 19, _ =>
              obtain rfl := Option.some.inj ho
              exact gg_yes (b := false) rfl (hA.fact 9 (hA.dep 9 (by kernel_rfl) (by decide))) (gstep_val (q_nil rfl (hA.fact 18 (hA.dep 18 (by kernel_rfl) (by decide)))) rfl)
            | 20, _ =>
              obtain rfl := Option.some.inj ho
              exact gg_yes (b := false) rfl (hA.fact 9 (hA.dep 9 (by kernel_rfl) (by decide))) (gstep_val (g_fa_queue_Fifo_2 rfl (hA.fact 19 (hA.dep 19 (by kernel_rfl) (by decide)))) rfl)
            | 21, _ =>
              obtain rfl := Option.some.inj ho
              exact gg_yes (b := false) rfl (hA.fact 9 (hA.dep 9 (by kernel_rfl) (by decide))) (gstep_val (q_loadI rfl (hA.fact 20 (hA.dep 20 (by kernel_rfl) (by decide))) (hgr.cell HF0.out.c3)) rfl)
            | 22, _ =>
              obtain rfl := Option.some.inj ho
              exact gg_yes (b := false) rfl (hA.fact 9 (hA.dep 9 (by kernel_rfl) (by decide))) (gstep_val (g_gtr rfl (hA.fact 17 (hA.dep 17 (by kernel_rfl) (by decide))) (hA.fact 21 (hA.dep 21 (by kernel_rfl) (by decide))) (C2.out)) rfl)
            | k + 23, hk => exact absurd (show k + 23 < 23 from hk) (by omega)
          · intro vs w5 hg5 hv
            have HGX := Lib.hid ((Gr.refl w0).drew.trans hg5)
            have v24 : vs 9 = .bool false := hv 9 (by omega)
            have v37 : vs 22 = .bool false := hv 22 (by omega)
            clear hv hg5
            simp only [putN, List.drop_succ_cons, List.drop_zero, List.getElem?_cons_succ, List.getElem?_cons_zero]
            generalize vs 9 = z24 at *
            subst v24
            generalize vs 22 = z37 at *
            subst v37
            generalize vs 0 = z15 at *
            generalize vs 1 = z16 at *
            generalize vs 2 = z17 at *
            generalize vs 3 = z18 at *
            generalize vs 4 = z19 at *
            generalize vs 5 = z20 at *
            generalize vs 6 = z21 at *
            generalize vs 7 = z22 at *
            generalize vs 8 = z23 at *
            generalize vs 10 = z25 at *
            generalize vs 11 = z26 at *
            generalize vs 12 = z27 at *
            generalize vs 13 = z28 at *
            generalize vs 14 = z29 at *
            generalize vs 15 = z30 at *
            generalize vs 16 = z31 at *
            generalize vs 17 = z32 at *
            generalize vs 18 = z33 at *
            generalize vs 19 = z34 at *
            generalize vs 20 = z35 at *
            generalize vs 21 = z36 at *
            go_wp2
            go_meet
            exact ⟨by simp [HB.out], HGX.out⟩
    case rest =>
      obtain ⟨rfl, hg⟩ := hcut
      have HG1 := Lib.hid hg
      have HF1 := Lib.hid (HF0.out.gr hg)
      have HGW := Lib.hid (HG0.out.trans hg)
      obtain ⟨x0, x1, x2, x3, x4, x5⟩ := HX0.out.1.gr hg
      clear hg
      by_cases hf : Full P R (l ++ [x])
      · rw [decide_eq_true hf]
        have HFF := Lib.hid hf
        clear hf
        go_wp2
        go_ret
        rw [fifo_full HFF.out]
        exact ⟨_, _, rfl, RowH.one _ wc x rfl, HF1.out.gr ((Gr.refl _).alloc _), .of_gr (HGW.out.alloc _) HPL.out, fun g hg => .inl hg⟩
      · rw [decide_eq_false hf]
        have HFF := Lib.hid hf
        clear hf
        go_upto_region 4 with fail
        go_region_with (go_at_call 87; refine (ladd_any p 0 (.slice ba l.length cap) l x _ (HF1.out.l.gr (Gr.refl wc).drew) (by have := HNL.out; omega) HSM.out (by have := HXX.out; omega)).mono ?_; rintro e w2 ⟨rfl, v', hl', hs', ho'⟩; have HL2 := Lib.hid hl'; have HS2 := Lib.hid hs'; have HO2 := Lib.hid ho'; clear hl' hs' ho')
        go_wp2
        go_ret
        rw [fifo_fits HFF.out]
        exact ⟨_, _, rfl, RowH.nil _ _, (HF1.out.gr (Gr.refl wc).drew).then HS2.out HL2.out, (LSav.of_gr (HGW.out.trans (Gr.refl wc).drew) HPL.out).trans HS2.out (fun _ hg => .inl hg), fun g hg => (HO2.out g hg).imp id (fun h1 => Nat.le_trans (HGW.out.trans (Gr.refl wc).drew).size h1)⟩
  | true =>
    have HF1 := HF0
    obtain ⟨x0, x1, x2, x3, x4, x5⟩ := HX0.out.1
    go_upto_region 6 with fail
    go_region_with (go_at_call 87; refine (ladd_any p 0 (.slice ba l.length cap) l x _ (HF1.out.l.gr (Gr.refl w0).drew) (by have := HNL.out; omega) HSM.out (by have := HXX.out; omega)).mono ?_; rintro e w2 ⟨rfl, v', hl', hs', ho'⟩; have HL2 := Lib.hid hl'; have HS2 := Lib.hid hs'; have HO2 := Lib.hid ho'; clear hl' hs' ho')
    go_wp2
    obtain ⟨i0, hi0, hz0, hz1, hz2⟩ := info_parts heldInfo
    have HD2 : Hid (FifoDid w w2 p (.slice ba l.length cap) v' (l ++ [x]) P R true) := Lib.hid ⟨(HF0.out.gr (Gr.refl w0).drew).then HS2.out HL2.out, (LSav.of_gr (HG0.out.trans (Gr.refl w0).drew) HPL.out).trans HS2.out (fun _ hg => .inl hg), fun g hg => (HO2.out g hg).imp id (fun h1 => Nat.le_trans (HG0.out.trans (Gr.refl w0).drew).size h1)⟩
    have HBD : Hid (Lens (l ++ [x]) ∧ (l ++ [x]).length ≤ 901) := Lib.hid ⟨fun y hy => (by
      rcases List.mem_append.1 hy with hy | hy
      · exact HLL.out y hy
      · obtain rfl := List.mem_singleton.1 hy
        exact HXX.out), by have := HNL.out; simp; omega⟩
    clear x0 x1 x2 x3 x4 x5 HF1 c4 HL2 HS2 HO2 HF0 HX0 HG0
    go_loopg [7] (l ++ [x]).length (fun g s7 wr => ∃ (los kept : List Hel) (v1 : Value), Hid (los ++ kept = l ++ [x]) ∧ g = kept.length ∧ Hid (shed P R (l ++ [x]) = (los ++ (shed P R kept).1, (shed P R kept).2)) ∧ Hid (RowH 134 wr s7 los ∧ FifoDid w wr p (.slice ba l.length cap) v1 kept P R true ∧ ∀ g, s7.ownBlock = some g → w.heap.size ≤ g ∧ v1.ownBlock ≠ some g))
    case atStart => exact ⟨[], l ++ [x], v', Lib.hid rfl, rfl, Lib.hid rfl, Lib.hid ⟨RowH.nil _ _, HD2.out, fun g hg => by cases hg⟩⟩
    case round =>
      obtain ⟨los, kept, v1, HEQ, rfl, HSH, HW⟩ := hrel
      have HK := Lib.hid HW.out.2.1.at_
      have HLK : Hid (Lens kept ∧ kept.length ≤ 901 ∧ los.length ≤ 901) := Lib.hid ⟨fun y hy => HBD.out.1 y (by rw [← HEQ.out]; exact List.mem_append_right _ hy), by have h1 := HBD.out.2; rw [← HEQ.out] at h1; simp at h1; omega, by have h1 := HBD.out.2; rw [← HEQ.out] at h1; simp at h1; omega⟩
      go_upto_region 8 with fail
      go_cut [70] (fun s70 wx => s70 = .bool (decide (Full P R kept)) ∧ Gr wr wx)
      case first =>
        by_cases c1 : P < (kept.length : Int)
        · have C1 := Lib.hid (decide_eq_true c1)
          have C2 : Hid True := trivial
          have HB := Lib.hid (decide_eq_true (show Full P R (kept) from .inl (by first | exact c1 | (simp; omega))))
          clear c1
          refine wp_region_gg (n := 19) [Fg.eq (.pointer (some ⟨p, 0, none⟩)), Fg.eq (.pointer (some ⟨p, 0, none⟩)), Fg.eq (.pointer (some ⟨p, 0, none⟩)), Fg.eq ((.int .i64 (kept.length : Int))), Fg.eq (.pointer (some ⟨p, 0, none⟩)), Fg.eq (.pointer (some ⟨p, 0, none⟩)), Fg.eq (.pointer (some ⟨p, 2, none⟩)), Fg.eq (.int .i64 P), Fg.eq (.bool true), Fg.eq (.bool true), Fg.eq undef, Fg.eq undef, Fg.eq undef, Fg.eq undef, Fg.eq undef, Fg.eq undef, Fg.eq undef, Fg.eq undef, Fg.eq undef] [51, 52, 53, 54, 55, 56, 57, 58, 59, 60, 61, 62, 63, 64, 65, 66, 67, 68, 69] (by kernel_rfl) (by kernel_rfl) (by kernel_rfl) ?_ ?_
          · intro L i o' a w1 hi ho hA
            have hgr : Gr wr w1 := (Gr.refl wr).drew.trans hA.gr
            match i, hi with
            | 0, _ =>
              obtain rfl := Option.some.inj ho
              exact gg_plain rfl (gstep_val (q_move rfl (show a.eval (.tmp 0) = .pointer (some ⟨p, 0, none⟩) from hA.other 0 (by decide))) rfl)
            | 1, _ =>
              obtain rfl := Option.some.inj ho
              exact gg_plain rfl (gstep_val (q_nil rfl (hA.fact 0 (hA.dep 0 (by kernel_rfl) (by decide)))) rfl)
            | 2, _ =>
              obtain rfl := Option.some.inj ho
              exact gg_plain rfl (gstep_val (g_fa_queue_Fifo_0 rfl (hA.fact 1 (hA.dep 1 (by kernel_rfl) (by decide)))) rfl)
            | 3, _ =>
              obtain rfl := Option.some.inj ho
              exact gg_plain rfl (gstep_call (g_call___millrace_queue_List__Len rfl rfl (hA.fact 2 (hA.dep 2 (by kernel_rfl) (by decide)))) ((llen_g p 0 _ kept w1 (HK.out.l.gr hgr)).mono (fun e w' ⟨h1, h2⟩ => ⟨_, h1, h2, rfl⟩)))
            | 4, _ =>
              obtain rfl := Option.some.inj ho
              exact gg_plain rfl (gstep_val (q_move rfl (show a.eval (.tmp 0) = .pointer (some ⟨p, 0, none⟩) from hA.other 0 (by decide))) rfl)
            | 5, _ =>
              obtain rfl := Option.some.inj ho
              exact gg_plain rfl (gstep_val (q_nil rfl (hA.fact 4 (hA.dep 4 (by kernel_rfl) (by decide)))) rfl)
            | 6, _ =>
              obtain rfl := Option.some.inj ho
              exact gg_plain rfl (gstep_val (g_fa_queue_Fifo_1 rfl (hA.fact 5 (hA.dep 5 (by kernel_rfl) (by decide)))) rfl)
            | 7, _ =>
              obtain rfl := Option.some.inj ho
              exact gg_plain rfl (gstep_val (q_loadI rfl (hA.fact 6 (hA.dep 6 (by kernel_rfl) (by decide))) (hgr.cell HK.out.c2)) rfl)
            | 8, _ =>
              obtain rfl := Option.some.inj ho
              exact gg_plain rfl (gstep_val (g_gtr rfl (hA.fact 3 (hA.dep 3 (by kernel_rfl) (by decide))) (hA.fact 7 (hA.dep 7 (by kernel_rfl) (by decide))) (C1.out)) rfl)
            | 9, _ =>
              obtain rfl := Option.some.inj ho
              exact gg_plain rfl (gstep_val (q_move rfl (hA.fact 8 (hA.dep 8 (by kernel_rfl) (by decide)))) rfl)
            | 10, _ =>
              obtain rfl := Option.some.inj ho
              exact gg_no (b := false) rfl (hA.fact 9 (hA.dep 9 (by kernel_rfl) (by decide))) rfl
            | 11, _ =>
              obtain rfl := Option.some.inj ho
              exact gg_no (b := false) rfl (hA.fact 9 (hA.dep 9 (by kernel_rfl) (by decide))) rfl
            | 12, _ =>
              obtain rfl := Option.some.inj ho
              exact gg_no (b := false) rfl (hA.fact 9 (hA.dep 9 (by kernel_rfl) (by decide))) rfl
            | 13, _ =>
              obtain rfl := Option.some.inj ho
              exact gg_no (b := false) rfl (hA.fact 9 (hA.dep 9 (by kernel_rfl) (by decide))) rfl
            | 14, _ =>
              obtain rfl := Option.some.inj ho
              exact gg_no (b := false) rfl (hA.fact 9 (hA.dep 9 (by kernel_rfl) (by decide))) rfl
            | 15, _ =>
              obtain rfl := Option.some.inj ho
              exact gg_no (b := false) rfl (hA.fact 9 (hA.dep 9 (by kernel_rfl) (by decide))) rfl
            | 16, _ =>
              obtain rfl := Option.some.inj ho
              exact gg_no (b := false) rfl (hA.fact 9 (hA.dep 9 (by kernel_rfl) (by decide))) rfl
            | 17, _ =>
              obtain rfl := Option.some.inj ho
              exact gg_no (b := false) rfl (hA.fact 9 (hA.dep 9 (by kernel_rfl) (by decide))) rfl
            | 18, _ =>
              obtain rfl := Option.some.inj ho
              exact gg_no (b := false) rfl (hA.fact 9 (hA.dep 9 (by kernel_rfl) (by decide))) rfl
            | k + 19, hk => exact absurd (show k + 19 < 19 from hk) (by omega)
          · intro vs w5 hg5 hv
            have HGX := Lib.hid ((Gr.refl wr).drew.trans hg5)
            have v60 : vs 9 = .bool true := hv 9 (by omega)
            have v69 : vs 18 = undef := hv 18 (by omega)
            clear hv hg5
            simp only [putN, List.drop_succ_cons, List.drop_zero, List.getElem?_cons_succ, List.getElem?_cons_zero]
            generalize vs 9 = z60 at *
            subst v60
            generalize vs 18 = z69 at *
            subst v69
            generalize vs 0 = z51 at *
            generalize vs 1 = z52 at *
            generalize vs 2 = z53 at *
            generalize vs 3 = z54 at *
            generalize vs 4 = z55 at *
            generalize vs 5 = z56 at *
            generalize vs 6 = z57 at *
            generalize vs 7 = z58 at *
            generalize vs 8 = z59 at *
            generalize vs 10 = z61 at *
            generalize vs 11 = z62 at *
            generalize vs 12 = z63 at *
            generalize vs 13 = z64 at *
            generalize vs 14 = z65 at *
            generalize vs 15 = z66 at *
            generalize vs 16 = z67 at *
            generalize vs 17 = z68 at *
            go_wp2
            go_meet
            exact ⟨by simp [HB.out], HGX.out⟩
        · have C1 := Lib.hid (decide_eq_false c1)
          by_cases c2 : R < sumLen kept
          · have C2 := Lib.hid (decide_eq_true c2)
            have HB := Lib.hid (decide_eq_true (show Full P R (kept) from .inr (by first | exact c2 | (rw [sumLen_one]; exact c2))))
            clear c1 c2
            refine wp_region_gg (n := 19) [Fg.eq (.pointer (some ⟨p, 0, none⟩)), Fg.eq (.pointer (some ⟨p, 0, none⟩)), Fg.eq (.pointer (some ⟨p, 0, none⟩)), Fg.eq ((.int .i64 (kept.length : Int))), Fg.eq (.pointer (some ⟨p, 0, none⟩)), Fg.eq (.pointer (some ⟨p, 0, none⟩)), Fg.eq (.pointer (some ⟨p, 2, none⟩)), Fg.eq (.int .i64 P), Fg.eq (.bool false), Fg.eq (.bool false), Fg.eq (.pointer (some ⟨p, 0, none⟩)), Fg.eq (.pointer (some ⟨p, 0, none⟩)), Fg.eq (.pointer (some ⟨p, 0, none⟩)), Fg.eq ((.int .i64 (sumLen kept))), Fg.eq (.pointer (some ⟨p, 0, none⟩)), Fg.eq (.pointer (some ⟨p, 0, none⟩)), Fg.eq (.pointer (some ⟨p, 3, none⟩)), Fg.eq (.int .i64 R), Fg.eq (.bool true)] [51, 52, 53, 54, 55, 56, 57, 58, 59, 60, 61, 62, 63, 64, 65, 66, 67, 68, 69] (by kernel_rfl) (by kernel_rfl) (by kernel_rfl) ?_ ?_
            · intro L i o' a w1 hi ho hA
              have hgr : Gr wr w1 := (Gr.refl wr).drew.trans hA.gr
              match i, hi with
              | 0, _ =>
                obtain rfl := Option.some.inj ho
                exact gg_plain rfl (gstep_val (q_move rfl (show a.eval (.tmp 0) = .pointer (some ⟨p, 0, none⟩) from hA.other 0 (by decide))) rfl)
              | 1, _ =>
                obtain rfl := Option.some.inj ho
                exact gg_plain rfl (gstep_val (q_nil rfl (hA.fact 0 (hA.dep 0 (by kernel_rfl) (by decide)))) rfl)
              | 2, _ =>
                obtain rfl := Option.some.inj ho
                exact gg_plain rfl (gstep_val (g_fa_queue_Fifo_0 rfl (hA.fact 1 (hA.dep 1 (by kernel_rfl) (by decide)))) rfl)
              | 3, _ =>
                obtain rfl := Option.some.inj ho
                exact gg_plain rfl (gstep_call (g_call___millrace_queue_List__Len rfl rfl (hA.fact 2 (hA.dep 2 (by kernel_rfl) (by decide)))) ((llen_g p 0 _ kept w1 (HK.out.l.gr hgr)).mono (fun e w' ⟨h1, h2⟩ => ⟨_, h1, h2, rfl⟩)))
              | 4, _ =>
                obtain rfl := Option.some.inj ho
                exact gg_plain rfl (gstep_val (q_move rfl (show a.eval (.tmp 0) = .pointer (some ⟨p, 0, none⟩) from hA.other 0 (by decide))) rfl)
              | 5, _ =>
                obtain rfl := Option.some.inj ho
                exact gg_plain rfl (gstep_val (q_nil rfl (hA.fact 4 (hA.dep 4 (by kernel_rfl) (by decide)))) rfl)
              | 6, _ =>
                obtain rfl := Option.some.inj ho
                exact gg_plain rfl (gstep_val (g_fa_queue_Fifo_1 rfl (hA.fact 5 (hA.dep 5 (by kernel_rfl) (by decide)))) rfl)
              | 7, _ =>
                obtain rfl := Option.some.inj ho
                exact gg_plain rfl (gstep_val (q_loadI rfl (hA.fact 6 (hA.dep 6 (by kernel_rfl) (by decide))) (hgr.cell HK.out.c2)) rfl)
              | 8, _ =>
                obtain rfl := Option.some.inj ho
                exact gg_plain rfl (gstep_val (g_gtr rfl (hA.fact 3 (hA.dep 3 (by kernel_rfl) (by decide))) (hA.fact 7 (hA.dep 7 (by kernel_rfl) (by decide))) (C1.out)) rfl)
              | 9, _ =>
                obtain rfl := Option.some.inj ho
                exact gg_plain rfl (gstep_val (q_move rfl (hA.fact 8 (hA.dep 8 (by kernel_rfl) (by decide)))) rfl)
              | 10, _ =>
                obtain rfl := Option.some.inj ho
                exact gg_yes (b := false) rfl (hA.fact 9 (hA.dep 9 (by kernel_rfl) (by decide))) (gstep_val (q_move rfl (show a.eval (.tmp 0) = .pointer (some ⟨p, 0, none⟩) from hA.other 0 (by decide))) rfl)
              | 11, _ =>
                obtain rfl := Option.some.inj ho
                exact gg_yes (b := false) rfl (hA.fact 9 (hA.dep 9 (by kernel_rfl) (by decide))) (gstep_val (q_nil rfl (hA.fact 10 (hA.dep 10 (by kernel_rfl) (by decide)))) rfl)
              | 12, _ =>
                obtain rfl := Option.some.inj ho
                exact gg_yes (b := false) rfl (hA.fact 9 (hA.dep 9 (by kernel_rfl) (by decide))) (gstep_val (g_fa_queue_Fifo_0 rfl (hA.fact 11 (hA.dep 11 (by kernel_rfl) (by decide)))) rfl)
              | 13, _ =>
                obtain rfl := Option.some.inj ho
                exact gg_yes (b := false) rfl (hA.fact 9 (hA.dep 9 (by kernel_rfl) (by decide))) (gstep_call (g_call___millrace_queue_List__Bytes rfl rfl (hA.fact 12 (hA.dep 12 (by kernel_rfl) (by decide)))) ((lbytes_g p 0 _ kept w1 (HK.out.l.gr hgr)).mono (fun e w' ⟨h1, h2⟩ => ⟨_, h1, h2, rfl⟩)))
              | 14, _ =>
                obtain rfl := Option.some.inj ho
                exact gg_yes (b := false) rfl (hA.fact 9 (hA.dep 9 (by kernel_rfl) (by decide))) (gstep_val (q_move rfl (show a.eval (.tmp 0) = .pointer (some ⟨p, 0, none⟩) from hA.other 0 (by decide))) rfl)
              | 15, _ =>
                obtain rfl := Option.some.inj ho
                exact gg_yes (b := false) rfl (hA.fact 9 (hA.dep 9 (by kernel_rfl) (by decide))) (gstep_val (q_nil rfl (hA.fact 14 (hA.dep 14 (by kernel_rfl) (by decide)))) rfl)
              | 16, _ =>
                obtain rfl := Option.some.inj ho
                exact gg_yes (b := false) rfl (hA.fact 9 (hA.dep 9 (by kernel_rfl) (by decide))) (gstep_val (g_fa_queue_Fifo_2 rfl (hA.fact 15 (hA.dep 15 (by kernel_rfl) (by decide)))) rfl)
              | 17, _ =>
                obtain rfl := Option.some.inj ho
                exact gg_yes (b := false) rfl (hA.fact 9 (hA.dep 9 (by kernel_rfl) (by decide))) (gstep_val (q_loadI rfl (hA.fact 16 (hA.dep 16 (by kernel_rfl) (by decide))) (hgr.cell HK.out.c3)) rfl)
              | 18, _ =>
                obtain rfl := Option.some.inj ho
                exact gg_yes (b := false) rfl (hA.fact 9 (hA.dep 9 (by kernel_rfl) (by decide))) (gstep_val (g_gtr rfl (hA.fact 13 (hA.dep 13 (by kernel_rfl) (by decide))) (hA.fact 17 (hA.dep 17 (by kernel_rfl) (by decide))) (C2.out)) rfl)
              | k + 19, hk => exact absurd (show k + 19 < 19 from hk) (by omega)
            · intro vs w5 hg5 hv
              have HGX := Lib.hid ((Gr.refl wr).drew.trans hg5)
              have v60 : vs 9 = .bool false := hv 9 (by omega)
              have v69 : vs 18 = .bool true := hv 18 (by omega)
              clear hv hg5
              simp only [putN, List.drop_succ_cons, List.drop_zero, List.getElem?_cons_succ, List.getElem?_cons_zero]
              generalize vs 9 = z60 at *
              subst v60
              generalize vs 18 = z69 at *
              subst v69
              generalize vs 0 = z51 at *
              generalize vs 1 = z52 at *
              generalize vs 2 = z53 at *
              generalize vs 3 = z54 at *
              generalize vs 4 = z55 at *
              generalize vs 5 = z56 at *
              generalize vs 6 = z57 at *
              generalize vs 7 = z58 at *
              generalize vs 8 = z59 at *
              generalize vs 10 = z61 at *
              generalize vs 11 = z62 at *
              generalize vs 12 = z63 at *
              generalize vs 13 = z64 at *
              generalize vs 14 = z65 at *
              generalize vs 15 = z66 at *
              generalize vs 16 = z67 at *
              generalize vs 17 = z68 at *
              go_wp2
              go_meet
              exact ⟨by simp [HB.out], HGX.out⟩
          · have C2 := Lib.hid (decide_eq_false c2)
            have HB := Lib.hid (decide_eq_false (show ¬ Full P R (kept) from fun h => h.elim (fun h => c1 (by first | exact h | (simp at h; omega))) (fun h => c2 (by first | exact h | (rw [sumLen_one] at h; exact h)))))
            clear c1 c2
            refine wp_region_gg (n := 19) [Fg.eq (.pointer (some ⟨p, 0, none⟩)), Fg.eq (.pointer (some ⟨p, 0, none⟩)), Fg.eq (.pointer (some ⟨p, 0, none⟩)), Fg.eq ((.int .i64 (kept.length : Int))), Fg.eq (.pointer (some ⟨p, 0, none⟩)), Fg.eq (.pointer (some ⟨p, 0, none⟩)), Fg.eq (.pointer (some ⟨p, 2, none⟩)), Fg.eq (.int .i64 P), Fg.eq (.bool false), Fg.eq (.bool false), Fg.eq (.pointer (some ⟨p, 0, none⟩)), Fg.eq (.pointer (some ⟨p, 0, none⟩)), Fg.eq (.pointer (some ⟨p, 0, none⟩)), Fg.eq ((.int .i64 (sumLen kept))), Fg.eq (.pointer (some ⟨p, 0, none⟩)), Fg.eq (.pointer (some ⟨p, 0, none⟩)), Fg.eq (.pointer (some ⟨p, 3, none⟩)), Fg.eq (.int .i64 R), Fg.eq (.bool false)] [51, 52, 53, 54, 55, 56, 57, 58, 59, 60, 61, 62, 63, 64, 65, 66, 67, 68, 69] (by kernel_rfl) (by kernel_rfl) (by kernel_rfl) ?_ ?_
            · intro L i o' a w1 hi ho hA
              have hgr : Gr wr w1 := (Gr.refl wr).drew.trans hA.gr
              match i, hi with
              | 0, _ =>
                obtain rfl := Option.some.inj ho
                exact gg_plain rfl (gstep_val (q_move rfl (show a.eval (.tmp 0) = .pointer (some ⟨p, 0, none⟩) from hA.other 0 (by decide))) rfl)
              | 1, _ =>
                obtain rfl := Option.some.inj ho
                exact gg_plain rfl (gstep_val (q_nil rfl (hA.fact 0 (hA.dep 0 (by kernel_rfl) (by decide)))) rfl)
              | 2, _ =>
                obtain rfl := Option.some.inj ho
                exact gg_plain rfl (gstep_val (g_fa_queue_Fifo_0 rfl (hA.fact 1 (hA.dep 1 (by kernel_rfl) (by decide)))) rfl)
              | 3, _ =>
                obtain rfl := Option.some.inj ho
                exact gg_plain rfl (gstep_call (g_call___millrace_queue_List__Len rfl rfl (hA.fact 2 (hA.dep 2 (by kernel_rfl) (by decide)))) ((llen_g p 0 _ kept w1 (HK.out.l.gr hgr)).mono (fun e w' ⟨h1, h2⟩ => ⟨_, h1, h2, rfl⟩)))
              | 4, _ =>
                obtain rfl := Option.some.inj ho
                exact gg_plain rfl (gstep_val (q_move rfl (show a.eval (.tmp 0) = .pointer (some ⟨p, 0, none⟩) from hA.other 0 (by decide))) rfl)
              | 5, _ =>
                obtain rfl := Option.some.inj ho
                exact gg_plain rfl (gstep_val (q_nil rfl (hA.fact 4 (hA.dep 4 (by kernel_rfl) (by decide)))) rfl)
              | 6, _ =>
                obtain rfl := Option.some.inj ho
                exact gg_plain rfl (gstep_val (g_fa_queue_Fifo_1 rfl (hA.fact 5 (hA.dep 5 (by kernel_rfl) (by decide)))) rfl)
              | 7, _ =>
                obtain rfl := Option.some.inj ho
                exact gg_plain rfl (gstep_val (q_loadI rfl (hA.fact 6 (hA.dep 6 (by kernel_rfl) (by decide))) (hgr.cell HK.out.c2)) rfl)
              | 8, _ =>
                obtain rfl := Option.some.inj ho
                exact gg_plain rfl (gstep_val (g_gtr rfl (hA.fact 3 (hA.dep 3 (by kernel_rfl) (by decide))) (hA.fact 7 (hA.dep 7 (by kernel_rfl) (by decide))) (C1.out)) rfl)
              | 9, _ =>
                obtain rfl := Option.some.inj ho
                exact gg_plain rfl (gstep_val (q_move rfl (hA.fact 8 (hA.dep 8 (by kernel_rfl) (by decide)))) rfl)
              | 10, _ =>
                obtain rfl := Option.some.inj ho
                exact gg_yes (b := false) rfl (hA.fact 9 (hA.dep 9 (by kernel_rfl) (by decide))) (gstep_val (q_move rfl (show a.eval (.tmp 0) = .pointer (some ⟨p, 0, none⟩) from hA.other 0 (by decide))) rfl)
              | 11, _ =>
                obtain rfl := Option.some.inj ho
                exact gg_yes (b := false) rfl (hA.fact 9 (hA.dep 9 (by kernel_rfl) (by decide))) (gstep_val (q_nil rfl (hA.fact 10 (hA.dep 10 (by kernel_rfl) (by decide)))) rfl)
              | 12, _ =>
                obtain rfl := Option.some.inj ho
                exact gg_yes (b := false) rfl (hA.fact 9 (hA.dep 9 (by kernel_rfl) (by decide))) (gstep_val (g_fa_queue_Fifo_0 rfl (hA.fact 11 (hA.dep 11 (by kernel_rfl) (by decide)))) rfl)
              | 13, _ =>
                obtain rfl := Option.some.inj ho
                exact gg_yes (b := false) rfl (hA.fact 9 (hA.dep 9 (by kernel_rfl) (by decide))) (gstep_call (g_call___millrace_queue_List__Bytes rfl rfl (hA.fact 12 (hA.dep 12 (by kernel_rfl) (by decide)))) ((lbytes_g p 0 _ kept w1 (HK.out.l.gr hgr)).mono (fun e w' ⟨h1, h2⟩ => ⟨_, h1, h2, rfl⟩)))
              | 14, _ =>
                obtain rfl := Option.some.inj ho
                exact gg_yes (b := false) rfl (hA.fact 9 (hA.dep 9 (by kernel_rfl) (by decide))) (gstep_val (q_move rfl (show a.eval (.tmp 0) = .pointer (some ⟨p, 0, none⟩) from hA.other 0 (by decide))) rfl)
              | 15, _ =>
                obtain rfl := Option.some.inj ho
                exact gg_yes (b := false) rfl (hA.fact 9 (hA.dep 9 (by kernel_rfl) (by decide))) (gstep_val (q_nil rfl (hA.fact 14 (hA.dep 14 (by kernel_rfl) (by decide)))) rfl)
              | 16, _ =>
                obtain rfl := Option.some.inj ho
                exact gg_yes (b := false) rfl (hA.fact 9 (hA.dep 9 (by kernel_rfl) (by decide))) (gstep_val (g_fa_queue_Fifo_2 rfl (hA.fact 15 (hA.dep 15 (by kernel_rfl) (by decide)))) rfl)
              | 17, _ =>
                obtain rfl := Option.some.inj ho
                exact gg_yes (b := false) rfl (hA.fact 9 (hA.dep 9 (by kernel_rfl) (by decide))) (gstep_val (q_loadI rfl (hA.fact 16 (hA.dep 16 (by kernel_rfl) (by decide))) (hgr.cell HK.out.c3)) rfl)
              | 18, _ =>
                obtain rfl := Option.some.inj ho
                exact gg_yes (b := false) rfl (hA.fact 9 (hA.dep 9 (by kernel_rfl) (by decide))) (gstep_val (g_gtr rfl (hA.fact 13 (hA.dep 13 (by kernel_rfl) (by decide))) (hA.fact 17 (hA.dep 17 (by kernel_rfl) (by decide))) (C2.out)) rfl)
              | k + 19, hk => exact absurd (show k + 19 < 19 from hk) (by omega)
            · intro vs w5 hg5 hv
              have HGX := Lib.hid ((Gr.refl wr).drew.trans hg5)
              have v60 : vs 9 = .bool false := hv 9 (by omega)
              have v69 : vs 18 = .bool false := hv 18 (by omega)
              clear hv hg5
              simp only [putN, List.drop_succ_cons, List.drop_zero, List.getElem?_cons_succ, List.getElem?_cons_zero]
              generalize vs 9 = z60 at *
              subst v60
              generalize vs 18 = z69 at *
              subst v69
              generalize vs 0 = z51 at *
              generalize vs 1 = z52 at *
              generalize vs 2 = z53 at *
              generalize vs 3 = z54 at *
              generalize vs 4 = z55 at *
              generalize vs 5 = z56 at *
              generalize vs 6 = z57 at *
              generalize vs 7 = z58 at *
              generalize vs 8 = z59 at *
              generalize vs 10 = z61 at *
              generalize vs 11 = z62 at *
              generalize vs 12 = z63 at *
              generalize vs 13 = z64 at *
              generalize vs 14 = z65 at *
              generalize vs 15 = z66 at *
              generalize vs 16 = z67 at *
              generalize vs 17 = z68 at *
              go_wp2
              go_meet
              exact ⟨by simp [HB.out], HGX.out⟩
      case rest =>
        obtain ⟨rfl, hg⟩ := hcut
        have HGC := Lib.hid hg
        have HDC := Lib.hid (HW.out.2.1.gr HPL.out hg)
        have HRC := Lib.hid (HW.out.1.gr hg)
        have HOC := Lib.hid HW.out.2.2
        clear hg HK HW
        by_cases hf : Full P R kept
        · rw [decide_eq_true hf]
          cases kept with
          | nil => exact absurd hf (not_full_nil HP.out.1 HR.out.1)
          | cons y rest =>
            have HFF := Lib.hid hf
            clear hf
            have HNX := Lib.hid (lnext_cons p 0 v1 y rest wc HDC.out.at_.l (Lens.sum (fun z hz => HLK.out.1 z (List.mem_cons_of_mem _ hz)) (by have := HLK.out.2.1; simp at this; omega)))
            unfold Hel.val at HNX
            go_wp2_with (first
              | (go_at_call 88; refine HNX.out.mono ?_; rintro e w3 ⟨rfl, v2, hl2, hs2, ho2⟩; have HD3 : Hid (FifoDid w w3 p (.slice ba l.length cap) v2 rest P R true) := Lib.hid ⟨HDC.out.at_.then hs2 hl2, HDC.out.sav.trans hs2 HDC.out.own, fun g hg => HDC.out.own g (by rw [← ho2]; exact hg)⟩; have HR3 := Lib.hid (HRC.out.sav hs2.sav (fun g hg e => e.elim (fun h1 => by have h2 := (HOC.out g hg).1; have h3 := HPL.out; omega) (HOC.out g hg).2)); have HZ3 := Lib.hid hs2.sav.size; have HO3 := Lib.hid ho2; have HL3 := Lib.hid hl2; clear hl2 hs2 ho2)
              | (at_builtin; refine wpList_append_rowH rfl _ _ _ (by rfl) i0 Hel.zero.val Tryz.underlying72 hi0 hz0 hz1 hz2 rfl ?c1 (by rfl) (HR3.out.gr (((Gr.refl _).alloc _).alloc _)) ⟨w3.heap.size + 1, 0, none⟩ 1 [y] (by rfl) (by simp) ?c3 ?c2 ?_; (case c1 => (intro u hu; exact (cells_int Hel.zero u (by simpa [Hel.val, Value.cells, Hel.cells] using hu)).2)); (case c3 => (rw [flat_one]; exact (held_new (w3.alloc (.cells #[.int .i64 y.t, .int .i64 y.len, .int .i64 y.flow, .int .i64 y.band, .int .i64 y.mark, .int .i64 y.n] 134)) y (by simp)).news)); (case c2 => (have := HLK.out.2.2; simp; omega)); intro v4 w4 hrow hgr hown hold; have HR4 := Lib.hid hrow; have HG4 := Lib.hid hgr; have HO4 := Lib.hid hown; clear hrow hgr hown hold))
            go_roundg rest.length
            case measure => simp
            case rel =>
              have hal : Gr w3 ((w3.alloc (.cells #[.int .i64 y.t, .int .i64 y.len, .int .i64 y.flow, .int .i64 y.band, .int .i64 y.mark, .int .i64 y.n] 134)).alloc (.cells #[.int .i64 y.t, .int .i64 y.len, .int .i64 y.flow, .int .i64 y.band, .int .i64 y.mark, .int .i64 y.n] 134)) := ((Gr.refl _).alloc _).alloc _
              have hws : w.heap.size ≤ w3.heap.size := Nat.le_trans HDC.out.sav.sav.size HZ3.out
              have hsv : Sav (fun q => u7.ownBlock = some q) w3 w4 := (Sav.of_gr (B := fun q => u7.ownBlock = some q) hal).then (.of_grown HG4.out fun _ h => h)
              refine ⟨los ++ [y], rest, v2, Lib.hid (by rw [← HEQ.out]; simp), rfl, Lib.hid (by rw [HSH.out, shed_full HFF.out]; simp), Lib.hid ⟨HR4.out, ⟨HD3.out.at_.sav hsv (fun e => by have := (HOC.out p e).1; have := HPL.out; omega) (fun g hg e => (HOC.out g e).2 (by rw [← HO3.out]; exact hg)), HD3.out.sav.more hsv (fun q e => (HOC.out q e).1) HPL.out, HD3.out.own⟩, fun g hg => ?_⟩⟩
              rcases HO4.out g hg with h1 | h1
              · exact ⟨(HOC.out g h1).1, fun e => (HOC.out g h1).2 (by rw [← HO3.out]; exact e)⟩
              · simp at h1
                exact ⟨by omega, fun e => by have := HL3.out.row.lt e; omega⟩
        · rw [decide_eq_false hf]
          have HFF := Lib.hid hf
          clear hf
          go_wp2
          go_ret
          rw [fifo_head, HSH.out, shed_fits HFF.out]
          exact ⟨_, _, rfl, by simpa using HRC.out, HDC.out⟩
end Go.Proofs.YtgifghbnpdanhaaGreatDoor

/-
  The reference's Delayed: Take. (Printed by gendel2.py.)
-/
import Derived.Test.YtbpofdfehcbppaaDoorDelE
import Derived.Deep.DeepCutAuto
import Derived.Deep.CutBlock
import Derived.Deep.LoopGhost
namespace Go.Proofs.YtbpofdfehcbppaaDoor
open Go.RowKit Go.Extern.Stop Go.Stop Go.Extern

section
variable {ev : Operand → Value} {o : Oper} {w : World} {x y z : Operand} {u : Value}
theorem rdt_fa_millraceref_Delayed_5 {p o' : Nat} (ho : o.op = .fieldAddr 74 x 5) (h : ev x = .pointer (some ⟨p, o', none⟩)) : (execOp ev o).run Tryd.prog w = .ok (.value (.pointer (some ⟨p, o' + 8, none⟩))) w := by
  simp [execOp, ho, h, go_sem]
theorem rdt_gtr {m n : Int} {b : Bool} (ho : o.op = .binOp .gtr 3 x y 3) (h : ev x = .int .i64 m) (k : ev y = .int .i64 n) (hb : decide (n < m) = b) : (execOp ev o).run Tryd.prog w = .ok (.value (.bool b)) w := by
  subst hb
  simp [execOp, ho, h, k, go_sem]
theorem rdt_fa_millraceref_Delayed_6 {p o' : Nat} (ho : o.op = .fieldAddr 74 x 6) (h : ev x = .pointer (some ⟨p, o', none⟩)) : (execOp ev o).run Tryd.prog w = .ok (.value (.pointer (some ⟨p, o' + 9, none⟩))) w := by
  simp [execOp, ho, h, go_sem]
theorem rdt_sub {m n r : Int} (ho : o.op = .binOp .sub 3 x y 3) (h : ev x = .int .i64 m) (k : ev y = .int .i64 n) (hb : IntKind.i64.wrap (m - n) = r) : (execOp ev o).run Tryd.prog w = .ok (.value (.int .i64 r)) w := by
  subst hb
  simp [execOp, ho, h, k, go_sem]
theorem rdt_fa_millraceref_Delayed_2 {p o' : Nat} (ho : o.op = .fieldAddr 74 x 2) (h : ev x = .pointer (some ⟨p, o', none⟩)) : (execOp ev o).run Tryd.prog w = .ok (.value (.pointer (some ⟨p, o' + 5, none⟩))) w := by
  simp [execOp, ho, h, go_sem]
theorem rdt_mul {m n r : Int} (ho : o.op = .binOp .mul 3 x y 3) (h : ev x = .int .i64 m) (k : ev y = .int .i64 n) (hb : IntKind.i64.wrap (m * n) = r) : (execOp ev o).run Tryd.prog w = .ok (.value (.int .i64 r)) w := by
  subst hb
  simp [execOp, ho, h, k, go_sem]
theorem rdt_lss {m n : Int} {b : Bool} (ho : o.op = .binOp .lss 3 x y 3) (h : ev x = .int .i64 m) (k : ev y = .int .i64 n) (hb : decide (m < n) = b) : (execOp ev o).run Tryd.prog w = .ok (.value (.bool b)) w := by
  subst hb
  simp [execOp, ho, h, k, go_sem]
end

theorem rdelpull_any (p : Nat) (v av : Value) (q : DelP) (hq : q.Ok) (a : DelS) (n : Nat) (ok : DelOk q a n) (now : Int) (hnow : Now now) (w : World) (h : RDelAt w p v av q a.l a.ab a.d a.nx a.ct) :
    Calls Tryd.prog 105 #[.pointer (some ⟨p, 0, none⟩), .int .i64 now] w fun e w' => e = .returned (.tuple #[(delPull q a now).2.1.val, .bool (delPull q a now).2.2.1, .bool (delPull q a now).2.2.2]) ∧ RDelDid w w' p v av q (delPull q a now).1 := by
  cases hl : a.l with
  | nil =>
    rw [delPull_nil hl]
    rw [hl] at h
    exact rdelpull_nil p v av q a now w h
  | cons x r =>
    rw [hl] at h
    exact rdelpull_cons p v av q hq a n x r hl ok now hnow w h
/-- In the midst of Take: the queue, what is taken (at xb), what is thrown away; the result at rb. -/
structure RDTk (w wr : World) (p xb rb : Nat) (v av : Value) (vv avv : Value) (q : DelP) (a : DelS) (x : Hel) (ls : Value) (lost : List Hel) : Prop where
  at_ : RDelAt wr p vv avv q a.l a.ab a.d a.nx a.ct
  res : HelRes wr xb x
  zres : HelRes wr rb .zero
  sav : Sav (LFoot p v) w wr
  own : ∀ g, vv.ownBlock = some g → (v.ownBlock = some g ∨ w.heap.size ≤ g) ∧ g ≠ xb ∧ g ≠ rb
  aown : ∀ g, avv.ownBlock = some g → (av.ownBlock = some g ∨ w.heap.size ≤ g) ∧ g ≠ xb ∧ g ≠ rb
  bb : w.heap.size ≤ rb ∧ rb < xb ∧ xb < wr.heap.size
  hp : p < w.heap.size
  row : RowH 108 wr ls lost
  lown : ∀ g, ls.ownBlock = some g → w.heap.size ≤ g ∧ g ≠ xb ∧ g ≠ rb ∧ vv.ownBlock ≠ some g ∧ avv.ownBlock ≠ some g
section
variable {w wr w' : World} {p xb rb : Nat} {v av vv avv : Value} {q : DelP} {a a' : DelS} {x y : Hel} {ls : Value} {lost : List Hel}
theorem RDTk.set (h : RDTk w wr p xb rb v av vv avv q a x ls lost) (o : Nat) (u : Value) (k : RDelAt (wr.setCell ⟨p, o, none⟩ u) p vv avv q a'.l a'.ab a'.d a'.nx a'.ct) : RDTk w (wr.setCell ⟨p, o, none⟩ u) p xb rb v av vv avv q a' x ls lost :=
  have hs : Sav (fun g => g = p) wr (wr.setCell ⟨p, o, none⟩ u) := .set p o u
  ⟨k, h.res.sav hs (fun e => by have h1 := h.bb; have h2 := h.hp; omega), h.zres.sav hs (fun e => by have h1 := h.bb; have h2 := h.hp; omega), h.sav.then (hs.mono fun g e => .inl e), h.own, h.aown, ⟨h.bb.1, h.bb.2.1, by simpa using h.bb.2.2⟩, h.hp, h.row.sav hs (fun g hg e => by have h1 := (h.lown g hg).1; have h2 := h.hp; omega), h.lown⟩
theorem RDTk.gr (h : RDTk w wr p xb rb v av vv avv q a x ls lost) (k : Gr wr w') : RDTk w w' p xb rb v av vv avv q a x ls lost :=
  ⟨h.at_.gr k, h.res.gr k, h.zres.gr k, h.sav.then (.of_gr k), h.own, h.aown, ⟨h.bb.1, h.bb.2.1, Nat.lt_of_lt_of_le h.bb.2.2 k.size⟩, h.hp, h.row.gr k, h.lown⟩
theorem RDTk.put (h : RDTk w wr p xb rb v av vv avv q a x ls lost) (y : Hel) : RDTk w ((((((wr.setCell ⟨xb, 0, none⟩ (.int .i64 y.t)).setCell ⟨xb, 1, none⟩ (.int .i64 y.len)).setCell ⟨xb, 2, none⟩ (.int .i64 y.flow)).setCell ⟨xb, 3, none⟩ (.int .i64 y.band)).setCell ⟨xb, 4, none⟩ (.int .i64 y.mark)).setCell ⟨xb, 5, none⟩ (.int .i64 y.n)) p xb rb v av vv avv q a y ls lost :=
  have k := hel_set6 h.res y
  ⟨h.at_.sav k.2 (fun e => by have h1 := h.bb; have h2 := h.hp; omega) (fun g hg e => (h.own g hg).2.1 e) (fun g hg e => (h.aown g hg).2.1 e), k.1, h.zres.sav k.2 (fun e => by have := h.bb; omega), h.sav.trans k.2 (fun g e => .inr (by rw [e]; have := h.bb; omega)), h.own, h.aown, ⟨h.bb.1, h.bb.2.1, Nat.lt_of_lt_of_le h.bb.2.2 k.2.size⟩, h.hp, h.row.sav k.2 (fun g hg e => (h.lown g hg).2.1 e), h.lown⟩
theorem RDTk.fin (h : RDTk w wr p xb rb v av vv avv q a x ls lost) (y : Hel) : HelRes ((((((wr.setCell ⟨rb, 0, none⟩ (.int .i64 y.t)).setCell ⟨rb, 1, none⟩ (.int .i64 y.len)).setCell ⟨rb, 2, none⟩ (.int .i64 y.flow)).setCell ⟨rb, 3, none⟩ (.int .i64 y.band)).setCell ⟨rb, 4, none⟩ (.int .i64 y.mark)).setCell ⟨rb, 5, none⟩ (.int .i64 y.n)) rb y ∧ RowH 108 ((((((wr.setCell ⟨rb, 0, none⟩ (.int .i64 y.t)).setCell ⟨rb, 1, none⟩ (.int .i64 y.len)).setCell ⟨rb, 2, none⟩ (.int .i64 y.flow)).setCell ⟨rb, 3, none⟩ (.int .i64 y.band)).setCell ⟨rb, 4, none⟩ (.int .i64 y.mark)).setCell ⟨rb, 5, none⟩ (.int .i64 y.n)) ls lost ∧ RDelDid w ((((((wr.setCell ⟨rb, 0, none⟩ (.int .i64 y.t)).setCell ⟨rb, 1, none⟩ (.int .i64 y.len)).setCell ⟨rb, 2, none⟩ (.int .i64 y.flow)).setCell ⟨rb, 3, none⟩ (.int .i64 y.band)).setCell ⟨rb, 4, none⟩ (.int .i64 y.mark)).setCell ⟨rb, 5, none⟩ (.int .i64 y.n)) p v av q a :=
  have k := hel_set6 h.zres y
  ⟨k.1, h.row.sav k.2 (fun g hg e => (h.lown g hg).2.2.1 e), vv, avv, h.at_.sav k.2 (fun e => by have h1 := h.bb; have h2 := h.hp; omega) (fun g hg e => (h.own g hg).2.2 e) (fun g hg e => (h.aown g hg).2.2 e), h.sav.trans k.2 (fun g e => .inr (by rw [e]; exact h.bb.1)), fun g hg => (h.own g hg).1, fun g hg => (h.aown g hg).1⟩
theorem RDTk.pull (h : RDTk w wr p xb rb v av vv avv q a x ls lost) (k : RDelDid wr w' p vv avv q a') : ∃ v' av', RDTk w w' p xb rb v av v' av' q a' x ls lost := by
  obtain ⟨v', av', k1, k2, k3, k4⟩ := k
  have hbb := h.bb
  have hhp := h.hp
  have hxp : ¬ xb = p := fun e => by omega
  have hrp : ¬ rb = p := fun e => by omega
  refine ⟨v', av', k1, h.res.sav k2 (fun e => e.elim hxp (fun e => (h.own xb e).2.1 rfl)), h.zres.sav k2 (fun e => e.elim hrp (fun e => (h.own rb e).2.2 rfl)), h.sav.trans k2 (fun g e => e.elim (fun e => .inl (.inl e)) (fun e => (h.own g e).1.imp .inr id)), fun g hg => ?_, fun g hg => ?_, ⟨h.bb.1, h.bb.2.1, Nat.lt_of_lt_of_le h.bb.2.2 k2.size⟩, h.hp, h.row.sav k2 (fun g hg e => e.elim (fun e => by have h1 := (h.lown g hg).1; omega) (fun e => (h.lown g hg).2.2.2.1 e)), fun g hg => ⟨(h.lown g hg).1, (h.lown g hg).2.1, (h.lown g hg).2.2.1, fun e => (k3 g e).elim (h.lown g hg).2.2.2.1 (fun h1 => by have := h.row.lt hg; omega), fun e => (k4 g e).elim (h.lown g hg).2.2.2.2 (fun h1 => by have := h.row.lt hg; omega)⟩⟩
  · rcases k3 g hg with h1 | h1
    · exact h.own g h1
    · exact ⟨.inr (Nat.le_trans h.sav.size h1), by omega, by omega⟩
  · rcases k4 g hg with h1 | h1
    · exact h.aown g h1
    · exact ⟨.inr (Nat.le_trans h.sav.size h1), by omega, by omega⟩
theorem RDTk.app {w3 : World} {v4 : Value} (h : RDTk w wr p xb rb v av vv avv q a x ls lost) (g3 : Gr wr w3) (hrow : RowH 108 w' v4 (lost ++ [y])) (hgr : w3.grownBy w' ls.ownBlock) (hown : ∀ g, v4.ownBlock = some g → ls.ownBlock = some g ∨ w3.heap.size ≤ g) : RDTk w w' p xb rb v av vv avv q a x v4 (lost ++ [y]) := by
  have hs : Sav (fun g => ls.ownBlock = some g) wr w' := (Sav.of_gr (B := fun g => ls.ownBlock = some g) g3).then (.of_grown hgr fun _ h => h)
  refine ⟨h.at_.sav hs (fun e => by have h1 := (h.lown p e).1; have h2 := h.hp; omega) (fun g hg e => (h.lown g e).2.2.2.1 hg) (fun g hg e => (h.lown g e).2.2.2.2 hg), h.res.sav hs (fun e => (h.lown xb e).2.1 rfl), h.zres.sav hs (fun e => (h.lown rb e).2.2.1 rfl), h.sav.trans hs (fun g e => .inr (h.lown g e).1), h.own, h.aown, ⟨h.bb.1, h.bb.2.1, Nat.lt_of_lt_of_le h.bb.2.2 hs.size⟩, h.hp, hrow, fun g hg => ?_⟩
  rcases hown g hg with h1 | h1
  · exact h.lown g h1
  · have h2 := h.bb
    have h3 := g3.size
    exact ⟨by omega, by omega, by omega, fun e => by have := h.at_.f.l.row.lt e; omega, fun e => by have := (h.at_.ap g e).2.2; omega⟩
end
set_option maxRecDepth 100000 in
set_option maxHeartbeats 40000000 in
theorem rdeltake_any (p : Nat) (v av : Value) (q : DelP) (hq : q.Ok) (a : DelS) (n : Nat) (ok : DelOk q a n) (now : Int) (hnow : Now now) (w : World) (h : RDelAt w p v av q a.l a.ab a.d a.nx a.ct) :
    Calls Tryd.prog 103 #[.pointer (some ⟨p, 0, none⟩), .int .i64 now] w fun e w' => ∃ r, e = .returned (.tuple #[((delay q).take a now).2.1.val, r, .bool ((delay q).take a now).2.2.2]) ∧ RowH 108 w' r ((delay q).take a now).2.2.1 ∧ RDelDid w w' p v av q ((delay q).take a now).1 := by
  have HPO := Lib.hid (delPull_ok hq hnow ok)
  have HPC := Lib.hid (fun w h => rdelpull_any p v av q hq a n ok now hnow w h)
  have HQ := Lib.hid hq
  have HNOW := Lib.hid hnow
  have HT0 : Hid ((delay q).take a now = delTake q now (delPull q a now)) := Lib.hid rfl
  obtain ⟨i0, hi0, hz0, hz1, hz2⟩ := info_parts packInfo
  have HCT := Lib.hid ok.ct
  have HNN := Lib.hid ok.l.n
  generalize (delay q).take a now = T at *
  generalize delPull q a now = P0 at *
  obtain ⟨a1, x, sm, bad⟩ := P0
  simp only [] at HPC HT0
  unfold Hel.val at HPC
  have HA := Lib.hid h
  have HPL := Lib.hid h.lt
  have HVL := Lib.hid (fun g hg => h.f.l.row.lt (g := g) hg)
  have HAL := Lib.hid (fun g hg => (h.ap g hg).2.2)
  clear h ok hq hnow
  go_enter Tryd.func103, Tryd.ntmps103
  go_upto_region 1 with fail
  obtain ⟨w0, hw0⟩ : ∃ w0, w0 = w.alloc (.cells #[.int .i64 0, .int .i64 0, .int .i64 0, .int .i64 0, .int .i64 0, .int .i64 0] 108) := ⟨_, rfl⟩
  obtain ⟨rb, hrb⟩ : ∃ rb, rb = w.heap.size := ⟨_, rfl⟩
  have HR0 : Hid (HelRes w0 rb .zero ∧ rb = w.heap.size) := Lib.hid (by rw [hw0]; exact ⟨helRes_new w .zero hrb, hrb⟩)
  have HG0 : Hid (Gr w w0) := Lib.hid (by rw [hw0]; exact (Gr.refl _).alloc _)
  have HA0 := Lib.hid (HA.out.gr HG0.out)
  rw [← hw0, ← hrb]
  clear hw0 hrb
  go_upto_region 3 with (go_at_call 105; refine (HPC.out _ HA0.out).mono ?_; rintro e w1 ⟨rfl, v1, av1, hat, hsv, hown, haown⟩; have HA1 := Lib.hid hat; have HS1 := Lib.hid hsv; have HO1 := Lib.hid hown; have HAO1 := Lib.hid haown; have HR1 := Lib.hid (HR0.out.1.sav hsv (fun e => e.elim (fun e => by have h1 := HR0.out.2; have h2 := HPL.out; omega) (fun e => by have h1 := HVL.out rb e; have h2 := HR0.out.2; omega))); clear hat hsv hown haown)
  obtain ⟨w2, hw2⟩ : ∃ w2, w2 = w1.alloc (.cells #[.int .i64 x.t, .int .i64 x.len, .int .i64 x.flow, .int .i64 x.band, .int .i64 x.mark, .int .i64 x.n] 108) := ⟨_, rfl⟩
  obtain ⟨xb, hxb⟩ : ∃ xb, xb = w1.heap.size := ⟨_, rfl⟩
  have HD2 : Hid (RDTk w w2 p xb rb v av v1 av1 q a1 x (.slice none 0 0) []) := Lib.hid (by
    have hrz : rb < w0.heap.size := cell_lt HR0.out.1.at_.c0
    have hal : Gr w1 (w1.alloc (.cells #[.int .i64 x.t, .int .i64 x.len, .int .i64 x.flow, .int .i64 x.band, .int .i64 x.mark, .int .i64 x.n] 108)) := (Gr.refl _).alloc _
    have hz := HR0.out.2
    have hs1 := HS1.out.size
    rw [hw2]
    exact ⟨HA1.out.gr hal, helRes_new w1 x hxb, HR1.out.gr hal, ((Sav.of_gr HG0.out).then HS1.out).then (.of_gr hal), fun g hg => ⟨(HO1.out g hg).imp id (Nat.le_trans HG0.out.size), by have := HA1.out.f.l.row.lt hg; omega, (HO1.out g hg).elim (fun h1 => by have h2 := HVL.out g h1; omega) (fun h1 => by omega)⟩, fun g hg => ⟨(HAO1.out g hg).imp id (Nat.le_trans HG0.out.size), by have := (HA1.out.ap g hg).2.2; omega, (HAO1.out g hg).elim (fun h1 => by have h2 := HAL.out g h1; omega) (fun h1 => by omega)⟩, ⟨by omega, by omega, by simp; omega⟩, HPL.out, RowH.nil _ _, fun g hg => by cases hg⟩)
  rw [← hw2, ← hxb]
  clear hw2 hxb HA1 HS1 HO1 HAO1 HR1 HA0 HPC
  obtain ⟨d0, df⟩ := And.intro HD2.out.at_.d HD2.out.at_.df
  cases sm with
  | false =>
    have HT := Lib.hid (show T = (a1.stop, .zero, [], false) from by rw [HT0.out]; show delTake _ _ _ = _; unfold delTake; rw [if_pos rfl])
    go_upto_region 5 with fail
    obtain ⟨w3, hw3⟩ : ∃ w3, w3 = w2.setCell ⟨p, 7, none⟩ (.bool false) := ⟨_, rfl⟩
    have HD3 := Lib.hid (show RDTk w w3 p xb rb v av _ _ q (a1.stop) _ _ _ from by rw [hw3]; exact HD2.out.set 7 (.bool false) (HD2.out.at_.set_d false))
    rw [← hw3]
    clear hw3 d0 df
    obtain ⟨⟨r0, r1, r2, r3, r4, r5⟩, s0, s1, s2, s3, s4, s5⟩ := HD3.out.zres
    go_wp2
    obtain ⟨w99, hw9⟩ : ∃ w9, w9 = ((((((w3.setCell ⟨rb, 0, none⟩ (.int .i64 0)).setCell ⟨rb, 1, none⟩ (.int .i64 0)).setCell ⟨rb, 2, none⟩ (.int .i64 0)).setCell ⟨rb, 3, none⟩ (.int .i64 0)).setCell ⟨rb, 4, none⟩ (.int .i64 0)).setCell ⟨rb, 5, none⟩ (.int .i64 0)) := ⟨_, rfl⟩
    have HF9 := Lib.hid (show HelRes w99 rb .zero ∧ RowH 108 w99 _ _ ∧ RDelDid w w99 p v av q _ from by rw [hw9]; exact HD3.out.fin .zero)
    rw [← hw9]
    clear hw9 r0 r1 r2 r3 r4 r5 s0 s1 s2 s3 s4 s5
    obtain ⟨⟨q0, q1, q2, q3, q4, q5⟩, _⟩ := HF9.out.1
    refine bodyPost_ret (v := .tuple #[.agg #[.int .i64 Hel.zero.t, .int .i64 Hel.zero.len, .int .i64 Hel.zero.flow, .int .i64 Hel.zero.band, .int .i64 Hel.zero.mark, .int .i64 Hel.zero.n], .slice none 0 0, .bool false]) (by simp [results, Tryd.results103, go_sem, q0, q1, q2, q3, q4, q5]) rfl ?_
    rw [HT.out]
    exact ⟨_, rfl, HF9.out.2.1, HF9.out.2.2⟩
  | true =>
    cases hd : a1.d with
    | true =>
      rw [hd] at d0
      cases bad with
      | false =>
        have HT := Lib.hid (show T = (a1.stop, x, [], true) from by rw [HT0.out]; show delTake _ _ _ = _; unfold delTake; rw [if_neg (by intro e; cases e), if_pos hd, if_pos rfl])
        clear hd
        go_upto_region 8 with fail
        obtain ⟨w3, hw3⟩ : ∃ w3, w3 = w2.setCell ⟨p, 7, none⟩ (.bool false) := ⟨_, rfl⟩
        have HD3 := Lib.hid (show RDTk w w3 p xb rb v av _ _ q (a1.stop) _ _ _ from by rw [hw3]; exact HD2.out.set 7 (.bool false) (HD2.out.at_.set_d false))
        rw [← hw3]
        clear hw3 d0 df
        obtain ⟨t0, t1, t2, t3, t4, t5⟩ := HD3.out.res.at_
        obtain ⟨⟨r0, r1, r2, r3, r4, r5⟩, s0, s1, s2, s3, s4, s5⟩ := HD3.out.zres
        go_wp2
        obtain ⟨w99, hw9⟩ : ∃ w9, w9 = ((((((w3.setCell ⟨rb, 0, none⟩ (.int .i64 x.t)).setCell ⟨rb, 1, none⟩ (.int .i64 x.len)).setCell ⟨rb, 2, none⟩ (.int .i64 x.flow)).setCell ⟨rb, 3, none⟩ (.int .i64 x.band)).setCell ⟨rb, 4, none⟩ (.int .i64 x.mark)).setCell ⟨rb, 5, none⟩ (.int .i64 x.n)) := ⟨_, rfl⟩
        have HF9 := Lib.hid (show HelRes w99 rb x ∧ RowH 108 w99 _ _ ∧ RDelDid w w99 p v av q _ from by rw [hw9]; exact HD3.out.fin x)
        rw [← hw9]
        clear hw9 r0 r1 r2 r3 r4 r5 s0 s1 s2 s3 s4 s5
        obtain ⟨⟨q0, q1, q2, q3, q4, q5⟩, _⟩ := HF9.out.1
        refine bodyPost_ret (v := .tuple #[.agg #[.int .i64 x.t, .int .i64 x.len, .int .i64 x.flow, .int .i64 x.band, .int .i64 x.mark, .int .i64 x.n], .slice none 0 0, .bool true]) (by simp [results, Tryd.results103, go_sem, q0, q1, q2, q3, q4, q5]) rfl ?_
        rw [HT.out]
        exact ⟨_, rfl, HF9.out.2.1, HF9.out.2.2⟩
      | true =>
        obtain ⟨R, hR⟩ : ∃ R, R = delLoop q now (a1.l.length + 1) a1 x true [] := ⟨_, rfl⟩
        have HT := Lib.hid (show T = (R.1, R.2.1, R.2.2.2, R.2.2.1) from by rw [HT0.out, hR]; show delTake _ _ _ = _; unfold delTake; rw [if_neg (by intro e; cases e), if_pos hd, if_neg (by intro e; cases e)])
        have HLO0 : Hid (LoopOk q a1 n) := Lib.hid ⟨HPO.out.ok, fun _ => by
          have h1 := HPO.out.some rfl
          have h2 := HPO.out.ct
          have h3 := HCT.out
          have h4 : a1.l.length + 1 = a.l.length := h1
          have h5 : a1.ct = a.ct := h2
          rw [h5]
          omega⟩
        have HR0' := Lib.hid hR.symm
        have hl1 : a1.l.length ≤ 300 := by
          have h1 : a1.l.length ≤ n := HPO.out.ok.l.few
          have h2 := HPO.out.ok.l.n
          omega
        clear hd hR HT0
        go_wp2
        clear d0 df
        go_loopg [8, 10] (a1.l.length + 1) (fun g s8 s10 wr => ∃ (k0 : Nat) (cur : DelS) (xc : Hel) (okc : Bool) (lost : List Hel) (vv avv : Value), k0 = g ∧ s8 = .bool okc ∧ (cur.d = true → cur.l.length < k0) ∧ Hid (delLoop q now k0 cur xc okc lost = R) ∧ Hid (LoopOk q cur n) ∧ Hid (RDTk w wr p xb rb v av vv avv q cur xc s10 lost) ∧ lost.length + k0 = a1.l.length + 1)
        case atStart => exact ⟨_, a1, x, true, [], v1, av1, rfl, rfl, fun _ => Nat.lt_succ_self _, HR0', HLO0, HD2, by simp⟩
        case round =>
          obtain ⟨k0, cur, xc, okc, lost, vv, avv, rfl, rfl, hgl, HLP, HLO, HD, hlen⟩ := hrel
          obtain ⟨d0, df, n0⟩ := And.intro HD.out.at_.d (And.intro HD.out.at_.df HD.out.at_.nx)
          by_cases hgo : cur.d = true ∧ cur.nx ≤ now
          · obtain ⟨hd, hn⟩ := hgo
            have hk := hgl hd
            obtain ⟨k, rfl⟩ : ∃ k, k0 = k + 1 := ⟨k0 - 1, by omega⟩
            have HLC := Lib.hid (HLO.out.count hd)
            have HP2 := Lib.hid (delPull_ok HQ.out HNOW.out HLC.out)
            have HPC2 := Lib.hid (fun w h => rdelpull_any p vv avv q HQ.out cur.count n HLC.out now HNOW.out w h)
            have HLN := Lib.hid (HLO.out.next HQ.out HNOW.out hd hn)
            have HLL := Lib.hid (delAft_len HQ.out HNOW.out HLO.out hd)
            have HLQ := Lib.hid (show delLoop q now k (delAft q (delPull q cur.count now)) (delPull q cur.count now).2.1 (delPull q cur.count now).2.2.1 (lost ++ [xc]) = R from by rw [← HLP.out, delLoop_go hd hn])
            have CW := Lib.hid (show wrap64 (cur.ct + 1) = cur.ct + 1 from by have h1 := HLO.out.ok.ct; have h2 := HLO.out.ok.l.n; unfold wrap64; omega)
            generalize delPull q cur.count now = P2 at *
            obtain ⟨a2, x2, sm2, bad2⟩ := P2
            have HDT := Lib.hid (show a2.d = true from (show a2.d = cur.d from HP2.out.d).trans hd)
            simp only [] at HPC2 HLQ
            unfold Hel.val at HPC2
            rw [hd] at d0
            obtain ⟨⟨r0, r1, r2, r3, r4, r5⟩, s0, s1, s2, s3, s4, s5⟩ := HD.out.res
            go_upto_region 12 with (at_builtin; refine wpList_append_rowH rfl _ _ _ (by rfl) i0 Hel.zero.val Tryd.underlying38 hi0 hz0 hz1 hz2 rfl ?c1 (by rfl) (HD.out.row.gr ((Gr.refl _).alloc _)) ⟨wr.heap.size, 0, none⟩ 1 [xc] (by rfl) (by simp) ?c3 ?c2 ?_; (case c1 => (intro u hu; exact (cells_int Hel.zero u (by simpa [Hel.val, Value.cells, Hel.cells] using hu)).2)); (case c3 => (rw [flat_one]; exact (held_new wr xc rfl).news)); (case c2 => (simp <;> omega)); intro v4 w4 hrow hgr hown hold; have HD4 := Lib.hid (HD.out.app ((Gr.refl _).alloc _) hrow hgr hown); clear hrow hgr hown hold)
            clear d0 df n0 r0 r1 r2 r3 r4 r5 s0 s1 s2 s3 s4 s5
            obtain ⟨d0, df⟩ := And.intro HD4.out.at_.ct HD4.out.at_.ctf
            go_upto_region 13 with fail
            rw [CW.out]
            obtain ⟨w5, hw3⟩ : ∃ w3, w3 = w4.setCell ⟨p, 8, none⟩ (.int .i64 (cur.ct + 1)) := ⟨_, rfl⟩
            have HD5 := Lib.hid (show RDTk w w5 p xb rb v av _ _ q (cur.count) _ _ _ from by rw [hw3]; exact HD4.out.set 8 (.int .i64 (cur.ct + 1)) (HD4.out.at_.set_ct _))
            rw [← hw3]
            clear hw3 d0 df
            go_upto_region 14 with (go_at_call 105; refine (HPC2.out _ HD5.out.at_).mono ?_; rintro e w6 ⟨rfl, hdid⟩; obtain ⟨v2, av2, hd6⟩ := HD5.out.pull hdid; have HD6 := Lib.hid hd6; obtain ⟨⟨r0, r1, r2, r3, r4, r5⟩, s0, s1, s2, s3, s4, s5⟩ := hd6.res; clear hdid hd6)
            obtain ⟨w7, hw7⟩ : ∃ w7, w7 = ((((((w6.setCell ⟨xb, 0, none⟩ (.int .i64 x2.t)).setCell ⟨xb, 1, none⟩ (.int .i64 x2.len)).setCell ⟨xb, 2, none⟩ (.int .i64 x2.flow)).setCell ⟨xb, 3, none⟩ (.int .i64 x2.band)).setCell ⟨xb, 4, none⟩ (.int .i64 x2.mark)).setCell ⟨xb, 5, none⟩ (.int .i64 x2.n)) := ⟨_, rfl⟩
            have HD7 := Lib.hid (show RDTk w w7 p xb rb v av _ _ q _ x2 _ _ from by rw [hw7]; exact HD6.out.put x2)
            rw [← hw7]
            clear hw7 r0 r1 r2 r3 r4 r5 s0 s1 s2 s3 s4 s5
            obtain ⟨d0, df⟩ := And.intro HD7.out.at_.d HD7.out.at_.df
            go_upto_region 15 with fail
            cases bad2 with
            | false =>
              obtain ⟨w8, hw3⟩ : ∃ w3, w3 = w7.setCell ⟨p, 7, none⟩ (.bool false) := ⟨_, rfl⟩
              have HD8 := Lib.hid (show RDTk w w8 p xb rb v av _ _ q (a2.stop) _ _ _ from by rw [hw3]; exact HD7.out.set 7 (.bool false) (HD7.out.at_.set_d false))
              rw [← hw3]
              clear hw3 d0 df
              go_wp2
              go_roundg k
              case measure => simp
              case rel => exact ⟨k, a2.stop, x2, sm2, lost ++ [xc], v2, av2, rfl, rfl, (fun e => by cases e), HLQ, HLN, HD8, by simp; omega⟩
            | true =>
              obtain ⟨w8, hw3⟩ : ∃ w3, w3 = w7.setCell ⟨p, 7, none⟩ (.bool true) := ⟨_, rfl⟩
              have HD8 := Lib.hid (show RDTk w w8 p xb rb v av _ _ q (⟨a2.l, a2.ab, true, a2.nx, a2.ct⟩) _ _ _ from by rw [hw3]; exact HD7.out.set 7 (.bool true) (HD7.out.at_.set_d true))
              rw [← hw3]
              clear hw3 d0 df
              have HBD := Lib.hid (show ((1 : Int) ≤ a2.ct ∧ a2.ct ≤ 900) ∧ (0 ≤ a2.nx ∧ a2.nx ≤ 10000000) from by
                have h1 := HP2.out.ok.nx
                have h2 : a2.ct = cur.ct + 1 := HP2.out.ct
                have h3 := HLO.out.ok.ct
                have h4 := HLO.out.ok.l.n
                have h5 : 0 ≤ a2.nx ∧ a2.nx ≤ 2000000 := h1
                omega)
              obtain ⟨n0, nf⟩ := And.intro HD8.out.at_.nx HD8.out.at_.nxf
              go_wp2_with (go_at_call 104; refine (rdellaw_any p a2.nx a2.ct q HQ.out w8 HD8.out.at_.s1 HD8.out.at_.ct HBD.out.1 HBD.out.2).mono ?_; rintro e w9 ⟨rfl, hg9⟩; have HD9 := Lib.hid (HD8.out.gr hg9); obtain ⟨d0, df⟩ := And.intro HD9.out.at_.nx HD9.out.at_.nxf; clear hg9)
              obtain ⟨w10, hw3⟩ : ∃ w3, w3 = w9.setCell ⟨p, 9, none⟩ (.int .i64 (delLaw q a2.nx a2.ct)) := ⟨_, rfl⟩
              have HD10 := Lib.hid (show RDTk w w10 p xb rb v av _ _ q (⟨a2.l, a2.ab, true, delLaw q a2.nx a2.ct, a2.ct⟩) _ _ _ from by rw [hw3]; exact HD9.out.set 9 (.int .i64 (delLaw q a2.nx a2.ct)) (HD9.out.at_.set_nx _))
              rw [← hw3]
              clear hw3 d0 df
              have HNE : Hid ((⟨a2.l, a2.ab, true, delLaw q a2.nx a2.ct, a2.ct⟩ : DelS) = a2.next q) := Lib.hid (by unfold DelS.next; rw [HDT.out])
              go_roundg k
              case measure => simp
              case rel => exact ⟨k, a2.next q, x2, sm2, lost ++ [xc], v2, av2, rfl, rfl, (fun e => by have := HLL.out e; have h2 : (a2.next q).l.length + 1 = cur.l.length := this; omega), HLQ, HLN, Lib.hid (by rw [← HNE.out]; exact HD10.out), by simp; omega⟩
          · have HT := Lib.hid (show T = (cur, xc, lost, okc) from by rw [HT.out, ← HLP.out, delLoop_end hgo])
            clear hgl
            cases hd : cur.d with
            | false =>
              rw [hd] at d0
              clear hd hgo
              go_upto_region 17 with fail
              clear d0 df n0
              obtain ⟨t0, t1, t2, t3, t4, t5⟩ := HD.out.res.at_
              obtain ⟨⟨r0, r1, r2, r3, r4, r5⟩, s0, s1, s2, s3, s4, s5⟩ := HD.out.zres
              go_wp2
              obtain ⟨w99, hw9⟩ : ∃ w9, w9 = ((((((wr.setCell ⟨rb, 0, none⟩ (.int .i64 xc.t)).setCell ⟨rb, 1, none⟩ (.int .i64 xc.len)).setCell ⟨rb, 2, none⟩ (.int .i64 xc.flow)).setCell ⟨rb, 3, none⟩ (.int .i64 xc.band)).setCell ⟨rb, 4, none⟩ (.int .i64 xc.mark)).setCell ⟨rb, 5, none⟩ (.int .i64 xc.n)) := ⟨_, rfl⟩
              have HF9 := Lib.hid (show HelRes w99 rb xc ∧ RowH 108 w99 _ _ ∧ RDelDid w w99 p v av q _ from by rw [hw9]; exact HD.out.fin xc)
              rw [← hw9]
              clear hw9 r0 r1 r2 r3 r4 r5 s0 s1 s2 s3 s4 s5
              obtain ⟨⟨q0, q1, q2, q3, q4, q5⟩, _⟩ := HF9.out.1
              refine bodyPost_ret (v := .tuple #[.agg #[.int .i64 xc.t, .int .i64 xc.len, .int .i64 xc.flow, .int .i64 xc.band, .int .i64 xc.mark, .int .i64 xc.n], u10, .bool okc]) (by simp [results, Tryd.results103, go_sem, q0, q1, q2, q3, q4, q5]) rfl ?_
              rw [HT.out]
              exact ⟨_, rfl, HF9.out.2.1, HF9.out.2.2⟩
            | true =>
              have hn : ¬ cur.nx ≤ now := fun e => hgo ⟨hd, e⟩
              rw [hd] at d0
              clear hd hgo
              go_upto_region 17 with fail
              clear d0 df n0
              obtain ⟨t0, t1, t2, t3, t4, t5⟩ := HD.out.res.at_
              obtain ⟨⟨r0, r1, r2, r3, r4, r5⟩, s0, s1, s2, s3, s4, s5⟩ := HD.out.zres
              go_wp2
              obtain ⟨w99, hw9⟩ : ∃ w9, w9 = ((((((wr.setCell ⟨rb, 0, none⟩ (.int .i64 xc.t)).setCell ⟨rb, 1, none⟩ (.int .i64 xc.len)).setCell ⟨rb, 2, none⟩ (.int .i64 xc.flow)).setCell ⟨rb, 3, none⟩ (.int .i64 xc.band)).setCell ⟨rb, 4, none⟩ (.int .i64 xc.mark)).setCell ⟨rb, 5, none⟩ (.int .i64 xc.n)) := ⟨_, rfl⟩
              have HF9 := Lib.hid (show HelRes w99 rb xc ∧ RowH 108 w99 _ _ ∧ RDelDid w w99 p v av q _ from by rw [hw9]; exact HD.out.fin xc)
              rw [← hw9]
              clear hw9 r0 r1 r2 r3 r4 r5 s0 s1 s2 s3 s4 s5
              obtain ⟨⟨q0, q1, q2, q3, q4, q5⟩, _⟩ := HF9.out.1
              refine bodyPost_ret (v := .tuple #[.agg #[.int .i64 xc.t, .int .i64 xc.len, .int .i64 xc.flow, .int .i64 xc.band, .int .i64 xc.mark, .int .i64 xc.n], u10, .bool okc]) (by simp [results, Tryd.results103, go_sem, q0, q1, q2, q3, q4, q5]) rfl ?_
              rw [HT.out]
              exact ⟨_, rfl, HF9.out.2.1, HF9.out.2.2⟩
    | false =>
      rw [hd] at d0
      cases bad with
      | false =>
        have HT := Lib.hid (show T = (a1, x, [], true) from by rw [HT0.out]; show delTake _ _ _ = _; unfold delTake; rw [if_neg (by intro e; cases e), if_neg (by rw [hd]; intro e; cases e), if_neg (by intro e; cases e)])
        clear hd
        go_upto_region 26 with fail
        clear d0 df
        obtain ⟨t0, t1, t2, t3, t4, t5⟩ := HD2.out.res.at_
        obtain ⟨⟨r0, r1, r2, r3, r4, r5⟩, s0, s1, s2, s3, s4, s5⟩ := HD2.out.zres
        go_wp2
        obtain ⟨w99, hw9⟩ : ∃ w9, w9 = ((((((w2.setCell ⟨rb, 0, none⟩ (.int .i64 x.t)).setCell ⟨rb, 1, none⟩ (.int .i64 x.len)).setCell ⟨rb, 2, none⟩ (.int .i64 x.flow)).setCell ⟨rb, 3, none⟩ (.int .i64 x.band)).setCell ⟨rb, 4, none⟩ (.int .i64 x.mark)).setCell ⟨rb, 5, none⟩ (.int .i64 x.n)) := ⟨_, rfl⟩
        have HF9 := Lib.hid (show HelRes w99 rb x ∧ RowH 108 w99 _ _ ∧ RDelDid w w99 p v av q _ from by rw [hw9]; exact HD2.out.fin x)
        rw [← hw9]
        clear hw9 r0 r1 r2 r3 r4 r5 s0 s1 s2 s3 s4 s5
        obtain ⟨⟨q0, q1, q2, q3, q4, q5⟩, _⟩ := HF9.out.1
        refine bodyPost_ret (v := .tuple #[.agg #[.int .i64 x.t, .int .i64 x.len, .int .i64 x.flow, .int .i64 x.band, .int .i64 x.mark, .int .i64 x.n], .slice none 0 0, .bool true]) (by simp [results, Tryd.results103, go_sem, q0, q1, q2, q3, q4, q5]) rfl ?_
        rw [HT.out]
        exact ⟨_, rfl, HF9.out.2.1, HF9.out.2.2⟩
      | true =>
        have HP2 := Lib.hid (delPull_ok HQ.out HNOW.out HPO.out.ok)
        have HPC2 := Lib.hid (fun w h => rdelpull_any p v1 av1 q HQ.out a1 n HPO.out.ok now HNOW.out w h)
        have HT := Lib.hid (show T = (delFirst q now (delPull q a1 now).1, (delPull q a1 now).2.1, [x], (delPull q a1 now).2.2.1) from by rw [HT0.out]; show delTake _ _ _ = _; unfold delTake; rw [if_neg (by intro e; cases e), if_neg (by rw [hd]; intro e; cases e), if_pos rfl])
        clear HT0 hd
        generalize delPull q a1 now = P2 at *
        obtain ⟨a2, x2, sm2, bad2⟩ := P2
        simp only [] at HPC2 HT
        unfold Hel.val at HPC2
        have HCB := Lib.hid (delCt_in q now (a := a2) HP2.out.ok.ct.1)
        have HCC := Lib.hid (show 0 ≤ a2.ct ∧ a2.ct ≤ 200 from by have h1 : 0 ≤ a2.ct ∧ a2.ct + a2.l.length ≤ n := HP2.out.ok.ct; have h2 := HNN.out; omega)
        have HNB := Lib.hid (show 0 ≤ a2.nx ∧ a2.nx ≤ 2000000 from HP2.out.ok.nx)
        have C16 := Lib.hid (show IntKind.i64.wrap (16 * q.span) = 16 * q.span from by have := HQ.out.span; rw [IntKind.wrap_i64]; omega)
        have CNX := Lib.hid (show IntKind.i64.wrap (now - a2.nx) = now - a2.nx from by have h1 := HNB.out; have h2 := HNOW.out.1; have h3 := HNOW.out.2; rw [IntKind.wrap_i64]; omega)
        obtain ⟨⟨r0, r1, r2, r3, r4, r5⟩, s0, s1, s2, s3, s4, s5⟩ := HD2.out.res
        go_upto_region 20 with (at_builtin; refine wpList_append_rowH rfl _ _ _ (by rfl) i0 Hel.zero.val Tryd.underlying38 hi0 hz0 hz1 hz2 rfl ?c1 (by rfl) (HD2.out.row.gr ((Gr.refl _).alloc _)) ⟨w2.heap.size, 0, none⟩ 1 [x] (by rfl) (by simp) ?c3 ?c2 ?_; (case c1 => (intro u hu; exact (cells_int Hel.zero u (by simpa [Hel.val, Value.cells, Hel.cells] using hu)).2)); (case c3 => (rw [flat_one]; exact (held_new w2 x rfl).news)); (case c2 => (simp <;> omega)); intro v4 w4 hrow hgr hown hold; have HD4 := Lib.hid (HD2.out.app ((Gr.refl _).alloc _) hrow hgr hown); clear hrow hgr hown hold)
        clear d0 df r0 r1 r2 r3 r4 r5 s0 s1 s2 s3 s4 s5
        go_upto_region 21 with (go_at_call 105; refine (HPC2.out _ HD4.out.at_).mono ?_; rintro e w6 ⟨rfl, hdid⟩; obtain ⟨v2, av2, hd6⟩ := HD4.out.pull hdid; have HD6 := Lib.hid hd6; obtain ⟨⟨r0, r1, r2, r3, r4, r5⟩, s0, s1, s2, s3, s4, s5⟩ := hd6.res; clear hdid hd6)
        obtain ⟨w7, hw7⟩ : ∃ w7, w7 = ((((((w6.setCell ⟨xb, 0, none⟩ (.int .i64 x2.t)).setCell ⟨xb, 1, none⟩ (.int .i64 x2.len)).setCell ⟨xb, 2, none⟩ (.int .i64 x2.flow)).setCell ⟨xb, 3, none⟩ (.int .i64 x2.band)).setCell ⟨xb, 4, none⟩ (.int .i64 x2.mark)).setCell ⟨xb, 5, none⟩ (.int .i64 x2.n)) := ⟨_, rfl⟩
        have HD7 := Lib.hid (show RDTk w w7 p xb rb v av _ _ q _ x2 _ _ from by rw [hw7]; exact HD6.out.put x2)
        rw [← hw7]
        clear hw7 r0 r1 r2 r3 r4 r5 s0 s1 s2 s3 s4 s5
        obtain ⟨d0, df⟩ := And.intro HD7.out.at_.d HD7.out.at_.df
        go_upto_region 22 with fail
        obtain ⟨w8, hw3⟩ : ∃ w3, w3 = w7.setCell ⟨p, 7, none⟩ (.bool true) := ⟨_, rfl⟩
        have HD8 := Lib.hid (show RDTk w w8 p xb rb v av _ _ q (⟨a2.l, a2.ab, true, a2.nx, a2.ct⟩) _ _ _ from by rw [hw3]; exact HD7.out.set 7 (.bool true) (HD7.out.at_.set_d true))
        rw [← hw3]
        clear hw3 d0 df
        by_cases c1 : 2 < a2.ct
        · have C1 := Lib.hid (decide_eq_true c1)
          by_cases c2 : now - a2.nx < 16 * q.span
          · have C2 := Lib.hid (decide_eq_true c2)
            have HCE := Lib.hid (show delCt q now a2 = a2.ct - 2 from by unfold delCt; rw [if_pos ⟨c1, c2⟩])
            have CW := Lib.hid (show wrap64 (a2.ct - 2) = a2.ct - 2 from by have := HCC.out; unfold wrap64; omega)
            clear c1 c2
            refine wp_region_gg (n := 18) [Fg.eq (.pointer (some ⟨p, 0, none⟩)), Fg.eq (.pointer (some ⟨p, 0, none⟩)), Fg.eq (.pointer (some ⟨p, 8, none⟩)), Fg.eq (.int .i64 a2.ct), Fg.eq (.bool true), Fg.eq (.bool true), Fg.eq (.int .i64 now), Fg.eq (.pointer (some ⟨p, 0, none⟩)), Fg.eq (.pointer (some ⟨p, 0, none⟩)), Fg.eq (.pointer (some ⟨p, 9, none⟩)), Fg.eq (.int .i64 a2.nx), Fg.eq (.int .i64 (now - a2.nx)), Fg.eq (.pointer (some ⟨p, 0, none⟩)), Fg.eq (.pointer (some ⟨p, 0, none⟩)), Fg.eq (.pointer (some ⟨p, 5, none⟩)), Fg.eq (.int .i64 q.span), Fg.eq (.int .i64 (16 * q.span)), Fg.eq (.bool true)] [102, 103, 104, 105, 106, 107, 108, 109, 110, 111, 112, 113, 114, 115, 116, 117, 118, 119] (by kernel_rfl) (by kernel_rfl) (by kernel_rfl) ?_ ?_
            · intro L i o' ac w1 hi ho hA
              have hgr : Gr w8 w1 := (Gr.refl w8).drew.trans hA.gr
              match i, hi with
              | 0, _ =>
                obtain rfl := Option.some.inj ho
                exact gg_plain rfl (gstep_val (q_move rfl (show ac.eval (.tmp 0) = .pointer (some ⟨p, 0, none⟩) from hA.other 0 (by decide))) rfl)
              | 1, _ =>
                obtain rfl := Option.some.inj ho
                exact gg_plain rfl (gstep_val (q_nil rfl (hA.fact 0 (hA.dep 0 (by kernel_rfl) (by decide)))) rfl)
              | 2, _ =>
                obtain rfl := Option.some.inj ho
                exact gg_plain rfl (gstep_val (rdt_fa_millraceref_Delayed_5 rfl (hA.fact 1 (hA.dep 1 (by kernel_rfl) (by decide)))) rfl)
              | 3, _ =>
                obtain rfl := Option.some.inj ho
                exact gg_plain rfl (gstep_val (q_loadI rfl (hA.fact 2 (hA.dep 2 (by kernel_rfl) (by decide))) (hgr.cell HD8.out.at_.ct)) rfl)
              | 4, _ =>
                obtain rfl := Option.some.inj ho
                exact gg_plain rfl (gstep_val (rdt_gtr rfl (hA.fact 3 (hA.dep 3 (by kernel_rfl) (by decide))) rfl (C1.out)) rfl)
              | 5, _ =>
                obtain rfl := Option.some.inj ho
                exact gg_plain rfl (gstep_val (q_move rfl (hA.fact 4 (hA.dep 4 (by kernel_rfl) (by decide)))) rfl)
              | 6, _ =>
                obtain rfl := Option.some.inj ho
                exact gg_yes (b := true) rfl (hA.fact 5 (hA.dep 5 (by kernel_rfl) (by decide))) (gstep_val (q_move rfl (show ac.eval (.tmp 1) = .int .i64 now from hA.other 1 (by decide))) rfl)
              | 7, _ =>
                obtain rfl := Option.some.inj ho
                exact gg_yes (b := true) rfl (hA.fact 5 (hA.dep 5 (by kernel_rfl) (by decide))) (gstep_val (q_move rfl (show ac.eval (.tmp 0) = .pointer (some ⟨p, 0, none⟩) from hA.other 0 (by decide))) rfl)
              | 8, _ =>
                obtain rfl := Option.some.inj ho
                exact gg_yes (b := true) rfl (hA.fact 5 (hA.dep 5 (by kernel_rfl) (by decide))) (gstep_val (q_nil rfl (hA.fact 7 (hA.dep 7 (by kernel_rfl) (by decide)))) rfl)
              | 9, _ =>
                obtain rfl := Option.some.inj ho
                exact gg_yes (b := true) rfl (hA.fact 5 (hA.dep 5 (by kernel_rfl) (by decide))) (gstep_val (rdt_fa_millraceref_Delayed_6 rfl (hA.fact 8 (hA.dep 8 (by kernel_rfl) (by decide)))) rfl)
              | 10, _ =>
                obtain rfl := Option.some.inj ho
                exact gg_yes (b := true) rfl (hA.fact 5 (hA.dep 5 (by kernel_rfl) (by decide))) (gstep_val (q_loadI rfl (hA.fact 9 (hA.dep 9 (by kernel_rfl) (by decide))) (hgr.cell HD8.out.at_.nx)) rfl)
              | 11, _ =>
                obtain rfl := Option.some.inj ho
                exact gg_yes (b := true) rfl (hA.fact 5 (hA.dep 5 (by kernel_rfl) (by decide))) (gstep_val (rdt_sub rfl (hA.fact 6 (hA.dep 6 (by kernel_rfl) (by decide))) (hA.fact 10 (hA.dep 10 (by kernel_rfl) (by decide))) (CNX.out)) rfl)
              | 12, _ =>
                obtain rfl := Option.some.inj ho
                exact gg_yes (b := true) rfl (hA.fact 5 (hA.dep 5 (by kernel_rfl) (by decide))) (gstep_val (q_move rfl (show ac.eval (.tmp 0) = .pointer (some ⟨p, 0, none⟩) from hA.other 0 (by decide))) rfl)
              | 13, _ =>
                obtain rfl := Option.some.inj ho
                exact gg_yes (b := true) rfl (hA.fact 5 (hA.dep 5 (by kernel_rfl) (by decide))) (gstep_val (q_nil rfl (hA.fact 12 (hA.dep 12 (by kernel_rfl) (by decide)))) rfl)
              | 14, _ =>
                obtain rfl := Option.some.inj ho
                exact gg_yes (b := true) rfl (hA.fact 5 (hA.dep 5 (by kernel_rfl) (by decide))) (gstep_val (rdt_fa_millraceref_Delayed_2 rfl (hA.fact 13 (hA.dep 13 (by kernel_rfl) (by decide)))) rfl)
              | 15, _ =>
                obtain rfl := Option.some.inj ho
                exact gg_yes (b := true) rfl (hA.fact 5 (hA.dep 5 (by kernel_rfl) (by decide))) (gstep_val (q_loadI rfl (hA.fact 14 (hA.dep 14 (by kernel_rfl) (by decide))) (hgr.cell HD8.out.at_.s1)) rfl)
              | 16, _ =>
                obtain rfl := Option.some.inj ho
                exact gg_yes (b := true) rfl (hA.fact 5 (hA.dep 5 (by kernel_rfl) (by decide))) (gstep_val (rdt_mul rfl rfl (hA.fact 15 (hA.dep 15 (by kernel_rfl) (by decide))) (C16.out)) rfl)
              | 17, _ =>
                obtain rfl := Option.some.inj ho
                exact gg_yes (b := true) rfl (hA.fact 5 (hA.dep 5 (by kernel_rfl) (by decide))) (gstep_val (rdt_lss rfl (hA.fact 11 (hA.dep 11 (by kernel_rfl) (by decide))) (hA.fact 16 (hA.dep 16 (by kernel_rfl) (by decide))) (C2.out)) rfl)
              | k + 18, hk => exact absurd (show k + 18 < 18 from hk) (by omega)
            · intro vs w5 hg5 hv
              have HGX := Lib.hid ((Gr.refl w8).drew.trans hg5)
              have v107 : vs 5 = .bool true := hv 5 (by omega)
              have v119 : vs 17 = .bool true := hv 17 (by omega)
              clear hv hg5
              simp only [putN, List.drop_succ_cons, List.drop_zero, List.getElem?_cons_succ, List.getElem?_cons_zero]
              generalize vs 5 = z107 at *
              subst v107
              generalize vs 17 = z119 at *
              subst v119
              generalize vs 0 = z102 at *
              generalize vs 1 = z103 at *
              generalize vs 2 = z104 at *
              generalize vs 3 = z105 at *
              generalize vs 4 = z106 at *
              generalize vs 6 = z108 at *
              generalize vs 7 = z109 at *
              generalize vs 8 = z110 at *
              generalize vs 9 = z111 at *
              generalize vs 10 = z112 at *
              generalize vs 11 = z113 at *
              generalize vs 12 = z114 at *
              generalize vs 13 = z115 at *
              generalize vs 14 = z116 at *
              generalize vs 15 = z117 at *
              generalize vs 16 = z118 at *
              have HD9 := Lib.hid (HD8.out.gr HGX.out)
              obtain ⟨d0, df⟩ := And.intro HD9.out.at_.ct HD9.out.at_.ctf
              go_upto_region 25 with fail
              rw [CW.out]
              obtain ⟨w10, hw3⟩ : ∃ w3, w3 = w5.setCell ⟨p, 8, none⟩ (.int .i64 (a2.ct - 2)) := ⟨_, rfl⟩
              have HD10 := Lib.hid (show RDTk w w10 p xb rb v av _ _ q (⟨a2.l, a2.ab, true, a2.nx, a2.ct - 2⟩) _ _ _ from by rw [hw3]; exact HD9.out.set 8 (.int .i64 (a2.ct - 2)) (HD9.out.at_.set_ct _))
              rw [← hw3]
              clear hw3 d0 df
              have HBD := Lib.hid (show ((1 : Int) ≤ a2.ct - 2 ∧ a2.ct - 2 ≤ (900 : Int)) ∧ (0 ≤ now ∧ now ≤ 10000000) from by
                have h1 := HCB.out
                have h2 := HCC.out
                have h3 := HCE.out
                have h4 := HNOW.out.1
                have h5 := HNOW.out.2
                omega)
              go_upto_region 26 with (go_at_call 104; refine (rdellaw_any p now (a2.ct - 2) q HQ.out w10 HD10.out.at_.s1 HD10.out.at_.ct HBD.out.1 HBD.out.2).mono ?_; rintro e w11 ⟨rfl, hg11⟩; have HD11 := Lib.hid (HD10.out.gr hg11); obtain ⟨d0, df⟩ := And.intro HD11.out.at_.nx HD11.out.at_.nxf; clear hg11)
              obtain ⟨w12, hw3⟩ : ∃ w3, w3 = w11.setCell ⟨p, 9, none⟩ (.int .i64 (delLaw q now (a2.ct - 2))) := ⟨_, rfl⟩
              have HD12x := Lib.hid (show RDTk w w12 p xb rb v av _ _ q (⟨a2.l, a2.ab, true, delLaw q now (a2.ct - 2), a2.ct - 2⟩) _ _ _ from by rw [hw3]; exact HD11.out.set 9 (.int .i64 (delLaw q now (a2.ct - 2))) (HD11.out.at_.set_nx _))
              rw [← hw3]
              clear hw3 d0 df
              have HD12 := Lib.hid (show RDTk w w12 p xb rb v av _ _ q (delFirst q now a2) _ _ _ from by rw [delFirst_eq, HCE.out]; exact HD12x.out)
              obtain ⟨t0, t1, t2, t3, t4, t5⟩ := HD12.out.res.at_
              obtain ⟨⟨r0, r1, r2, r3, r4, r5⟩, s0, s1, s2, s3, s4, s5⟩ := HD12.out.zres
              go_wp2
              obtain ⟨w99, hw9⟩ : ∃ w9, w9 = ((((((w12.setCell ⟨rb, 0, none⟩ (.int .i64 x2.t)).setCell ⟨rb, 1, none⟩ (.int .i64 x2.len)).setCell ⟨rb, 2, none⟩ (.int .i64 x2.flow)).setCell ⟨rb, 3, none⟩ (.int .i64 x2.band)).setCell ⟨rb, 4, none⟩ (.int .i64 x2.mark)).setCell ⟨rb, 5, none⟩ (.int .i64 x2.n)) := ⟨_, rfl⟩
              have HF9 := Lib.hid (show HelRes w99 rb x2 ∧ RowH 108 w99 _ _ ∧ RDelDid w w99 p v av q _ from by rw [hw9]; exact HD12.out.fin x2)
              rw [← hw9]
              clear hw9 r0 r1 r2 r3 r4 r5 s0 s1 s2 s3 s4 s5
              obtain ⟨⟨q0, q1, q2, q3, q4, q5⟩, _⟩ := HF9.out.1
              refine bodyPost_ret (v := .tuple #[.agg #[.int .i64 x2.t, .int .i64 x2.len, .int .i64 x2.flow, .int .i64 x2.band, .int .i64 x2.mark, .int .i64 x2.n], v4, .bool sm2]) (by simp [results, Tryd.results103, go_sem, q0, q1, q2, q3, q4, q5]) rfl ?_
              rw [HT.out]
              exact ⟨_, rfl, HF9.out.2.1, HF9.out.2.2⟩
          · have C2 := Lib.hid (decide_eq_false c2)
            have HCE := Lib.hid (show delCt q now a2 = 1 from by unfold delCt; rw [if_neg (fun e => c2 e.2)])
            clear c1 c2
            refine wp_region_gg (n := 18) [Fg.eq (.pointer (some ⟨p, 0, none⟩)), Fg.eq (.pointer (some ⟨p, 0, none⟩)), Fg.eq (.pointer (some ⟨p, 8, none⟩)), Fg.eq (.int .i64 a2.ct), Fg.eq (.bool true), Fg.eq (.bool true), Fg.eq (.int .i64 now), Fg.eq (.pointer (some ⟨p, 0, none⟩)), Fg.eq (.pointer (some ⟨p, 0, none⟩)), Fg.eq (.pointer (some ⟨p, 9, none⟩)), Fg.eq (.int .i64 a2.nx), Fg.eq (.int .i64 (now - a2.nx)), Fg.eq (.pointer (some ⟨p, 0, none⟩)), Fg.eq (.pointer (some ⟨p, 0, none⟩)), Fg.eq (.pointer (some ⟨p, 5, none⟩)), Fg.eq (.int .i64 q.span), Fg.eq (.int .i64 (16 * q.span)), Fg.eq (.bool false)] [102, 103, 104, 105, 106, 107, 108, 109, 110, 111, 112, 113, 114, 115, 116, 117, 118, 119] (by kernel_rfl) (by kernel_rfl) (by kernel_rfl) ?_ ?_
            · intro L i o' ac w1 hi ho hA
              have hgr : Gr w8 w1 := (Gr.refl w8).drew.trans hA.gr
              match i, hi with
              | 0, _ =>
                obtain rfl := Option.some.inj ho
                exact gg_plain rfl (gstep_val (q_move rfl (show ac.eval (.tmp 0) = .pointer (some ⟨p, 0, none⟩) from hA.other 0 (by decide))) rfl)
              | 1, _ =>
                obtain rfl := Option.some.inj ho
                exact gg_plain rfl (gstep_val (q_nil rfl (hA.fact 0 (hA.dep 0 (by kernel_rfl) (by decide)))) rfl)
              | 2, _ =>
                obtain rfl := Option.some.inj ho
                exact gg_plain rfl (gstep_val (rdt_fa_millraceref_Delayed_5 rfl (hA.fact 1 (hA.dep 1 (by kernel_rfl) (by decide)))) rfl)
              | 3, _ =>
                obtain rfl := Option.some.inj ho
                exact gg_plain rfl (gstep_val (q_loadI rfl (hA.fact 2 (hA.dep 2 (by kernel_rfl) (by decide))) (hgr.cell HD8.out.at_.ct)) rfl)
              | 4, _ =>
                obtain rfl := Option.some.inj ho
                exact gg_plain rfl (gstep_val (rdt_gtr rfl (hA.fact 3 (hA.dep 3 (by kernel_rfl) (by decide))) rfl (C1.out)) rfl)
              | 5, _ =>
                obtain rfl := Option.some.inj ho
                exact gg_plain rfl (gstep_val (q_move rfl (hA.fact 4 (hA.dep 4 (by kernel_rfl) (by decide)))) rfl)
              | 6, _ =>
                obtain rfl := Option.some.inj ho
                exact gg_yes (b := true) rfl (hA.fact 5 (hA.dep 5 (by kernel_rfl) (by decide))) (gstep_val (q_move rfl (show ac.eval (.tmp 1) = .int .i64 now from hA.other 1 (by decide))) rfl)
              | 7, _ =>
                obtain rfl := Option.some.inj ho
                exact gg_yes (b := true) rfl (hA.fact 5 (hA.dep 5 (by kernel_rfl) (by decide))) (gstep_val (q_move rfl (show ac.eval (.tmp 0) = .pointer (some ⟨p, 0, none⟩) from hA.other 0 (by decide))) rfl)
              | 8, _ =>
                obtain rfl := Option.some.inj ho
                exact gg_yes (b := true) rfl (hA.fact 5 (hA.dep 5 (by kernel_rfl) (by decide))) (gstep_val (q_nil rfl (hA.fact 7 (hA.dep 7 (by kernel_rfl) (by decide)))) rfl)
              | 9, _ =>
                obtain rfl := Option.some.inj ho
                exact gg_yes (b := true) rfl (hA.fact 5 (hA.dep 5 (by kernel_rfl) (by decide))) (gstep_val (rdt_fa_millraceref_Delayed_6 rfl (hA.fact 8 (hA.dep 8 (by kernel_rfl) (by decide)))) rfl)
              | 10, _ =>
                obtain rfl := Option.some.inj ho
                exact gg_yes (b := true) rfl (hA.fact 5 (hA.dep 5 (by kernel_rfl) (by decide))) (gstep_val (q_loadI rfl (hA.fact 9 (hA.dep 9 (by kernel_rfl) (by decide))) (hgr.cell HD8.out.at_.nx)) rfl)
              | 11, _ =>
                obtain rfl := Option.some.inj ho
                exact gg_yes (b := true) rfl (hA.fact 5 (hA.dep 5 (by kernel_rfl) (by decide))) (gstep_val (rdt_sub rfl (hA.fact 6 (hA.dep 6 (by kernel_rfl) (by decide))) (hA.fact 10 (hA.dep 10 (by kernel_rfl) (by decide))) (CNX.out)) rfl)
              | 12, _ =>
                obtain rfl := Option.some.inj ho
                exact gg_yes (b := true) rfl (hA.fact 5 (hA.dep 5 (by kernel_rfl) (by decide))) (gstep_val (q_move rfl (show ac.eval (.tmp 0) = .pointer (some ⟨p, 0, none⟩) from hA.other 0 (by decide))) rfl)
              | 13, _ =>
                obtain rfl := Option.some.inj ho
                exact gg_yes (b := true) rfl (hA.fact 5 (hA.dep 5 (by kernel_rfl) (by decide))) (gstep_val (q_nil rfl (hA.fact 12 (hA.dep 12 (by kernel_rfl) (by decide)))) rfl)
              | 14, _ =>
                obtain rfl := Option.some.inj ho
                exact gg_yes (b := true) rfl (hA.fact 5 (hA.dep 5 (by kernel_rfl) (by decide))) (gstep_val (rdt_fa_millraceref_Delayed_2 rfl (hA.fact 13 (hA.dep 13 (by kernel_rfl) (by decide)))) rfl)
              | 15, _ =>
                obtain rfl := Option.some.inj ho
                exact gg_yes (b := true) rfl (hA.fact 5 (hA.dep 5 (by kernel_rfl) (by decide))) (gstep_val (q_loadI rfl (hA.fact 14 (hA.dep 14 (by kernel_rfl) (by decide))) (hgr.cell HD8.out.at_.s1)) rfl)
              | 16, _ =>
                obtain rfl := Option.some.inj ho
                exact gg_yes (b := true) rfl (hA.fact 5 (hA.dep 5 (by kernel_rfl) (by decide))) (gstep_val (rdt_mul rfl rfl (hA.fact 15 (hA.dep 15 (by kernel_rfl) (by decide))) (C16.out)) rfl)
              | 17, _ =>
                obtain rfl := Option.some.inj ho
                exact gg_yes (b := true) rfl (hA.fact 5 (hA.dep 5 (by kernel_rfl) (by decide))) (gstep_val (rdt_lss rfl (hA.fact 11 (hA.dep 11 (by kernel_rfl) (by decide))) (hA.fact 16 (hA.dep 16 (by kernel_rfl) (by decide))) (C2.out)) rfl)
              | k + 18, hk => exact absurd (show k + 18 < 18 from hk) (by omega)
            · intro vs w5 hg5 hv
              have HGX := Lib.hid ((Gr.refl w8).drew.trans hg5)
              have v107 : vs 5 = .bool true := hv 5 (by omega)
              have v119 : vs 17 = .bool false := hv 17 (by omega)
              clear hv hg5
              simp only [putN, List.drop_succ_cons, List.drop_zero, List.getElem?_cons_succ, List.getElem?_cons_zero]
              generalize vs 5 = z107 at *
              subst v107
              generalize vs 17 = z119 at *
              subst v119
              generalize vs 0 = z102 at *
              generalize vs 1 = z103 at *
              generalize vs 2 = z104 at *
              generalize vs 3 = z105 at *
              generalize vs 4 = z106 at *
              generalize vs 6 = z108 at *
              generalize vs 7 = z109 at *
              generalize vs 8 = z110 at *
              generalize vs 9 = z111 at *
              generalize vs 10 = z112 at *
              generalize vs 11 = z113 at *
              generalize vs 12 = z114 at *
              generalize vs 13 = z115 at *
              generalize vs 14 = z116 at *
              generalize vs 15 = z117 at *
              generalize vs 16 = z118 at *
              have HD9 := Lib.hid (HD8.out.gr HGX.out)
              obtain ⟨d0, df⟩ := And.intro HD9.out.at_.ct HD9.out.at_.ctf
              go_upto_region 25 with fail
              obtain ⟨w10, hw3⟩ : ∃ w3, w3 = w5.setCell ⟨p, 8, none⟩ (.int .i64 (1)) := ⟨_, rfl⟩
              have HD10 := Lib.hid (show RDTk w w10 p xb rb v av _ _ q (⟨a2.l, a2.ab, true, a2.nx, 1⟩) _ _ _ from by rw [hw3]; exact HD9.out.set 8 (.int .i64 (1)) (HD9.out.at_.set_ct _))
              rw [← hw3]
              clear hw3 d0 df
              have HBD := Lib.hid (show ((1 : Int) ≤ 1 ∧ 1 ≤ (900 : Int)) ∧ (0 ≤ now ∧ now ≤ 10000000) from by
                have h1 := HCB.out
                have h2 := HCC.out
                have h3 := HCE.out
                have h4 := HNOW.out.1
                have h5 := HNOW.out.2
                omega)
              go_upto_region 26 with (go_at_call 104; refine (rdellaw_any p now (1) q HQ.out w10 HD10.out.at_.s1 HD10.out.at_.ct HBD.out.1 HBD.out.2).mono ?_; rintro e w11 ⟨rfl, hg11⟩; have HD11 := Lib.hid (HD10.out.gr hg11); obtain ⟨d0, df⟩ := And.intro HD11.out.at_.nx HD11.out.at_.nxf; clear hg11)
              obtain ⟨w12, hw3⟩ : ∃ w3, w3 = w11.setCell ⟨p, 9, none⟩ (.int .i64 (delLaw q now (1))) := ⟨_, rfl⟩
              have HD12x := Lib.hid (show RDTk w w12 p xb rb v av _ _ q (⟨a2.l, a2.ab, true, delLaw q now (1), 1⟩) _ _ _ from by rw [hw3]; exact HD11.out.set 9 (.int .i64 (delLaw q now (1))) (HD11.out.at_.set_nx _))
              rw [← hw3]
              clear hw3 d0 df
              have HD12 := Lib.hid (show RDTk w w12 p xb rb v av _ _ q (delFirst q now a2) _ _ _ from by rw [delFirst_eq, HCE.out]; exact HD12x.out)
              obtain ⟨t0, t1, t2, t3, t4, t5⟩ := HD12.out.res.at_
              obtain ⟨⟨r0, r1, r2, r3, r4, r5⟩, s0, s1, s2, s3, s4, s5⟩ := HD12.out.zres
              go_wp2
              obtain ⟨w99, hw9⟩ : ∃ w9, w9 = ((((((w12.setCell ⟨rb, 0, none⟩ (.int .i64 x2.t)).setCell ⟨rb, 1, none⟩ (.int .i64 x2.len)).setCell ⟨rb, 2, none⟩ (.int .i64 x2.flow)).setCell ⟨rb, 3, none⟩ (.int .i64 x2.band)).setCell ⟨rb, 4, none⟩ (.int .i64 x2.mark)).setCell ⟨rb, 5, none⟩ (.int .i64 x2.n)) := ⟨_, rfl⟩
              have HF9 := Lib.hid (show HelRes w99 rb x2 ∧ RowH 108 w99 _ _ ∧ RDelDid w w99 p v av q _ from by rw [hw9]; exact HD12.out.fin x2)
              rw [← hw9]
              clear hw9 r0 r1 r2 r3 r4 r5 s0 s1 s2 s3 s4 s5
              obtain ⟨⟨q0, q1, q2, q3, q4, q5⟩, _⟩ := HF9.out.1
              refine bodyPost_ret (v := .tuple #[.agg #[.int .i64 x2.t, .int .i64 x2.len, .int .i64 x2.flow, .int .i64 x2.band, .int .i64 x2.mark, .int .i64 x2.n], v4, .bool sm2]) (by simp [results, Tryd.results103, go_sem, q0, q1, q2, q3, q4, q5]) rfl ?_
              rw [HT.out]
              exact ⟨_, rfl, HF9.out.2.1, HF9.out.2.2⟩
        · have C1 := Lib.hid (decide_eq_false c1)
          have C2 : Hid True := trivial
          have HCE := Lib.hid (show delCt q now a2 = 1 from by unfold delCt; rw [if_neg (fun e => c1 e.1)])
          clear c1
          refine wp_region_gg (n := 18) [Fg.eq (.pointer (some ⟨p, 0, none⟩)), Fg.eq (.pointer (some ⟨p, 0, none⟩)), Fg.eq (.pointer (some ⟨p, 8, none⟩)), Fg.eq (.int .i64 a2.ct), Fg.eq (.bool false), Fg.eq (.bool false), Fg.eq undef, Fg.eq undef, Fg.eq undef, Fg.eq undef, Fg.eq undef, Fg.eq undef, Fg.eq undef, Fg.eq undef, Fg.eq undef, Fg.eq undef, Fg.eq undef, Fg.eq undef] [102, 103, 104, 105, 106, 107, 108, 109, 110, 111, 112, 113, 114, 115, 116, 117, 118, 119] (by kernel_rfl) (by kernel_rfl) (by kernel_rfl) ?_ ?_
          · intro L i o' ac w1 hi ho hA
            have hgr : Gr w8 w1 := (Gr.refl w8).drew.trans hA.gr
            match i, hi with
            | 0, _ =>
              obtain rfl := Option.some.inj ho
              exact gg_plain rfl (gstep_val (q_move rfl (show ac.eval (.tmp 0) = .pointer (some ⟨p, 0, none⟩) from hA.other 0 (by decide))) rfl)
            | 1, _ =>
              obtain rfl := Option.some.inj ho
              exact gg_plain rfl (gstep_val (q_nil rfl (hA.fact 0 (hA.dep 0 (by kernel_rfl) (by decide)))) rfl)
            | 2, _ =>
              obtain rfl := Option.some.inj ho
              exact gg_plain rfl (gstep_val (rdt_fa_millraceref_Delayed_5 rfl (hA.fact 1 (hA.dep 1 (by kernel_rfl) (by decide)))) rfl)
            | 3, _ =>
              obtain rfl := Option.some.inj ho
              exact gg_plain rfl (gstep_val (q_loadI rfl (hA.fact 2 (hA.dep 2 (by kernel_rfl) (by decide))) (hgr.cell HD8.out.at_.ct)) rfl)
            | 4, _ =>
              obtain rfl := Option.some.inj ho
              exact gg_plain rfl (gstep_val (rdt_gtr rfl (hA.fact 3 (hA.dep 3 (by kernel_rfl) (by decide))) rfl (C1.out)) rfl)
            | 5, _ =>
              obtain rfl := Option.some.inj ho
              exact gg_plain rfl (gstep_val (q_move rfl (hA.fact 4 (hA.dep 4 (by kernel_rfl) (by decide)))) rfl)
            | 6, _ =>
              obtain rfl := Option.some.inj ho
              exact gg_no (b := true) rfl (hA.fact 5 (hA.dep 5 (by kernel_rfl) (by decide))) rfl
            | 7, _ =>
              obtain rfl := Option.some.inj ho
              exact gg_no (b := true) rfl (hA.fact 5 (hA.dep 5 (by kernel_rfl) (by decide))) rfl
            | 8, _ =>
              obtain rfl := Option.some.inj ho
              exact gg_no (b := true) rfl (hA.fact 5 (hA.dep 5 (by kernel_rfl) (by decide))) rfl
            | 9, _ =>
              obtain rfl := Option.some.inj ho
              exact gg_no (b := true) rfl (hA.fact 5 (hA.dep 5 (by kernel_rfl) (by decide))) rfl
            | 10, _ =>
              obtain rfl := Option.some.inj ho
              exact gg_no (b := true) rfl (hA.fact 5 (hA.dep 5 (by kernel_rfl) (by decide))) rfl
            | 11, _ =>
              obtain rfl := Option.some.inj ho
              exact gg_no (b := true) rfl (hA.fact 5 (hA.dep 5 (by kernel_rfl) (by decide))) rfl
            | 12, _ =>
              obtain rfl := Option.some.inj ho
              exact gg_no (b := true) rfl (hA.fact 5 (hA.dep 5 (by kernel_rfl) (by decide))) rfl
            | 13, _ =>
              obtain rfl := Option.some.inj ho
              exact gg_no (b := true) rfl (hA.fact 5 (hA.dep 5 (by kernel_rfl) (by decide))) rfl
            | 14, _ =>
              obtain rfl := Option.some.inj ho
              exact gg_no (b := true) rfl (hA.fact 5 (hA.dep 5 (by kernel_rfl) (by decide))) rfl
            | 15, _ =>
              obtain rfl := Option.some.inj ho
              exact gg_no (b := true) rfl (hA.fact 5 (hA.dep 5 (by kernel_rfl) (by decide))) rfl
            | 16, _ =>
              obtain rfl := Option.some.inj ho
              exact gg_no (b := true) rfl (hA.fact 5 (hA.dep 5 (by kernel_rfl) (by decide))) rfl
            | 17, _ =>
              obtain rfl := Option.some.inj ho
              exact gg_no (b := true) rfl (hA.fact 5 (hA.dep 5 (by kernel_rfl) (by decide))) rfl
            | k + 18, hk => exact absurd (show k + 18 < 18 from hk) (by omega)
          · intro vs w5 hg5 hv
            have HGX := Lib.hid ((Gr.refl w8).drew.trans hg5)
            have v107 : vs 5 = .bool false := hv 5 (by omega)
            have v119 : vs 17 = undef := hv 17 (by omega)
            clear hv hg5
            simp only [putN, List.drop_succ_cons, List.drop_zero, List.getElem?_cons_succ, List.getElem?_cons_zero]
            generalize vs 5 = z107 at *
            subst v107
            generalize vs 17 = z119 at *
            subst v119
            generalize vs 0 = z102 at *
            generalize vs 1 = z103 at *
            generalize vs 2 = z104 at *
            generalize vs 3 = z105 at *
            generalize vs 4 = z106 at *
            generalize vs 6 = z108 at *
            generalize vs 7 = z109 at *
            generalize vs 8 = z110 at *
            generalize vs 9 = z111 at *
            generalize vs 10 = z112 at *
            generalize vs 11 = z113 at *
            generalize vs 12 = z114 at *
            generalize vs 13 = z115 at *
            generalize vs 14 = z116 at *
            generalize vs 15 = z117 at *
            generalize vs 16 = z118 at *
            have HD9 := Lib.hid (HD8.out.gr HGX.out)
            obtain ⟨d0, df⟩ := And.intro HD9.out.at_.ct HD9.out.at_.ctf
            go_upto_region 25 with fail
            obtain ⟨w10, hw3⟩ : ∃ w3, w3 = w5.setCell ⟨p, 8, none⟩ (.int .i64 (1)) := ⟨_, rfl⟩
            have HD10 := Lib.hid (show RDTk w w10 p xb rb v av _ _ q (⟨a2.l, a2.ab, true, a2.nx, 1⟩) _ _ _ from by rw [hw3]; exact HD9.out.set 8 (.int .i64 (1)) (HD9.out.at_.set_ct _))
            rw [← hw3]
            clear hw3 d0 df
            have HBD := Lib.hid (show ((1 : Int) ≤ 1 ∧ 1 ≤ (900 : Int)) ∧ (0 ≤ now ∧ now ≤ 10000000) from by
              have h1 := HCB.out
              have h2 := HCC.out
              have h3 := HCE.out
              have h4 := HNOW.out.1
              have h5 := HNOW.out.2
              omega)
            go_upto_region 26 with (go_at_call 104; refine (rdellaw_any p now (1) q HQ.out w10 HD10.out.at_.s1 HD10.out.at_.ct HBD.out.1 HBD.out.2).mono ?_; rintro e w11 ⟨rfl, hg11⟩; have HD11 := Lib.hid (HD10.out.gr hg11); obtain ⟨d0, df⟩ := And.intro HD11.out.at_.nx HD11.out.at_.nxf; clear hg11)
            obtain ⟨w12, hw3⟩ : ∃ w3, w3 = w11.setCell ⟨p, 9, none⟩ (.int .i64 (delLaw q now (1))) := ⟨_, rfl⟩
            have HD12x := Lib.hid (show RDTk w w12 p xb rb v av _ _ q (⟨a2.l, a2.ab, true, delLaw q now (1), 1⟩) _ _ _ from by rw [hw3]; exact HD11.out.set 9 (.int .i64 (delLaw q now (1))) (HD11.out.at_.set_nx _))
            rw [← hw3]
            clear hw3 d0 df
            have HD12 := Lib.hid (show RDTk w w12 p xb rb v av _ _ q (delFirst q now a2) _ _ _ from by rw [delFirst_eq, HCE.out]; exact HD12x.out)
            obtain ⟨t0, t1, t2, t3, t4, t5⟩ := HD12.out.res.at_
            obtain ⟨⟨r0, r1, r2, r3, r4, r5⟩, s0, s1, s2, s3, s4, s5⟩ := HD12.out.zres
            go_wp2
            obtain ⟨w99, hw9⟩ : ∃ w9, w9 = ((((((w12.setCell ⟨rb, 0, none⟩ (.int .i64 x2.t)).setCell ⟨rb, 1, none⟩ (.int .i64 x2.len)).setCell ⟨rb, 2, none⟩ (.int .i64 x2.flow)).setCell ⟨rb, 3, none⟩ (.int .i64 x2.band)).setCell ⟨rb, 4, none⟩ (.int .i64 x2.mark)).setCell ⟨rb, 5, none⟩ (.int .i64 x2.n)) := ⟨_, rfl⟩
            have HF9 := Lib.hid (show HelRes w99 rb x2 ∧ RowH 108 w99 _ _ ∧ RDelDid w w99 p v av q _ from by rw [hw9]; exact HD12.out.fin x2)
            rw [← hw9]
            clear hw9 r0 r1 r2 r3 r4 r5 s0 s1 s2 s3 s4 s5
            obtain ⟨⟨q0, q1, q2, q3, q4, q5⟩, _⟩ := HF9.out.1
            refine bodyPost_ret (v := .tuple #[.agg #[.int .i64 x2.t, .int .i64 x2.len, .int .i64 x2.flow, .int .i64 x2.band, .int .i64 x2.mark, .int .i64 x2.n], v4, .bool sm2]) (by simp [results, Tryd.results103, go_sem, q0, q1, q2, q3, q4, q5]) rfl ?_
            rw [HT.out]
            exact ⟨_, rfl, HF9.out.2.1, HF9.out.2.2⟩
end Go.Proofs.YtbpofdfehcbppaaDoor

/-
  The reference's Delayed: its cells, law, pull. (Printed by gendel2.py.)
-/
import Derived.Test.YtbpofdfehcbppaaDoorDelA
import Derived.Test.YtbpofdfehcbppaaDoorFifoS
import Derived.Test.YtbpofdfehcbppaaDoorRedD
import Derived.Test.YtbpofdfehcbppaaDoorDelB
import Derived.Test.YtbpofdfehcbppaaDoorRegG
import Derived.BigQuiet
import Derived.BigGuardPart
import Derived.BigRegion
import Derived.Deep.RegionWith
namespace Go.Proofs.YtbpofdfehcbppaaDoor
open Go.RowKit Go.Extern.Stop Go.Stop Go.Extern

/-- A, if it is something. -/
def AbV (w : World) (av : Value) (ab : Int) : Prop := (av = .slice none 0 0 ∧ ab = -1) ∨ ∃ g, av = .slice (some ⟨g, 0, none⟩) 1 1 ∧ w.cell? ⟨g, 0, none⟩ = some (.int .i64 ab) ∧ 0 ≤ ab
theorem AbV.sav {w w' : World} {av : Value} {ab : Int} {B : Nat → Prop} (h : AbV w av ab) (k : Sav B w w') (ha : ∀ g, av.ownBlock = some g → ¬ B g) : AbV w' av ab := by
  rcases h with h | ⟨g, rfl, h2, h3⟩
  · exact .inl h
  · exact .inr ⟨g, rfl, k.cell h2 (ha g rfl), h3⟩
theorem AbV.gr {w w' : World} {av : Value} {ab : Int} (h : AbV w av ab) (k : Gr w w') : AbV w' av ab := h.sav (B := fun _ => False) (.of_gr k) (fun _ _ => id)
/-- A Delayed of the reference's at p. -/
structure RDelAt (w : World) (p : Nat) (v av : Value) (q : DelP) (l : List Hel) (ab : Int) (d : Bool) (nx ct : Int) : Prop where
  f : RFifoAt w p v l q.P 1000000 false
  s0 : w.cell? ⟨p, 4, none⟩ = some (.int .i64 q.target)
  s1 : w.cell? ⟨p, 5, none⟩ = some (.int .i64 q.span)
  a : w.cell? ⟨p, 6, none⟩ = some (av)
  af : w.frozen? ⟨p, 6, none⟩ = false
  d : w.cell? ⟨p, 7, none⟩ = some (.bool d)
  df : w.frozen? ⟨p, 7, none⟩ = false
  ct : w.cell? ⟨p, 8, none⟩ = some (.int .i64 ct)
  ctf : w.frozen? ⟨p, 8, none⟩ = false
  nx : w.cell? ⟨p, 9, none⟩ = some (.int .i64 nx)
  nxf : w.frozen? ⟨p, 9, none⟩ = false
  abv : AbV w av ab
  ap : ∀ g, av.ownBlock = some g → g ≠ p ∧ v.ownBlock ≠ some g ∧ g < w.heap.size
theorem RDelAt.lt {w : World} {p : Nat} {v av : Value} {q : DelP} {l : List Hel} {ab : Int} {d : Bool} {nx ct : Int} (h : RDelAt w p v av q l ab d nx ct) : p < w.heap.size := cell_lt h.s0
theorem RDelAt.sav {w w' : World} {p : Nat} {v av : Value} {q : DelP} {l : List Hel} {ab : Int} {d : Bool} {nx ct : Int} {B : Nat → Prop} (h : RDelAt w p v av q l ab d nx ct) (k : Sav B w w') (hp : ¬ B p) (hv : ∀ g, v.ownBlock = some g → ¬ B g) (ha : ∀ g, av.ownBlock = some g → ¬ B g) : RDelAt w' p v av q l ab d nx ct :=
  have lt := h.lt
  ⟨h.f.sav k hp hv, k.cell h.s0 hp, k.cell h.s1 hp, k.cell h.a hp, k.frozen (p := ⟨p, 6, none⟩) lt h.af hp, k.cell h.d hp, k.frozen (p := ⟨p, 7, none⟩) lt h.df hp, k.cell h.ct hp, k.frozen (p := ⟨p, 8, none⟩) lt h.ctf hp, k.cell h.nx hp, k.frozen (p := ⟨p, 9, none⟩) lt h.nxf hp, h.abv.sav k ha, fun g hg => ⟨(h.ap g hg).1, (h.ap g hg).2.1, Nat.lt_of_lt_of_le (h.ap g hg).2.2 k.size⟩⟩
theorem RDelAt.gr {w w' : World} {p : Nat} {v av : Value} {q : DelP} {l : List Hel} {ab : Int} {d : Bool} {nx ct : Int} (h : RDelAt w p v av q l ab d nx ct) (k : Gr w w') : RDelAt w' p v av q l ab d nx ct := h.sav (B := fun _ => False) (.of_gr k) id (fun _ _ => id) (fun _ _ => id)
theorem RDelAt.set_a {w : World} {p : Nat} {v av : Value} {q : DelP} {l : List Hel} {ab : Int} {d : Bool} {nx ct : Int} (h : RDelAt w p v av q l ab d nx ct) {av' : Value} {ab' : Int} (ha : AbV w av' ab') (ho : ∀ g, av'.ownBlock = some g → g ≠ p ∧ v.ownBlock ≠ some g ∧ g < w.heap.size) : RDelAt (w.setCell ⟨p, 6, none⟩ (av')) p v av' q l ab' d nx ct :=
  ⟨h.f.setc 6 _ (by decide), cell_so h.s0 (by simp), cell_so h.s1 (by simp), cell_ss h.a, by simpa using h.af, cell_so h.d (by simp), by simpa using h.df, cell_so h.ct (by simp), by simpa using h.ctf, cell_so h.nx (by simp), by simpa using h.nxf, ha.sav (.set p 6 _) (fun g hg e => (ho g hg).1 e), fun g hg => ⟨(ho g hg).1, (ho g hg).2.1, by simpa using (ho g hg).2.2⟩⟩
theorem RDelAt.set_d {w : World} {p : Nat} {v av : Value} {q : DelP} {l : List Hel} {ab : Int} {d : Bool} {nx ct : Int} (h : RDelAt w p v av q l ab d nx ct) (d' : Bool) : RDelAt (w.setCell ⟨p, 7, none⟩ (.bool d')) p v av q l ab d' nx ct :=
  ⟨h.f.setc 7 _ (by decide), cell_so h.s0 (by simp), cell_so h.s1 (by simp), cell_so h.a (by simp), by simpa using h.af, cell_ss h.d, by simpa using h.df, cell_so h.ct (by simp), by simpa using h.ctf, cell_so h.nx (by simp), by simpa using h.nxf, h.abv.sav (.set p 7 _) (fun g hg e => (h.ap g hg).1 e), fun g hg => ⟨(h.ap g hg).1, (h.ap g hg).2.1, by simpa using (h.ap g hg).2.2⟩⟩
theorem RDelAt.set_ct {w : World} {p : Nat} {v av : Value} {q : DelP} {l : List Hel} {ab : Int} {d : Bool} {nx ct : Int} (h : RDelAt w p v av q l ab d nx ct) (ct' : Int) : RDelAt (w.setCell ⟨p, 8, none⟩ (.int .i64 ct')) p v av q l ab d nx ct' :=
  ⟨h.f.setc 8 _ (by decide), cell_so h.s0 (by simp), cell_so h.s1 (by simp), cell_so h.a (by simp), by simpa using h.af, cell_so h.d (by simp), by simpa using h.df, cell_ss h.ct, by simpa using h.ctf, cell_so h.nx (by simp), by simpa using h.nxf, h.abv.sav (.set p 8 _) (fun g hg e => (h.ap g hg).1 e), fun g hg => ⟨(h.ap g hg).1, (h.ap g hg).2.1, by simpa using (h.ap g hg).2.2⟩⟩
theorem RDelAt.set_nx {w : World} {p : Nat} {v av : Value} {q : DelP} {l : List Hel} {ab : Int} {d : Bool} {nx ct : Int} (h : RDelAt w p v av q l ab d nx ct) (nx' : Int) : RDelAt (w.setCell ⟨p, 9, none⟩ (.int .i64 nx')) p v av q l ab d nx' ct :=
  ⟨h.f.setc 9 _ (by decide), cell_so h.s0 (by simp), cell_so h.s1 (by simp), cell_so h.a (by simp), by simpa using h.af, cell_so h.d (by simp), by simpa using h.df, cell_so h.ct (by simp), by simpa using h.ctf, cell_ss h.nx, by simpa using h.nxf, h.abv.sav (.set p 9 _) (fun g hg e => (h.ap g hg).1 e), fun g hg => ⟨(h.ap g hg).1, (h.ap g hg).2.1, by simpa using (h.ap g hg).2.2⟩⟩
theorem RDelAt.fifo {w w' : World} {p : Nat} {v av : Value} {q : DelP} {l : List Hel} {ab : Int} {d : Bool} {nx ct : Int} {v' : Value} {l' : List Hel} (h : RDelAt w p v av q l ab d nx ct) (dd : RDid w w' p 3 v v' l') : RDelAt w' p v' av q l' ab d nx ct :=
  ⟨h.f.then dd, (dd.sav.cell 4 (by decide)).trans h.s0, (dd.sav.cell 5 (by decide)).trans h.s1, (dd.sav.cell 6 (by decide)).trans h.a, (dd.sav.frozen 6).trans h.af, (dd.sav.cell 7 (by decide)).trans h.d, (dd.sav.frozen 7).trans h.df, (dd.sav.cell 8 (by decide)).trans h.ct, (dd.sav.frozen 8).trans h.ctf, (dd.sav.cell 9 (by decide)).trans h.nx, (dd.sav.frozen 9).trans h.nxf, h.abv.sav dd.sav.sav (fun g hg e => e.elim (h.ap g hg).1 (h.ap g hg).2.1), fun g hg => ⟨(h.ap g hg).1, fun e => (dd.own g e).elim (h.ap g hg).2.1 (fun h1 => by have := (h.ap g hg).2.2; omega), Nat.lt_of_lt_of_le (h.ap g hg).2.2 dd.sav.sav.size⟩⟩

section
variable {ev : Operand → Value} {o : Oper} {w : World} {x y z : Operand} {u : Value}
theorem rdl_not {b c : Bool} {t : TypeId} (ho : o.op = .unOp .not t x) (h : ev x = .bool b) (hc : (!b) = c) : (execOp ev o).run Tryd.prog w = .ok (.value (.bool c)) w := by
  subst hc
  simp [execOp, ho, h, go_sem]
theorem rdl_pickF (ho : o.op = .pick x y z) (h : ev x = .bool false) (k : ev z = u) : (execOp ev o).run Tryd.prog w = .ok (.value u) w := by
  simp [execOp, ho, h, k, go_sem]
theorem rdl_pickT (ho : o.op = .pick x y z) (h : ev x = .bool true) (k : ev y = u) : (execOp ev o).run Tryd.prog w = .ok (.value u) w := by
  simp [execOp, ho, h, k, go_sem]
theorem rdl_fa_millraceref_Pack_0 {p o' : Nat} (ho : o.op = .fieldAddr 108 x 0) (h : ev x = .pointer (some ⟨p, o', none⟩)) : (execOp ev o).run Tryd.prog w = .ok (.value (.pointer (some ⟨p, o', none⟩))) w := by
  simp [execOp, ho, h, go_sem]
theorem rdl_fa_api_Item_0 {p o' : Nat} (ho : o.op = .fieldAddr 103 x 0) (h : ev x = .pointer (some ⟨p, o', none⟩)) : (execOp ev o).run Tryd.prog w = .ok (.value (.pointer (some ⟨p, o', none⟩))) w := by
  simp [execOp, ho, h, go_sem]
theorem rdl_sub {m n r : Int} (ho : o.op = .binOp .sub 3 x y 3) (h : ev x = .int .i64 m) (k : ev y = .int .i64 n) (hb : IntKind.i64.wrap (m - n) = r) : (execOp ev o).run Tryd.prog w = .ok (.value (.int .i64 r)) w := by
  subst hb
  simp [execOp, ho, h, k, go_sem]
theorem rdl_fa_millraceref_Delayed_1 {p o' : Nat} (ho : o.op = .fieldAddr 74 x 1) (h : ev x = .pointer (some ⟨p, o', none⟩)) : (execOp ev o).run Tryd.prog w = .ok (.value (.pointer (some ⟨p, o' + 4, none⟩))) w := by
  simp [execOp, ho, h, go_sem]
theorem rdl_lss {m n : Int} {b : Bool} (ho : o.op = .binOp .lss 3 x y 3) (h : ev x = .int .i64 m) (k : ev y = .int .i64 n) (hb : decide (m < n) = b) : (execOp ev o).run Tryd.prog w = .ok (.value (.bool b)) w := by
  subst hb
  simp [execOp, ho, h, k, go_sem]
theorem rdl_fa_millraceref_Delayed_0 {p o' : Nat} (ho : o.op = .fieldAddr 74 x 0) (h : ev x = .pointer (some ⟨p, o', none⟩)) : (execOp ev o).run Tryd.prog w = .ok (.value (.pointer (some ⟨p, o', none⟩))) w := by
  simp [execOp, ho, h, go_sem]
theorem rdl_fa_millraceref_Fifo_3 {p o' : Nat} (ho : o.op = .fieldAddr 40 x 3) (h : ev x = .pointer (some ⟨p, o', none⟩)) : (execOp ev o).run Tryd.prog w = .ok (.value (.pointer (some ⟨p, o' + 3, none⟩))) w := by
  simp [execOp, ho, h, go_sem]
theorem rdl_loadS___millraceref_Pack {ad : Addr} {a : Option Addr} {n c : Nat} (ho : o.op = .load 38 x) (h : ev x = .pointer (some ad)) (hc : w.cell? ad = some (.slice a n c)) : (execOp ev o).run Tryd.prog w = .ok (.value (.slice a n c)) w := by
  simp [execOp, ho, h, hc, go_sem]
theorem rdl_len___millraceref_Pack {a : Option Addr} {n c : Nat} (ho : o.op = .call { callee := .builtin .len, args := #[x], argTypes := #[38] }) (h : ev x = .slice a n c) : (execOp ev o).run Tryd.prog w = .ok (.value (.int .i64 (n : Int))) w := by
  simp [execOp, ho, h, resolve, invoke, builtin, Builtin.len_, go_sem]
theorem rdl_eql {m n : Int} {b : Bool} (ho : o.op = .binOp .eql 3 x y 3) (h : ev x = .int .i64 m) (k : ev y = .int .i64 n) (hb : decide (m = n) = b) : (execOp ev o).run Tryd.prog w = .ok (.value (.bool b)) w := by
  subst hb
  simp [execOp, ho, h, k, go_sem]
  rfl
end

theorem isl_nil (n c : Nat) (w : World) : (binOp .eql 42 (.slice none n c) (.slice none 0 0)).run Tryd.prog w = .ok (.bool true) w := by kernel_rfl
theorem isl_no (ad : Addr) (n c : Nat) (w : World) : (binOp .eql 42 (.slice (some ad) n c) (.slice none 0 0)).run Tryd.prog w = .ok (.bool false) w := by kernel_rfl
set_option maxRecDepth 100000 in
set_option maxHeartbeats 4000000 in
theorem rdellaw_any (p : Nat) (t ct : Int) (q : DelP) (hq : q.Ok) (w : World) (hs : w.cell? ⟨p, 5, none⟩ = some (.int .i64 q.span)) (hc : w.cell? ⟨p, 8, none⟩ = some (.int .i64 ct)) (hct : 1 ≤ ct ∧ ct ≤ 900) (ht : 0 ≤ t ∧ t ≤ 10000000) :
    Calls Tryd.prog 104 #[.pointer (some ⟨p, 0, none⟩), .int .i64 t] w fun e w' => e = .returned (.int .i64 (delLaw q t ct)) ∧ Gr w w' := by
  have HSP := Lib.hid hq.span
  have HLW := Lib.hid (delLaw_in hq (t := t) hct.1)
  have HRG := Lib.hid (rootOf_ge (n := 1000000 * ct) (by omega))
  have HCT := Lib.hid hct
  have HTT := Lib.hid ht
  have D1 := Lib.hid (show wrap64 (q.span * 1000) = q.span * 1000 from by have := HSP.out; unfold wrap64; omega)
  have D2 := Lib.hid (show wrap64 (1000000 * ct) = 1000000 * ct from by unfold wrap64; omega)
  clear hct ht
  go_enter Tryd.func104, Tryd.ntmps104
  go_wp2
  go_loop [5] (fun s => ∃ x : Int, 0 ≤ x ∧ Hid (x * x ≤ 1000000 * ct) ∧ s = .int .i64 x) (fun s => (1000000 * ct - intOf s).toNat)
  case atStart => exact ⟨0, Int.le_refl _, Lib.hid (by have := HCT.out; omega), rfl⟩
  case round =>
    obtain ⟨x, h0, HX, rfl⟩ := hrel
    have hx : x ≤ 31623 := by
      rcases Int.lt_or_le 31623 x with h | h
      · exfalso
        have := sq_le (a := 31624) (by omega) (show 31624 ≤ x from h)
        have h2 := HX.out
        have h3 := HCT.out
        omega
      · exact h
    have hb : (x + 1) * (x + 1) ≤ 31624 * 31624 := sq_le (by omega) (by omega)
    have hb0 : 0 ≤ (x + 1) * (x + 1) := Int.mul_nonneg (by omega) (by omega)
    have HW := Lib.hid (show wrap64 ((x + 1) * (x + 1)) = (x + 1) * (x + 1) from by unfold wrap64; omega)
    clear hb hb0
    by_cases hle : (x + 1) * (x + 1) ≤ 1000000 * ct
    · have hw : wrap64 ((x + 1) * (x + 1)) ≤ wrap64 (1000000 * ct) := by rw [HW.out, D2.out]; exact hle
      have HLE := Lib.hid hle
      clear hle
      go_wp2
      go_round
      case rel => exact ⟨x + 1, by omega, HLE, rfl⟩
      case measure =>
        have h1 := HLE.out
        have h2 : x + 1 ≤ (x + 1) * (x + 1) := by
          have := Int.mul_le_mul_of_nonneg_left (show 1 ≤ x + 1 by omega) (show 0 ≤ x + 1 by omega)
          omega
        simp [intOf]
        omega
    · have hw : ¬ wrap64 ((x + 1) * (x + 1)) ≤ wrap64 (1000000 * ct) := by rw [HW.out, D2.out]; exact hle
      have HR := Lib.hid (show rootOf (1000000 * ct) = x from rootOf_is h0 HX.out (by omega))
      have hnz : ¬ x = 0 := by have h1 := HRG.out; rw [HR.out] at h1; omega
      have D3 := Lib.hid (show wrap64 ((q.span * 1000).tdiv x) = q.span * 1000 / x from by
        have h1 := HLW.out
        have h2 := HSP.out
        have h3 := HTT.out
        rw [Int.tdiv_eq_ediv_of_nonneg (by omega)]
        unfold delLaw at h1
        rw [HR.out] at h1
        generalize q.span * 1000 / x = z at *
        unfold wrap64
        omega)
      have D4 := Lib.hid (show wrap64 (t + q.span * 1000 / x) = delLaw q t ct from by
        have h1 := HLW.out
        have h2 := HSP.out
        have h3 := HTT.out
        unfold delLaw at *
        rw [HR.out] at *
        unfold wrap64
        omega)
      clear hle
      go_wp2
      rw [D1.out, D3.out, D4.out]
      go_ret
      exact ⟨rfl, Gr.refl _⟩
/-- What a pull leaves. -/
def RDelDid (w w' : World) (p : Nat) (v av : Value) (q : DelP) (a : DelS) : Prop := ∃ v' av', RDelAt w' p v' av' q a.l a.ab a.d a.nx a.ct ∧ Sav (LFoot p v) w w' ∧ (∀ g, v'.ownBlock = some g → v.ownBlock = some g ∨ w.heap.size ≤ g) ∧ ∀ g, av'.ownBlock = some g → av.ownBlock = some g ∨ w.heap.size ≤ g
theorem rdtake_nil (x : Hel) (hx : x = Hel.zero) (p : Nat) (v : Value) (P : Int) (now : Int) (w : World) (h : RFifoAt w p v [] P 1000000 false) :
    Calls Tryd.prog 85 #[.pointer (some ⟨p, 0, none⟩), .int .i64 now] w fun e w' => ∃ v', e = .returned (.tuple #[.agg #[.int .i64 x.t, .int .i64 x.len, .int .i64 x.flow, .int .i64 x.band, .int .i64 x.mark, .int .i64 x.n], .slice none 0 0, .bool false]) ∧ RDid w w' p 3 v v' [] := by
  subst hx
  exact rftake_any p v [] P 1000000 false now w h (Nat.zero_le _)
theorem rdtake_cons (p : Nat) (v : Value) (x : Hel) (r : List Hel) (P : Int) (now : Int) (w : World) (h : RFifoAt w p v (x :: r) P 1000000 false) (hn : (x :: r).length ≤ 900) :
    Calls Tryd.prog 85 #[.pointer (some ⟨p, 0, none⟩), .int .i64 now] w fun e w' => ∃ v', e = .returned (.tuple #[.agg #[.int .i64 x.t, .int .i64 x.len, .int .i64 x.flow, .int .i64 x.band, .int .i64 x.mark, .int .i64 x.n], .slice none 0 0, .bool true]) ∧ RDid w w' p 3 v v' r :=
  rftake_any p v (x :: r) P 1000000 false now w h hn
set_option maxRecDepth 100000 in
set_option maxHeartbeats 4000000 in
theorem rdelpull_nil (p : Nat) (v av : Value) (q : DelP) (a : DelS) (now : Int) (w : World) (h : RDelAt w p v av q [] a.ab a.d a.nx a.ct) :
    Calls Tryd.prog 105 #[.pointer (some ⟨p, 0, none⟩), .int .i64 now] w fun e w' => e = .returned (.tuple #[Hel.zero.val, .bool false, .bool false]) ∧ RDelDid w w' p v av q ⟨[], -1, a.d, a.nx, a.ct⟩ := by
  obtain ⟨x, hx⟩ : ∃ x, x = Hel.zero := ⟨_, rfl⟩
  rw [← hx]
  have HNX := Lib.hid (fun w h => rdtake_nil x hx p v q.P now w h)
  clear hx
  have HA := Lib.hid h
  have HPL := Lib.hid h.lt
  have HVL := Lib.hid (fun g hg => h.f.l.row.lt (g := g) hg)
  have HAL := Lib.hid (fun g hg => (h.ap g hg).2.2)
  clear h
  go_enter Tryd.func105, Tryd.ntmps105
  go_upto_region 1 with fail
  obtain ⟨w0, hw0⟩ : ∃ w0, w0 = w.alloc (.cells #[.int .i64 0, .int .i64 0, .int .i64 0, .int .i64 0, .int .i64 0, .int .i64 0] 108) := ⟨_, rfl⟩
  obtain ⟨rb, hrb⟩ : ∃ rb, rb = w.heap.size := ⟨_, rfl⟩
  have HR0 : Hid (HelRes w0 rb .zero ∧ rb = w.heap.size) := Lib.hid (by rw [hw0]; exact ⟨helRes_new w .zero hrb, hrb⟩)
  have HG0 : Hid (Gr w w0) := Lib.hid (by rw [hw0]; exact (Gr.refl _).alloc _)
  have HA0 := Lib.hid (HA.out.gr HG0.out)
  rw [← hw0, ← hrb]
  clear hw0 hrb
  have HRP := Lib.hid (show ¬ rb = p from fun e => by have := HR0.out.2; have := HPL.out; omega)
  have HVA0 := Lib.hid (show ∀ g, av.ownBlock = some g → ¬ g = rb from fun g hg e => by have h1 := HAL.out g hg; have h2 := HR0.out.2; omega)
  go_upto_region 3 with (go_at_call 85; refine (HNX.out _ HA0.out.f).mono ?_; rintro e w1 ⟨v', rfl, hd⟩; have HD := Lib.hid hd; have HR1 := Lib.hid (HR0.out.1.sav hd.sav.sav (fun e => e.elim HRP.out (fun e => by have h1 := HVL.out rb e; have h2 := HR0.out.2; omega))); obtain ⟨⟨r0, r1, r2, r3, r4, r5⟩, s0, s1, s2, s3, s4, s5⟩ := HR1.out; clear hd)
  obtain ⟨w2, hw2⟩ : ∃ w2, w2 = ((((((w1.setCell ⟨rb, 0, none⟩ (.int .i64 x.t)).setCell ⟨rb, 1, none⟩ (.int .i64 x.len)).setCell ⟨rb, 2, none⟩ (.int .i64 x.flow)).setCell ⟨rb, 3, none⟩ (.int .i64 x.band)).setCell ⟨rb, 4, none⟩ (.int .i64 x.mark)).setCell ⟨rb, 5, none⟩ (.int .i64 x.n)) := ⟨_, rfl⟩
  have HR2 := Lib.hid (show HelRes w2 rb x ∧ Sav (fun q => q = rb) w1 w2 from by rw [hw2]; exact hel_set6 HR1.out x)
  have HV0 := Lib.hid (show ∀ g, v'.ownBlock = some g → ¬ g = rb from fun g hg e => (HD.out.own g hg).elim (fun h1 => by have h2 := HVL.out g h1; have h3 := HR0.out.2; omega) (fun h1 => by have h2 := HR0.out.1.at_.c0; have h3 : rb < w0.heap.size := cell_lt h2; omega))
  have HA2 := Lib.hid ((HA0.out.fifo HD.out).sav HR2.out.2 (fun e => HRP.out e.symm) HV0.out HVA0.out)
  have HS2 := Lib.hid (show Sav (LFoot p v) w w2 from ((Sav.of_gr HG0.out).then HD.out.sav.sav).trans HR2.out.2 (fun g e => .inr (by rw [e]; exact Nat.le_of_eq HR0.out.2.symm)))
  have HO2 := Lib.hid (show ∀ g, v'.ownBlock = some g → v.ownBlock = some g ∨ w.heap.size ≤ g from fun g hg => (HD.out.own g hg).imp id (Nat.le_trans HG0.out.size))
  rw [← hw2]
  clear hw2 r0 r1 r2 r3 r4 r5 s0 s1 s2 s3 s4 s5
  obtain ⟨ba, cap, rfl⟩ := HA2.out.f.l.shape
  refine wp_region_gg (n := 23) [Fg.eq (.bool false), Fg.eq (.bool true), Fg.eq (.bool true), Fg.eq undef, Fg.eq undef, Fg.eq undef, Fg.eq undef, Fg.eq undef, Fg.eq undef, Fg.eq undef, Fg.eq undef, Fg.eq undef, Fg.eq undef, Fg.eq (.bool true), Fg.eq (.bool true), Fg.eq undef, Fg.eq undef, Fg.eq undef, Fg.eq undef, Fg.eq undef, Fg.eq undef, Fg.eq undef, Fg.eq (.bool true)] [25, 26, 27, 28, 29, 30, 31, 32, 33, 34, 35, 36, 37, 38, 39, 40, 41, 42, 43, 44, 45, 46, 47] (by kernel_rfl) (by kernel_rfl) (by kernel_rfl) ?_ ?_
  · intro L i o' ac w1 hi ho hA
    have hgr : Gr w2 w1 := (Gr.refl w2).drew.trans hA.gr
    match i, hi with
    | 0, _ =>
      obtain rfl := Option.some.inj ho
      exact gg_plain rfl (gstep_val (q_move rfl (show ac.eval (.tmp 5) = .bool false from hA.other 5 (by decide))) rfl)
    | 1, _ =>
      obtain rfl := Option.some.inj ho
      exact gg_plain rfl (gstep_val (rdl_not rfl (hA.fact 0 (hA.dep 0 (by kernel_rfl) (by decide))) rfl) rfl)
    | 2, _ =>
      obtain rfl := Option.some.inj ho
      exact gg_plain rfl (gstep_val (q_move rfl (hA.fact 1 (hA.dep 1 (by kernel_rfl) (by decide)))) rfl)
    | 3, _ =>
      obtain rfl := Option.some.inj ho
      exact gg_no (b := false) rfl (hA.fact 2 (hA.dep 2 (by kernel_rfl) (by decide))) rfl
    | 4, _ =>
      obtain rfl := Option.some.inj ho
      exact gg_no (b := false) rfl (hA.fact 2 (hA.dep 2 (by kernel_rfl) (by decide))) rfl
    | 5, _ =>
      obtain rfl := Option.some.inj ho
      exact gg_no (b := false) rfl (hA.fact 2 (hA.dep 2 (by kernel_rfl) (by decide))) rfl
    | 6, _ =>
      obtain rfl := Option.some.inj ho
      exact gg_no (b := false) rfl (hA.fact 2 (hA.dep 2 (by kernel_rfl) (by decide))) rfl
    | 7, _ =>
      obtain rfl := Option.some.inj ho
      exact gg_no (b := false) rfl (hA.fact 2 (hA.dep 2 (by kernel_rfl) (by decide))) rfl
    | 8, _ =>
      obtain rfl := Option.some.inj ho
      exact gg_no (b := false) rfl (hA.fact 2 (hA.dep 2 (by kernel_rfl) (by decide))) rfl
    | 9, _ =>
      obtain rfl := Option.some.inj ho
      exact gg_no (b := false) rfl (hA.fact 2 (hA.dep 2 (by kernel_rfl) (by decide))) rfl
    | 10, _ =>
      obtain rfl := Option.some.inj ho
      exact gg_no (b := false) rfl (hA.fact 2 (hA.dep 2 (by kernel_rfl) (by decide))) rfl
    | 11, _ =>
      obtain rfl := Option.some.inj ho
      exact gg_no (b := false) rfl (hA.fact 2 (hA.dep 2 (by kernel_rfl) (by decide))) rfl
    | 12, _ =>
      obtain rfl := Option.some.inj ho
      exact gg_no (b := false) rfl (hA.fact 2 (hA.dep 2 (by kernel_rfl) (by decide))) rfl
    | 13, _ =>
      obtain rfl := Option.some.inj ho
      exact gg_plain rfl (gstep_val (rdl_pickT rfl (hA.fact 2 (hA.dep 2 (by kernel_rfl) (by decide))) rfl) rfl)
    | 14, _ =>
      obtain rfl := Option.some.inj ho
      exact gg_plain rfl (gstep_val (q_move rfl (hA.fact 13 (hA.dep 13 (by kernel_rfl) (by decide)))) rfl)
    | 15, _ =>
      obtain rfl := Option.some.inj ho
      exact gg_no (b := false) rfl (hA.fact 14 (hA.dep 14 (by kernel_rfl) (by decide))) rfl
    | 16, _ =>
      obtain rfl := Option.some.inj ho
      exact gg_no (b := false) rfl (hA.fact 14 (hA.dep 14 (by kernel_rfl) (by decide))) rfl
    | 17, _ =>
      obtain rfl := Option.some.inj ho
      exact gg_no (b := false) rfl (hA.fact 14 (hA.dep 14 (by kernel_rfl) (by decide))) rfl
    | 18, _ =>
      obtain rfl := Option.some.inj ho
      exact gg_no (b := false) rfl (hA.fact 14 (hA.dep 14 (by kernel_rfl) (by decide))) rfl
    | 19, _ =>
      obtain rfl := Option.some.inj ho
      exact gg_no (b := false) rfl (hA.fact 14 (hA.dep 14 (by kernel_rfl) (by decide))) rfl
    | 20, _ =>
      obtain rfl := Option.some.inj ho
      exact gg_no (b := false) rfl (hA.fact 14 (hA.dep 14 (by kernel_rfl) (by decide))) rfl
    | 21, _ =>
      obtain rfl := Option.some.inj ho
      exact gg_no (b := false) rfl (hA.fact 14 (hA.dep 14 (by kernel_rfl) (by decide))) rfl
    | 22, _ =>
      obtain rfl := Option.some.inj ho
      exact gg_plain rfl (gstep_val (rdl_pickT rfl (hA.fact 14 (hA.dep 14 (by kernel_rfl) (by decide))) rfl) rfl)
    | k + 23, hk => exact absurd (show k + 23 < 23 from hk) (by omega)
  · intro vs w5 hg5 hv
    have HGX := Lib.hid ((Gr.refl w2).drew.trans hg5)
    have v47 : vs 22 = .bool true := hv 22 (by omega)
    clear hv hg5
    simp only [putN, List.drop_succ_cons, List.drop_zero, List.getElem?_cons_succ, List.getElem?_cons_zero]
    generalize vs 22 = z47 at *
    subst v47
    generalize vs 0 = z25 at *
    generalize vs 1 = z26 at *
    generalize vs 2 = z27 at *
    generalize vs 3 = z28 at *
    generalize vs 4 = z29 at *
    generalize vs 5 = z30 at *
    generalize vs 6 = z31 at *
    generalize vs 7 = z32 at *
    generalize vs 8 = z33 at *
    generalize vs 9 = z34 at *
    generalize vs 10 = z35 at *
    generalize vs 11 = z36 at *
    generalize vs 12 = z37 at *
    generalize vs 13 = z38 at *
    generalize vs 14 = z39 at *
    generalize vs 15 = z40 at *
    generalize vs 16 = z41 at *
    generalize vs 17 = z42 at *
    generalize vs 18 = z43 at *
    generalize vs 19 = z44 at *
    generalize vs 20 = z45 at *
    generalize vs 21 = z46 at *
    have HAX := Lib.hid (HA2.out.gr HGX.out)
    have HRX := Lib.hid (HR2.out.1.gr HGX.out)
    have HSX := Lib.hid (HS2.out.then (.of_gr HGX.out))
    obtain ⟨a0, af, sp0⟩ := And.intro HAX.out.a (And.intro HAX.out.af HAX.out.s1)
    obtain ⟨x0, x1, x2, x3, x4, x5⟩ := HRX.out.at_
    go_upto_region 7 with fail
    obtain ⟨w3, hw3⟩ : ∃ w3, w3 = w5.setCell ⟨p, 6, none⟩ (.slice none 0 0) := ⟨_, rfl⟩
    have HA3 : Hid (RDelAt w3 p _ (.slice none 0 0) q [] (-1) a.d a.nx a.ct) := Lib.hid (by rw [hw3]; exact HAX.out.set_a (.inl ⟨rfl, rfl⟩) (fun g hg => by cases hg))
    have HR3 : Hid (HelRes w3 rb x) := Lib.hid (by rw [hw3]; exact HRX.out.sav (.set p 6 _) HRP.out)
    have HSW : Hid (Sav (LFoot p v) w w3) := Lib.hid (by rw [hw3]; exact HSX.out.then ((Sav.set p 6 _).mono fun g e => .inl e))
    have HAO : Hid (∀ g, (Value.slice none 0 0).ownBlock = some g → av.ownBlock = some g ∨ w.heap.size ≤ g) := Lib.hid (fun g hg => by cases hg)
    have HVA : Hid (∀ g, (Value.slice none 0 0).ownBlock = some g → ¬ g = rb) := Lib.hid (fun g hg => by cases hg)
    rw [← hw3]
    clear hw3 a0 af sp0 x0 x1 x2 x3 x4 x5
    obtain ⟨⟨r0, r1, r2, r3, r4, r5⟩, s0, s1, s2, s3, s4, s5⟩ := HR3.out
    go_wp2
    obtain ⟨w9, hw9⟩ : ∃ w9, w9 = ((((((w3.setCell ⟨rb, 0, none⟩ (.int .i64 x.t)).setCell ⟨rb, 1, none⟩ (.int .i64 x.len)).setCell ⟨rb, 2, none⟩ (.int .i64 x.flow)).setCell ⟨rb, 3, none⟩ (.int .i64 x.band)).setCell ⟨rb, 4, none⟩ (.int .i64 x.mark)).setCell ⟨rb, 5, none⟩ (.int .i64 x.n)) := ⟨_, rfl⟩
    have HR9 := Lib.hid (show HelRes w9 rb x ∧ Sav (fun q => q = rb) w3 w9 from by rw [hw9]; exact hel_set6 HR3.out x)
    rw [← hw9]
    clear hw9 r0 r1 r2 r3 r4 r5 s0 s1 s2 s3 s4 s5
    obtain ⟨⟨q0, q1, q2, q3, q4, q5⟩, _⟩ := HR9.out.1
    exact bodyPost_ret (v := .tuple #[.agg #[.int .i64 x.t, .int .i64 x.len, .int .i64 x.flow, .int .i64 x.band, .int .i64 x.mark, .int .i64 x.n], .bool false, .bool false]) (by simp [results, Tryd.results105, go_sem, q0, q1, q2, q3, q4, q5]) rfl
      ⟨rfl, _, _, HA3.out.sav HR9.out.2 (fun e => HRP.out e.symm) HV0.out HVA.out, HSW.out.trans HR9.out.2 (fun g e => .inr (by rw [e]; exact Nat.le_of_eq HR0.out.2.symm)), HO2.out, HAO.out⟩
set_option maxRecDepth 100000 in
set_option maxHeartbeats 4000000 in
theorem rdelpull_cons (p : Nat) (v av : Value) (q : DelP) (hq : q.Ok) (a : DelS) (n : Nat) (x : Hel) (r : List Hel) (hl : a.l = x :: r) (ok : DelOk q a n) (now : Int) (hnow : Now now) (w : World) (h : RDelAt w p v av q (x :: r) a.ab a.d a.nx a.ct) :
    Calls Tryd.prog 105 #[.pointer (some ⟨p, 0, none⟩), .int .i64 now] w fun e w' => e = .returned (.tuple #[(delPull q a now).2.1.val, .bool (delPull q a now).2.2.1, .bool (delPull q a now).2.2.2]) ∧ RDelDid w w' p v av q (delPull q a now).1 := by
  have hok := ok.l
  rw [hl] at hok
  have HNX := Lib.hid (fun w h => rdtake_cons p v x r q.P now w h (by have := hok.few; have := hok.n; omega))
  have hxt := ok.t x (by rw [hl]; exact List.mem_cons_self ..)
  have hn1 := hnow.1
  have hn2 := hnow.2
  have ht1 := hq.target
  have ht2 := hq.span
  have CS := Lib.hid (show IntKind.i64.wrap (now - x.t) = now - x.t from by rw [IntKind.wrap_i64]; omega)
  have CT := Lib.hid (show wrap64 (now + q.span) = now + q.span from by unfold wrap64; omega)
  have CN := Lib.hid (show 0 ≤ now + q.span from by omega)
  clear hok
  by_cases c1 : now - x.t < q.target
  · rw [delPull_low hl (.inl c1)]
    have C1 := Lib.hid (decide_eq_true c1)
    clear hxt hn1 hn2 ht1 ht2 c1 hl ok hnow hq
    have HA := Lib.hid h
    have HPL := Lib.hid h.lt
    have HVL := Lib.hid (fun g hg => h.f.l.row.lt (g := g) hg)
    have HAL := Lib.hid (fun g hg => (h.ap g hg).2.2)
    clear h
    go_enter Tryd.func105, Tryd.ntmps105
    go_upto_region 1 with fail
    obtain ⟨w0, hw0⟩ : ∃ w0, w0 = w.alloc (.cells #[.int .i64 0, .int .i64 0, .int .i64 0, .int .i64 0, .int .i64 0, .int .i64 0] 108) := ⟨_, rfl⟩
    obtain ⟨rb, hrb⟩ : ∃ rb, rb = w.heap.size := ⟨_, rfl⟩
    have HR0 : Hid (HelRes w0 rb .zero ∧ rb = w.heap.size) := Lib.hid (by rw [hw0]; exact ⟨helRes_new w .zero hrb, hrb⟩)
    have HG0 : Hid (Gr w w0) := Lib.hid (by rw [hw0]; exact (Gr.refl _).alloc _)
    have HA0 := Lib.hid (HA.out.gr HG0.out)
    rw [← hw0, ← hrb]
    clear hw0 hrb
    have HRP := Lib.hid (show ¬ rb = p from fun e => by have := HR0.out.2; have := HPL.out; omega)
    have HVA0 := Lib.hid (show ∀ g, av.ownBlock = some g → ¬ g = rb from fun g hg e => by have h1 := HAL.out g hg; have h2 := HR0.out.2; omega)
    go_upto_region 3 with (go_at_call 85; refine (HNX.out _ HA0.out.f).mono ?_; rintro e w1 ⟨v', rfl, hd⟩; have HD := Lib.hid hd; have HR1 := Lib.hid (HR0.out.1.sav hd.sav.sav (fun e => e.elim HRP.out (fun e => by have h1 := HVL.out rb e; have h2 := HR0.out.2; omega))); obtain ⟨⟨r0, r1, r2, r3, r4, r5⟩, s0, s1, s2, s3, s4, s5⟩ := HR1.out; clear hd)
    obtain ⟨w2, hw2⟩ : ∃ w2, w2 = ((((((w1.setCell ⟨rb, 0, none⟩ (.int .i64 x.t)).setCell ⟨rb, 1, none⟩ (.int .i64 x.len)).setCell ⟨rb, 2, none⟩ (.int .i64 x.flow)).setCell ⟨rb, 3, none⟩ (.int .i64 x.band)).setCell ⟨rb, 4, none⟩ (.int .i64 x.mark)).setCell ⟨rb, 5, none⟩ (.int .i64 x.n)) := ⟨_, rfl⟩
    have HR2 := Lib.hid (show HelRes w2 rb x ∧ Sav (fun q => q = rb) w1 w2 from by rw [hw2]; exact hel_set6 HR1.out x)
    have HV0 := Lib.hid (show ∀ g, v'.ownBlock = some g → ¬ g = rb from fun g hg e => (HD.out.own g hg).elim (fun h1 => by have h2 := HVL.out g h1; have h3 := HR0.out.2; omega) (fun h1 => by have h2 := HR0.out.1.at_.c0; have h3 : rb < w0.heap.size := cell_lt h2; omega))
    have HA2 := Lib.hid ((HA0.out.fifo HD.out).sav HR2.out.2 (fun e => HRP.out e.symm) HV0.out HVA0.out)
    have HS2 := Lib.hid (show Sav (LFoot p v) w w2 from ((Sav.of_gr HG0.out).then HD.out.sav.sav).trans HR2.out.2 (fun g e => .inr (by rw [e]; exact Nat.le_of_eq HR0.out.2.symm)))
    have HO2 := Lib.hid (show ∀ g, v'.ownBlock = some g → v.ownBlock = some g ∨ w.heap.size ≤ g from fun g hg => (HD.out.own g hg).imp id (Nat.le_trans HG0.out.size))
    rw [← hw2]
    clear hw2 r0 r1 r2 r3 r4 r5 s0 s1 s2 s3 s4 s5
    obtain ⟨ba, cap, rfl⟩ := HA2.out.f.l.shape
    refine wp_region_gg (n := 23) [Fg.eq (.bool true), Fg.eq (.bool false), Fg.eq (.bool false), Fg.eq (.int .i64 now), Fg.eq (.pointer (some ⟨rb, 0, none⟩)), Fg.eq (.pointer (some ⟨rb, 0, none⟩)), Fg.eq (.int .i64 x.t), Fg.eq (.int .i64 (now - x.t)), Fg.eq (.pointer (some ⟨p, 0, none⟩)), Fg.eq (.pointer (some ⟨p, 0, none⟩)), Fg.eq (.pointer (some ⟨p, 4, none⟩)), Fg.eq (.int .i64 q.target), Fg.eq (.bool true), Fg.eq (.bool true), Fg.eq (.bool true), Fg.eq undef, Fg.eq undef, Fg.eq undef, Fg.eq undef, Fg.eq undef, Fg.eq undef, Fg.eq undef, Fg.eq (.bool true)] [25, 26, 27, 28, 29, 30, 31, 32, 33, 34, 35, 36, 37, 38, 39, 40, 41, 42, 43, 44, 45, 46, 47] (by kernel_rfl) (by kernel_rfl) (by kernel_rfl) ?_ ?_
    · intro L i o' ac w1 hi ho hA
      have hgr : Gr w2 w1 := (Gr.refl w2).drew.trans hA.gr
      match i, hi with
      | 0, _ =>
        obtain rfl := Option.some.inj ho
        exact gg_plain rfl (gstep_val (q_move rfl (show ac.eval (.tmp 5) = .bool true from hA.other 5 (by decide))) rfl)
      | 1, _ =>
        obtain rfl := Option.some.inj ho
        exact gg_plain rfl (gstep_val (rdl_not rfl (hA.fact 0 (hA.dep 0 (by kernel_rfl) (by decide))) rfl) rfl)
      | 2, _ =>
        obtain rfl := Option.some.inj ho
        exact gg_plain rfl (gstep_val (q_move rfl (hA.fact 1 (hA.dep 1 (by kernel_rfl) (by decide)))) rfl)
      | 3, _ =>
        obtain rfl := Option.some.inj ho
        exact gg_yes (b := false) rfl (hA.fact 2 (hA.dep 2 (by kernel_rfl) (by decide))) (gstep_val (q_move rfl (show ac.eval (.tmp 1) = .int .i64 now from hA.other 1 (by decide))) rfl)
      | 4, _ =>
        obtain rfl := Option.some.inj ho
        exact gg_yes (b := false) rfl (hA.fact 2 (hA.dep 2 (by kernel_rfl) (by decide))) (gstep_val (rdl_fa_millraceref_Pack_0 rfl (show ac.eval (.tmp 4) = .pointer (some ⟨rb, 0, none⟩) from hA.other 4 (by decide))) rfl)
      | 5, _ =>
        obtain rfl := Option.some.inj ho
        exact gg_yes (b := false) rfl (hA.fact 2 (hA.dep 2 (by kernel_rfl) (by decide))) (gstep_val (rdl_fa_api_Item_0 rfl (hA.fact 4 (hA.dep 4 (by kernel_rfl) (by decide)))) rfl)
      | 6, _ =>
        obtain rfl := Option.some.inj ho
        exact gg_yes (b := false) rfl (hA.fact 2 (hA.dep 2 (by kernel_rfl) (by decide))) (gstep_val (q_loadI rfl (hA.fact 5 (hA.dep 5 (by kernel_rfl) (by decide))) (hgr.cell HR2.out.1.at_.c0)) rfl)
      | 7, _ =>
        obtain rfl := Option.some.inj ho
        exact gg_yes (b := false) rfl (hA.fact 2 (hA.dep 2 (by kernel_rfl) (by decide))) (gstep_val (rdl_sub rfl (hA.fact 3 (hA.dep 3 (by kernel_rfl) (by decide))) (hA.fact 6 (hA.dep 6 (by kernel_rfl) (by decide))) (CS.out)) rfl)
      | 8, _ =>
        obtain rfl := Option.some.inj ho
        exact gg_yes (b := false) rfl (hA.fact 2 (hA.dep 2 (by kernel_rfl) (by decide))) (gstep_val (q_move rfl (show ac.eval (.tmp 0) = .pointer (some ⟨p, 0, none⟩) from hA.other 0 (by decide))) rfl)
      | 9, _ =>
        obtain rfl := Option.some.inj ho
        exact gg_yes (b := false) rfl (hA.fact 2 (hA.dep 2 (by kernel_rfl) (by decide))) (gstep_val (q_nil rfl (hA.fact 8 (hA.dep 8 (by kernel_rfl) (by decide)))) rfl)
      | 10, _ =>
        obtain rfl := Option.some.inj ho
        exact gg_yes (b := false) rfl (hA.fact 2 (hA.dep 2 (by kernel_rfl) (by decide))) (gstep_val (rdl_fa_millraceref_Delayed_1 rfl (hA.fact 9 (hA.dep 9 (by kernel_rfl) (by decide)))) rfl)
      | 11, _ =>
        obtain rfl := Option.some.inj ho
        exact gg_yes (b := false) rfl (hA.fact 2 (hA.dep 2 (by kernel_rfl) (by decide))) (gstep_val (q_loadI rfl (hA.fact 10 (hA.dep 10 (by kernel_rfl) (by decide))) (hgr.cell HA2.out.s0)) rfl)
      | 12, _ =>
        obtain rfl := Option.some.inj ho
        exact gg_yes (b := false) rfl (hA.fact 2 (hA.dep 2 (by kernel_rfl) (by decide))) (gstep_val (rdl_lss rfl (hA.fact 7 (hA.dep 7 (by kernel_rfl) (by decide))) (hA.fact 11 (hA.dep 11 (by kernel_rfl) (by decide))) (C1.out)) rfl)
      | 13, _ =>
        obtain rfl := Option.some.inj ho
        exact gg_plain rfl (gstep_val (rdl_pickF rfl (hA.fact 2 (hA.dep 2 (by kernel_rfl) (by decide))) (hA.fact 12 (hA.dep 12 (by kernel_rfl) (by decide)))) rfl)
      | 14, _ =>
        obtain rfl := Option.some.inj ho
        exact gg_plain rfl (gstep_val (q_move rfl (hA.fact 13 (hA.dep 13 (by kernel_rfl) (by decide)))) rfl)
      | 15, _ =>
        obtain rfl := Option.some.inj ho
        exact gg_no (b := false) rfl (hA.fact 14 (hA.dep 14 (by kernel_rfl) (by decide))) rfl
      | 16, _ =>
        obtain rfl := Option.some.inj ho
        exact gg_no (b := false) rfl (hA.fact 14 (hA.dep 14 (by kernel_rfl) (by decide))) rfl
      | 17, _ =>
        obtain rfl := Option.some.inj ho
        exact gg_no (b := false) rfl (hA.fact 14 (hA.dep 14 (by kernel_rfl) (by decide))) rfl
      | 18, _ =>
        obtain rfl := Option.some.inj ho
        exact gg_no (b := false) rfl (hA.fact 14 (hA.dep 14 (by kernel_rfl) (by decide))) rfl
      | 19, _ =>
        obtain rfl := Option.some.inj ho
        exact gg_no (b := false) rfl (hA.fact 14 (hA.dep 14 (by kernel_rfl) (by decide))) rfl
      | 20, _ =>
        obtain rfl := Option.some.inj ho
        exact gg_no (b := false) rfl (hA.fact 14 (hA.dep 14 (by kernel_rfl) (by decide))) rfl
      | 21, _ =>
        obtain rfl := Option.some.inj ho
        exact gg_no (b := false) rfl (hA.fact 14 (hA.dep 14 (by kernel_rfl) (by decide))) rfl
      | 22, _ =>
        obtain rfl := Option.some.inj ho
        exact gg_plain rfl (gstep_val (rdl_pickT rfl (hA.fact 14 (hA.dep 14 (by kernel_rfl) (by decide))) rfl) rfl)
      | k + 23, hk => exact absurd (show k + 23 < 23 from hk) (by omega)
    · intro vs w5 hg5 hv
      have HGX := Lib.hid ((Gr.refl w2).drew.trans hg5)
      have v47 : vs 22 = .bool true := hv 22 (by omega)
      clear hv hg5
      simp only [putN, List.drop_succ_cons, List.drop_zero, List.getElem?_cons_succ, List.getElem?_cons_zero]
      generalize vs 22 = z47 at *
      subst v47
      generalize vs 0 = z25 at *
      generalize vs 1 = z26 at *
      generalize vs 2 = z27 at *
      generalize vs 3 = z28 at *
      generalize vs 4 = z29 at *
      generalize vs 5 = z30 at *
      generalize vs 6 = z31 at *
      generalize vs 7 = z32 at *
      generalize vs 8 = z33 at *
      generalize vs 9 = z34 at *
      generalize vs 10 = z35 at *
      generalize vs 11 = z36 at *
      generalize vs 12 = z37 at *
      generalize vs 13 = z38 at *
      generalize vs 14 = z39 at *
      generalize vs 15 = z40 at *
      generalize vs 16 = z41 at *
      generalize vs 17 = z42 at *
      generalize vs 18 = z43 at *
      generalize vs 19 = z44 at *
      generalize vs 20 = z45 at *
      generalize vs 21 = z46 at *
      have HAX := Lib.hid (HA2.out.gr HGX.out)
      have HRX := Lib.hid (HR2.out.1.gr HGX.out)
      have HSX := Lib.hid (HS2.out.then (.of_gr HGX.out))
      obtain ⟨a0, af, sp0⟩ := And.intro HAX.out.a (And.intro HAX.out.af HAX.out.s1)
      obtain ⟨x0, x1, x2, x3, x4, x5⟩ := HRX.out.at_
      go_upto_region 7 with fail
      obtain ⟨w3, hw3⟩ : ∃ w3, w3 = w5.setCell ⟨p, 6, none⟩ (.slice none 0 0) := ⟨_, rfl⟩
      have HA3 : Hid (RDelAt w3 p _ (.slice none 0 0) q r (-1) a.d a.nx a.ct) := Lib.hid (by rw [hw3]; exact HAX.out.set_a (.inl ⟨rfl, rfl⟩) (fun g hg => by cases hg))
      have HR3 : Hid (HelRes w3 rb x) := Lib.hid (by rw [hw3]; exact HRX.out.sav (.set p 6 _) HRP.out)
      have HSW : Hid (Sav (LFoot p v) w w3) := Lib.hid (by rw [hw3]; exact HSX.out.then ((Sav.set p 6 _).mono fun g e => .inl e))
      have HAO : Hid (∀ g, (Value.slice none 0 0).ownBlock = some g → av.ownBlock = some g ∨ w.heap.size ≤ g) := Lib.hid (fun g hg => by cases hg)
      have HVA : Hid (∀ g, (Value.slice none 0 0).ownBlock = some g → ¬ g = rb) := Lib.hid (fun g hg => by cases hg)
      rw [← hw3]
      clear hw3 a0 af sp0 x0 x1 x2 x3 x4 x5
      obtain ⟨⟨r0, r1, r2, r3, r4, r5⟩, s0, s1, s2, s3, s4, s5⟩ := HR3.out
      go_wp2
      obtain ⟨w9, hw9⟩ : ∃ w9, w9 = ((((((w3.setCell ⟨rb, 0, none⟩ (.int .i64 x.t)).setCell ⟨rb, 1, none⟩ (.int .i64 x.len)).setCell ⟨rb, 2, none⟩ (.int .i64 x.flow)).setCell ⟨rb, 3, none⟩ (.int .i64 x.band)).setCell ⟨rb, 4, none⟩ (.int .i64 x.mark)).setCell ⟨rb, 5, none⟩ (.int .i64 x.n)) := ⟨_, rfl⟩
      have HR9 := Lib.hid (show HelRes w9 rb x ∧ Sav (fun q => q = rb) w3 w9 from by rw [hw9]; exact hel_set6 HR3.out x)
      rw [← hw9]
      clear hw9 r0 r1 r2 r3 r4 r5 s0 s1 s2 s3 s4 s5
      obtain ⟨⟨q0, q1, q2, q3, q4, q5⟩, _⟩ := HR9.out.1
      exact bodyPost_ret (v := .tuple #[.agg #[.int .i64 x.t, .int .i64 x.len, .int .i64 x.flow, .int .i64 x.band, .int .i64 x.mark, .int .i64 x.n], .bool true, .bool false]) (by simp [results, Tryd.results105, go_sem, q0, q1, q2, q3, q4, q5]) rfl
        ⟨rfl, _, _, HA3.out.sav HR9.out.2 (fun e => HRP.out e.symm) HV0.out HVA.out, HSW.out.trans HR9.out.2 (fun g e => .inr (by rw [e]; exact Nat.le_of_eq HR0.out.2.symm)), HO2.out, HAO.out⟩
  · have C1 := Lib.hid (decide_eq_false c1)
    by_cases c2 : r = []
    · rw [delPull_low hl (.inr c2)]
      have C2 := Lib.hid (decide_eq_true (show (r.length : Int) = 0 from by rw [c2]; rfl))
      clear hxt hn1 hn2 ht1 ht2 c1 c2 hl ok hnow hq
      have HA := Lib.hid h
      have HPL := Lib.hid h.lt
      have HVL := Lib.hid (fun g hg => h.f.l.row.lt (g := g) hg)
      have HAL := Lib.hid (fun g hg => (h.ap g hg).2.2)
      clear h
      go_enter Tryd.func105, Tryd.ntmps105
      go_upto_region 1 with fail
      obtain ⟨w0, hw0⟩ : ∃ w0, w0 = w.alloc (.cells #[.int .i64 0, .int .i64 0, .int .i64 0, .int .i64 0, .int .i64 0, .int .i64 0] 108) := ⟨_, rfl⟩
      obtain ⟨rb, hrb⟩ : ∃ rb, rb = w.heap.size := ⟨_, rfl⟩
      have HR0 : Hid (HelRes w0 rb .zero ∧ rb = w.heap.size) := Lib.hid (by rw [hw0]; exact ⟨helRes_new w .zero hrb, hrb⟩)
      have HG0 : Hid (Gr w w0) := Lib.hid (by rw [hw0]; exact (Gr.refl _).alloc _)
      have HA0 := Lib.hid (HA.out.gr HG0.out)
      rw [← hw0, ← hrb]
      clear hw0 hrb
      have HRP := Lib.hid (show ¬ rb = p from fun e => by have := HR0.out.2; have := HPL.out; omega)
      have HVA0 := Lib.hid (show ∀ g, av.ownBlock = some g → ¬ g = rb from fun g hg e => by have h1 := HAL.out g hg; have h2 := HR0.out.2; omega)
      go_upto_region 3 with (go_at_call 85; refine (HNX.out _ HA0.out.f).mono ?_; rintro e w1 ⟨v', rfl, hd⟩; have HD := Lib.hid hd; have HR1 := Lib.hid (HR0.out.1.sav hd.sav.sav (fun e => e.elim HRP.out (fun e => by have h1 := HVL.out rb e; have h2 := HR0.out.2; omega))); obtain ⟨⟨r0, r1, r2, r3, r4, r5⟩, s0, s1, s2, s3, s4, s5⟩ := HR1.out; clear hd)
      obtain ⟨w2, hw2⟩ : ∃ w2, w2 = ((((((w1.setCell ⟨rb, 0, none⟩ (.int .i64 x.t)).setCell ⟨rb, 1, none⟩ (.int .i64 x.len)).setCell ⟨rb, 2, none⟩ (.int .i64 x.flow)).setCell ⟨rb, 3, none⟩ (.int .i64 x.band)).setCell ⟨rb, 4, none⟩ (.int .i64 x.mark)).setCell ⟨rb, 5, none⟩ (.int .i64 x.n)) := ⟨_, rfl⟩
      have HR2 := Lib.hid (show HelRes w2 rb x ∧ Sav (fun q => q = rb) w1 w2 from by rw [hw2]; exact hel_set6 HR1.out x)
      have HV0 := Lib.hid (show ∀ g, v'.ownBlock = some g → ¬ g = rb from fun g hg e => (HD.out.own g hg).elim (fun h1 => by have h2 := HVL.out g h1; have h3 := HR0.out.2; omega) (fun h1 => by have h2 := HR0.out.1.at_.c0; have h3 : rb < w0.heap.size := cell_lt h2; omega))
      have HA2 := Lib.hid ((HA0.out.fifo HD.out).sav HR2.out.2 (fun e => HRP.out e.symm) HV0.out HVA0.out)
      have HS2 := Lib.hid (show Sav (LFoot p v) w w2 from ((Sav.of_gr HG0.out).then HD.out.sav.sav).trans HR2.out.2 (fun g e => .inr (by rw [e]; exact Nat.le_of_eq HR0.out.2.symm)))
      have HO2 := Lib.hid (show ∀ g, v'.ownBlock = some g → v.ownBlock = some g ∨ w.heap.size ≤ g from fun g hg => (HD.out.own g hg).imp id (Nat.le_trans HG0.out.size))
      rw [← hw2]
      clear hw2 r0 r1 r2 r3 r4 r5 s0 s1 s2 s3 s4 s5
      obtain ⟨ba, cap, rfl⟩ := HA2.out.f.l.shape
      refine wp_region_gg (n := 23) [Fg.eq (.bool true), Fg.eq (.bool false), Fg.eq (.bool false), Fg.eq (.int .i64 now), Fg.eq (.pointer (some ⟨rb, 0, none⟩)), Fg.eq (.pointer (some ⟨rb, 0, none⟩)), Fg.eq (.int .i64 x.t), Fg.eq (.int .i64 (now - x.t)), Fg.eq (.pointer (some ⟨p, 0, none⟩)), Fg.eq (.pointer (some ⟨p, 0, none⟩)), Fg.eq (.pointer (some ⟨p, 4, none⟩)), Fg.eq (.int .i64 q.target), Fg.eq (.bool false), Fg.eq (.bool false), Fg.eq (.bool false), Fg.eq (.pointer (some ⟨p, 0, none⟩)), Fg.eq (.pointer (some ⟨p, 0, none⟩)), Fg.eq (.pointer (some ⟨p, 0, none⟩)), Fg.eq (.pointer (some ⟨p, 3, none⟩)), Fg.eq (.slice ba r.length cap), Fg.eq (.int .i64 (r.length : Int)), Fg.eq (.bool true), Fg.eq (.bool true)] [25, 26, 27, 28, 29, 30, 31, 32, 33, 34, 35, 36, 37, 38, 39, 40, 41, 42, 43, 44, 45, 46, 47] (by kernel_rfl) (by kernel_rfl) (by kernel_rfl) ?_ ?_
      · intro L i o' ac w1 hi ho hA
        have hgr : Gr w2 w1 := (Gr.refl w2).drew.trans hA.gr
        match i, hi with
        | 0, _ =>
          obtain rfl := Option.some.inj ho
          exact gg_plain rfl (gstep_val (q_move rfl (show ac.eval (.tmp 5) = .bool true from hA.other 5 (by decide))) rfl)
        | 1, _ =>
          obtain rfl := Option.some.inj ho
          exact gg_plain rfl (gstep_val (rdl_not rfl (hA.fact 0 (hA.dep 0 (by kernel_rfl) (by decide))) rfl) rfl)
        | 2, _ =>
          obtain rfl := Option.some.inj ho
          exact gg_plain rfl (gstep_val (q_move rfl (hA.fact 1 (hA.dep 1 (by kernel_rfl) (by decide)))) rfl)
        | 3, _ =>
          obtain rfl := Option.some.inj ho
          exact gg_yes (b := false) rfl (hA.fact 2 (hA.dep 2 (by kernel_rfl) (by decide))) (gstep_val (q_move rfl (show ac.eval (.tmp 1) = .int .i64 now from hA.other 1 (by decide))) rfl)
        | 4, _ =>
          obtain rfl := Option.some.inj ho
          exact gg_yes (b := false) rfl (hA.fact 2 (hA.dep 2 (by kernel_rfl) (by decide))) (gstep_val (rdl_fa_millraceref_Pack_0 rfl (show ac.eval (.tmp 4) = .pointer (some ⟨rb, 0, none⟩) from hA.other 4 (by decide))) rfl)
        | 5, _ =>
          obtain rfl := Option.some.inj ho
          exact gg_yes (b := false) rfl (hA.fact 2 (hA.dep 2 (by kernel_rfl) (by decide))) (gstep_val (rdl_fa_api_Item_0 rfl (hA.fact 4 (hA.dep 4 (by kernel_rfl) (by decide)))) rfl)
        | 6, _ =>
          obtain rfl := Option.some.inj ho
          exact gg_yes (b := false) rfl (hA.fact 2 (hA.dep 2 (by kernel_rfl) (by decide))) (gstep_val (q_loadI rfl (hA.fact 5 (hA.dep 5 (by kernel_rfl) (by decide))) (hgr.cell HR2.out.1.at_.c0)) rfl)
        | 7, _ =>
          obtain rfl := Option.some.inj ho
          exact gg_yes (b := false) rfl (hA.fact 2 (hA.dep 2 (by kernel_rfl) (by decide))) (gstep_val (rdl_sub rfl (hA.fact 3 (hA.dep 3 (by kernel_rfl) (by decide))) (hA.fact 6 (hA.dep 6 (by kernel_rfl) (by decide))) (CS.out)) rfl)
        | 8, _ =>
          obtain rfl := Option.some.inj ho
          exact gg_yes (b := false) rfl (hA.fact 2 (hA.dep 2 (by kernel_rfl) (by decide))) (gstep_val (q_move rfl (show ac.eval (.tmp 0) = .pointer (some ⟨p, 0, none⟩) from hA.other 0 (by decide))) rfl)
        | 9, _ =>
          obtain rfl := Option.some.inj ho
          exact gg_yes (b := false) rfl (hA.fact 2 (hA.dep 2 (by kernel_rfl) (by decide))) (gstep_val (q_nil rfl (hA.fact 8 (hA.dep 8 (by kernel_rfl) (by decide)))) rfl)
        | 10, _ =>
          obtain rfl := Option.some.inj ho
          exact gg_yes (b := false) rfl (hA.fact 2 (hA.dep 2 (by kernel_rfl) (by decide))) (gstep_val (rdl_fa_millraceref_Delayed_1 rfl (hA.fact 9 (hA.dep 9 (by kernel_rfl) (by decide)))) rfl)
        | 11, _ =>
          obtain rfl := Option.some.inj ho
          exact gg_yes (b := false) rfl (hA.fact 2 (hA.dep 2 (by kernel_rfl) (by decide))) (gstep_val (q_loadI rfl (hA.fact 10 (hA.dep 10 (by kernel_rfl) (by decide))) (hgr.cell HA2.out.s0)) rfl)
        | 12, _ =>
          obtain rfl := Option.some.inj ho
          exact gg_yes (b := false) rfl (hA.fact 2 (hA.dep 2 (by kernel_rfl) (by decide))) (gstep_val (rdl_lss rfl (hA.fact 7 (hA.dep 7 (by kernel_rfl) (by decide))) (hA.fact 11 (hA.dep 11 (by kernel_rfl) (by decide))) (C1.out)) rfl)
        | 13, _ =>
          obtain rfl := Option.some.inj ho
          exact gg_plain rfl (gstep_val (rdl_pickF rfl (hA.fact 2 (hA.dep 2 (by kernel_rfl) (by decide))) (hA.fact 12 (hA.dep 12 (by kernel_rfl) (by decide)))) rfl)
        | 14, _ =>
          obtain rfl := Option.some.inj ho
          exact gg_plain rfl (gstep_val (q_move rfl (hA.fact 13 (hA.dep 13 (by kernel_rfl) (by decide)))) rfl)
        | 15, _ =>
          obtain rfl := Option.some.inj ho
          exact gg_yes (b := false) rfl (hA.fact 14 (hA.dep 14 (by kernel_rfl) (by decide))) (gstep_val (q_move rfl (show ac.eval (.tmp 0) = .pointer (some ⟨p, 0, none⟩) from hA.other 0 (by decide))) rfl)
        | 16, _ =>
          obtain rfl := Option.some.inj ho
          exact gg_yes (b := false) rfl (hA.fact 14 (hA.dep 14 (by kernel_rfl) (by decide))) (gstep_val (q_nil rfl (hA.fact 15 (hA.dep 15 (by kernel_rfl) (by decide)))) rfl)
        | 17, _ =>
          obtain rfl := Option.some.inj ho
          exact gg_yes (b := false) rfl (hA.fact 14 (hA.dep 14 (by kernel_rfl) (by decide))) (gstep_val (rdl_fa_millraceref_Delayed_0 rfl (hA.fact 16 (hA.dep 16 (by kernel_rfl) (by decide)))) rfl)
        | 18, _ =>
          obtain rfl := Option.some.inj ho
          exact gg_yes (b := false) rfl (hA.fact 14 (hA.dep 14 (by kernel_rfl) (by decide))) (gstep_val (rdl_fa_millraceref_Fifo_3 rfl (hA.fact 17 (hA.dep 17 (by kernel_rfl) (by decide)))) rfl)
        | 19, _ =>
          obtain rfl := Option.some.inj ho
          exact gg_yes (b := false) rfl (hA.fact 14 (hA.dep 14 (by kernel_rfl) (by decide))) (gstep_val (rdl_loadS___millraceref_Pack rfl (hA.fact 18 (hA.dep 18 (by kernel_rfl) (by decide))) (hgr.cell HA2.out.f.l.c)) rfl)
        | 20, _ =>
          obtain rfl := Option.some.inj ho
          exact gg_yes (b := false) rfl (hA.fact 14 (hA.dep 14 (by kernel_rfl) (by decide))) (gstep_val (rdl_len___millraceref_Pack rfl (hA.fact 19 (hA.dep 19 (by kernel_rfl) (by decide)))) rfl)
        | 21, _ =>
          obtain rfl := Option.some.inj ho
          exact gg_yes (b := false) rfl (hA.fact 14 (hA.dep 14 (by kernel_rfl) (by decide))) (gstep_val (rdl_eql rfl (hA.fact 20 (hA.dep 20 (by kernel_rfl) (by decide))) rfl (C2.out)) rfl)
        | 22, _ =>
          obtain rfl := Option.some.inj ho
          exact gg_plain rfl (gstep_val (rdl_pickF rfl (hA.fact 14 (hA.dep 14 (by kernel_rfl) (by decide))) (hA.fact 21 (hA.dep 21 (by kernel_rfl) (by decide)))) rfl)
        | k + 23, hk => exact absurd (show k + 23 < 23 from hk) (by omega)
      · intro vs w5 hg5 hv
        have HGX := Lib.hid ((Gr.refl w2).drew.trans hg5)
        have v47 : vs 22 = .bool true := hv 22 (by omega)
        clear hv hg5
        simp only [putN, List.drop_succ_cons, List.drop_zero, List.getElem?_cons_succ, List.getElem?_cons_zero]
        generalize vs 22 = z47 at *
        subst v47
        generalize vs 0 = z25 at *
        generalize vs 1 = z26 at *
        generalize vs 2 = z27 at *
        generalize vs 3 = z28 at *
        generalize vs 4 = z29 at *
        generalize vs 5 = z30 at *
        generalize vs 6 = z31 at *
        generalize vs 7 = z32 at *
        generalize vs 8 = z33 at *
        generalize vs 9 = z34 at *
        generalize vs 10 = z35 at *
        generalize vs 11 = z36 at *
        generalize vs 12 = z37 at *
        generalize vs 13 = z38 at *
        generalize vs 14 = z39 at *
        generalize vs 15 = z40 at *
        generalize vs 16 = z41 at *
        generalize vs 17 = z42 at *
        generalize vs 18 = z43 at *
        generalize vs 19 = z44 at *
        generalize vs 20 = z45 at *
        generalize vs 21 = z46 at *
        have HAX := Lib.hid (HA2.out.gr HGX.out)
        have HRX := Lib.hid (HR2.out.1.gr HGX.out)
        have HSX := Lib.hid (HS2.out.then (.of_gr HGX.out))
        obtain ⟨a0, af, sp0⟩ := And.intro HAX.out.a (And.intro HAX.out.af HAX.out.s1)
        obtain ⟨x0, x1, x2, x3, x4, x5⟩ := HRX.out.at_
        go_upto_region 7 with fail
        obtain ⟨w3, hw3⟩ : ∃ w3, w3 = w5.setCell ⟨p, 6, none⟩ (.slice none 0 0) := ⟨_, rfl⟩
        have HA3 : Hid (RDelAt w3 p _ (.slice none 0 0) q r (-1) a.d a.nx a.ct) := Lib.hid (by rw [hw3]; exact HAX.out.set_a (.inl ⟨rfl, rfl⟩) (fun g hg => by cases hg))
        have HR3 : Hid (HelRes w3 rb x) := Lib.hid (by rw [hw3]; exact HRX.out.sav (.set p 6 _) HRP.out)
        have HSW : Hid (Sav (LFoot p v) w w3) := Lib.hid (by rw [hw3]; exact HSX.out.then ((Sav.set p 6 _).mono fun g e => .inl e))
        have HAO : Hid (∀ g, (Value.slice none 0 0).ownBlock = some g → av.ownBlock = some g ∨ w.heap.size ≤ g) := Lib.hid (fun g hg => by cases hg)
        have HVA : Hid (∀ g, (Value.slice none 0 0).ownBlock = some g → ¬ g = rb) := Lib.hid (fun g hg => by cases hg)
        rw [← hw3]
        clear hw3 a0 af sp0 x0 x1 x2 x3 x4 x5
        obtain ⟨⟨r0, r1, r2, r3, r4, r5⟩, s0, s1, s2, s3, s4, s5⟩ := HR3.out
        go_wp2
        obtain ⟨w9, hw9⟩ : ∃ w9, w9 = ((((((w3.setCell ⟨rb, 0, none⟩ (.int .i64 x.t)).setCell ⟨rb, 1, none⟩ (.int .i64 x.len)).setCell ⟨rb, 2, none⟩ (.int .i64 x.flow)).setCell ⟨rb, 3, none⟩ (.int .i64 x.band)).setCell ⟨rb, 4, none⟩ (.int .i64 x.mark)).setCell ⟨rb, 5, none⟩ (.int .i64 x.n)) := ⟨_, rfl⟩
        have HR9 := Lib.hid (show HelRes w9 rb x ∧ Sav (fun q => q = rb) w3 w9 from by rw [hw9]; exact hel_set6 HR3.out x)
        rw [← hw9]
        clear hw9 r0 r1 r2 r3 r4 r5 s0 s1 s2 s3 s4 s5
        obtain ⟨⟨q0, q1, q2, q3, q4, q5⟩, _⟩ := HR9.out.1
        exact bodyPost_ret (v := .tuple #[.agg #[.int .i64 x.t, .int .i64 x.len, .int .i64 x.flow, .int .i64 x.band, .int .i64 x.mark, .int .i64 x.n], .bool true, .bool false]) (by simp [results, Tryd.results105, go_sem, q0, q1, q2, q3, q4, q5]) rfl
          ⟨rfl, _, _, HA3.out.sav HR9.out.2 (fun e => HRP.out e.symm) HV0.out HVA.out, HSW.out.trans HR9.out.2 (fun g e => .inr (by rw [e]; exact Nat.le_of_eq HR0.out.2.symm)), HO2.out, HAO.out⟩
    · have C2 := Lib.hid (decide_eq_false (show ¬ (r.length : Int) = 0 from fun e => c2 (List.eq_nil_of_length_eq_zero (by omega))))
      by_cases c3 : a.ab < 0
      · rw [delPull_new hl (fun e => e.elim c1 c2) c3]
        have HC3 := Lib.hid c3
        clear hxt hn1 hn2 ht1 ht2 c1 c2 c3 hl ok hnow hq
        have HA := Lib.hid h
        have HPL := Lib.hid h.lt
        have HVL := Lib.hid (fun g hg => h.f.l.row.lt (g := g) hg)
        have HAL := Lib.hid (fun g hg => (h.ap g hg).2.2)
        clear h
        go_enter Tryd.func105, Tryd.ntmps105
        go_upto_region 1 with fail
        obtain ⟨w0, hw0⟩ : ∃ w0, w0 = w.alloc (.cells #[.int .i64 0, .int .i64 0, .int .i64 0, .int .i64 0, .int .i64 0, .int .i64 0] 108) := ⟨_, rfl⟩
        obtain ⟨rb, hrb⟩ : ∃ rb, rb = w.heap.size := ⟨_, rfl⟩
        have HR0 : Hid (HelRes w0 rb .zero ∧ rb = w.heap.size) := Lib.hid (by rw [hw0]; exact ⟨helRes_new w .zero hrb, hrb⟩)
        have HG0 : Hid (Gr w w0) := Lib.hid (by rw [hw0]; exact (Gr.refl _).alloc _)
        have HA0 := Lib.hid (HA.out.gr HG0.out)
        rw [← hw0, ← hrb]
        clear hw0 hrb
        have HRP := Lib.hid (show ¬ rb = p from fun e => by have := HR0.out.2; have := HPL.out; omega)
        have HVA0 := Lib.hid (show ∀ g, av.ownBlock = some g → ¬ g = rb from fun g hg e => by have h1 := HAL.out g hg; have h2 := HR0.out.2; omega)
        go_upto_region 3 with (go_at_call 85; refine (HNX.out _ HA0.out.f).mono ?_; rintro e w1 ⟨v', rfl, hd⟩; have HD := Lib.hid hd; have HR1 := Lib.hid (HR0.out.1.sav hd.sav.sav (fun e => e.elim HRP.out (fun e => by have h1 := HVL.out rb e; have h2 := HR0.out.2; omega))); obtain ⟨⟨r0, r1, r2, r3, r4, r5⟩, s0, s1, s2, s3, s4, s5⟩ := HR1.out; clear hd)
        obtain ⟨w2, hw2⟩ : ∃ w2, w2 = ((((((w1.setCell ⟨rb, 0, none⟩ (.int .i64 x.t)).setCell ⟨rb, 1, none⟩ (.int .i64 x.len)).setCell ⟨rb, 2, none⟩ (.int .i64 x.flow)).setCell ⟨rb, 3, none⟩ (.int .i64 x.band)).setCell ⟨rb, 4, none⟩ (.int .i64 x.mark)).setCell ⟨rb, 5, none⟩ (.int .i64 x.n)) := ⟨_, rfl⟩
        have HR2 := Lib.hid (show HelRes w2 rb x ∧ Sav (fun q => q = rb) w1 w2 from by rw [hw2]; exact hel_set6 HR1.out x)
        have HV0 := Lib.hid (show ∀ g, v'.ownBlock = some g → ¬ g = rb from fun g hg e => (HD.out.own g hg).elim (fun h1 => by have h2 := HVL.out g h1; have h3 := HR0.out.2; omega) (fun h1 => by have h2 := HR0.out.1.at_.c0; have h3 : rb < w0.heap.size := cell_lt h2; omega))
        have HA2 := Lib.hid ((HA0.out.fifo HD.out).sav HR2.out.2 (fun e => HRP.out e.symm) HV0.out HVA0.out)
        have HS2 := Lib.hid (show Sav (LFoot p v) w w2 from ((Sav.of_gr HG0.out).then HD.out.sav.sav).trans HR2.out.2 (fun g e => .inr (by rw [e]; exact Nat.le_of_eq HR0.out.2.symm)))
        have HO2 := Lib.hid (show ∀ g, v'.ownBlock = some g → v.ownBlock = some g ∨ w.heap.size ≤ g from fun g hg => (HD.out.own g hg).imp id (Nat.le_trans HG0.out.size))
        rw [← hw2]
        clear hw2 r0 r1 r2 r3 r4 r5 s0 s1 s2 s3 s4 s5
        obtain ⟨ba, cap, rfl⟩ := HA2.out.f.l.shape
        refine wp_region_gg (n := 23) [Fg.eq (.bool true), Fg.eq (.bool false), Fg.eq (.bool false), Fg.eq (.int .i64 now), Fg.eq (.pointer (some ⟨rb, 0, none⟩)), Fg.eq (.pointer (some ⟨rb, 0, none⟩)), Fg.eq (.int .i64 x.t), Fg.eq (.int .i64 (now - x.t)), Fg.eq (.pointer (some ⟨p, 0, none⟩)), Fg.eq (.pointer (some ⟨p, 0, none⟩)), Fg.eq (.pointer (some ⟨p, 4, none⟩)), Fg.eq (.int .i64 q.target), Fg.eq (.bool false), Fg.eq (.bool false), Fg.eq (.bool false), Fg.eq (.pointer (some ⟨p, 0, none⟩)), Fg.eq (.pointer (some ⟨p, 0, none⟩)), Fg.eq (.pointer (some ⟨p, 0, none⟩)), Fg.eq (.pointer (some ⟨p, 3, none⟩)), Fg.eq (.slice ba r.length cap), Fg.eq (.int .i64 (r.length : Int)), Fg.eq (.bool false), Fg.eq (.bool false)] [25, 26, 27, 28, 29, 30, 31, 32, 33, 34, 35, 36, 37, 38, 39, 40, 41, 42, 43, 44, 45, 46, 47] (by kernel_rfl) (by kernel_rfl) (by kernel_rfl) ?_ ?_
        · intro L i o' ac w1 hi ho hA
          have hgr : Gr w2 w1 := (Gr.refl w2).drew.trans hA.gr
          match i, hi with
          | 0, _ =>
            obtain rfl := Option.some.inj ho
            exact gg_plain rfl (gstep_val (q_move rfl (show ac.eval (.tmp 5) = .bool true from hA.other 5 (by decide))) rfl)
          | 1, _ =>
            obtain rfl := Option.some.inj ho
            exact gg_plain rfl (gstep_val (rdl_not rfl (hA.fact 0 (hA.dep 0 (by kernel_rfl) (by decide))) rfl) rfl)
          | 2, _ =>
            obtain rfl := Option.some.inj ho
            exact gg_plain rfl (gstep_val (q_move rfl (hA.fact 1 (hA.dep 1 (by kernel_rfl) (by decide)))) rfl)
          | 3, _ =>
            obtain rfl := Option.some.inj ho
            exact gg_yes (b := false) rfl (hA.fact 2 (hA.dep 2 (by kernel_rfl) (by decide))) (gstep_val (q_move rfl (show ac.eval (.tmp 1) = .int .i64 now from hA.other 1 (by decide))) rfl)
          | 4, _ =>
            obtain rfl := Option.some.inj ho
            exact gg_yes (b := false) rfl (hA.fact 2 (hA.dep 2 (by kernel_rfl) (by decide))) (gstep_val (rdl_fa_millraceref_Pack_0 rfl (show ac.eval (.tmp 4) = .pointer (some ⟨rb, 0, none⟩) from hA.other 4 (by decide))) rfl)
          | 5, _ =>
            obtain rfl := Option.some.inj ho
            exact gg_yes (b := false) rfl (hA.fact 2 (hA.dep 2 (by kernel_rfl) (by decide))) (gstep_val (rdl_fa_api_Item_0 rfl (hA.fact 4 (hA.dep 4 (by kernel_rfl) (by decide)))) rfl)
          | 6, _ =>
            obtain rfl := Option.some.inj ho
            exact gg_yes (b := false) rfl (hA.fact 2 (hA.dep 2 (by kernel_rfl) (by decide))) (gstep_val (q_loadI rfl (hA.fact 5 (hA.dep 5 (by kernel_rfl) (by decide))) (hgr.cell HR2.out.1.at_.c0)) rfl)
          | 7, _ =>
            obtain rfl := Option.some.inj ho
            exact gg_yes (b := false) rfl (hA.fact 2 (hA.dep 2 (by kernel_rfl) (by decide))) (gstep_val (rdl_sub rfl (hA.fact 3 (hA.dep 3 (by kernel_rfl) (by decide))) (hA.fact 6 (hA.dep 6 (by kernel_rfl) (by decide))) (CS.out)) rfl)
          | 8, _ =>
            obtain rfl := Option.some.inj ho
            exact gg_yes (b := false) rfl (hA.fact 2 (hA.dep 2 (by kernel_rfl) (by decide))) (gstep_val (q_move rfl (show ac.eval (.tmp 0) = .pointer (some ⟨p, 0, none⟩) from hA.other 0 (by decide))) rfl)
          | 9, _ =>
            obtain rfl := Option.some.inj ho
            exact gg_yes (b := false) rfl (hA.fact 2 (hA.dep 2 (by kernel_rfl) (by decide))) (gstep_val (q_nil rfl (hA.fact 8 (hA.dep 8 (by kernel_rfl) (by decide)))) rfl)
          | 10, _ =>
            obtain rfl := Option.some.inj ho
            exact gg_yes (b := false) rfl (hA.fact 2 (hA.dep 2 (by kernel_rfl) (by decide))) (gstep_val (rdl_fa_millraceref_Delayed_1 rfl (hA.fact 9 (hA.dep 9 (by kernel_rfl) (by decide)))) rfl)
          | 11, _ =>
            obtain rfl := Option.some.inj ho
            exact gg_yes (b := false) rfl (hA.fact 2 (hA.dep 2 (by kernel_rfl) (by decide))) (gstep_val (q_loadI rfl (hA.fact 10 (hA.dep 10 (by kernel_rfl) (by decide))) (hgr.cell HA2.out.s0)) rfl)
          | 12, _ =>
            obtain rfl := Option.some.inj ho
            exact gg_yes (b := false) rfl (hA.fact 2 (hA.dep 2 (by kernel_rfl) (by decide))) (gstep_val (rdl_lss rfl (hA.fact 7 (hA.dep 7 (by kernel_rfl) (by decide))) (hA.fact 11 (hA.dep 11 (by kernel_rfl) (by decide))) (C1.out)) rfl)
          | 13, _ =>
            obtain rfl := Option.some.inj ho
            exact gg_plain rfl (gstep_val (rdl_pickF rfl (hA.fact 2 (hA.dep 2 (by kernel_rfl) (by decide))) (hA.fact 12 (hA.dep 12 (by kernel_rfl) (by decide)))) rfl)
          | 14, _ =>
            obtain rfl := Option.some.inj ho
            exact gg_plain rfl (gstep_val (q_move rfl (hA.fact 13 (hA.dep 13 (by kernel_rfl) (by decide)))) rfl)
          | 15, _ =>
            obtain rfl := Option.some.inj ho
            exact gg_yes (b := false) rfl (hA.fact 14 (hA.dep 14 (by kernel_rfl) (by decide))) (gstep_val (q_move rfl (show ac.eval (.tmp 0) = .pointer (some ⟨p, 0, none⟩) from hA.other 0 (by decide))) rfl)
          | 16, _ =>
            obtain rfl := Option.some.inj ho
            exact gg_yes (b := false) rfl (hA.fact 14 (hA.dep 14 (by kernel_rfl) (by decide))) (gstep_val (q_nil rfl (hA.fact 15 (hA.dep 15 (by kernel_rfl) (by decide)))) rfl)
          | 17, _ =>
            obtain rfl := Option.some.inj ho
            exact gg_yes (b := false) rfl (hA.fact 14 (hA.dep 14 (by kernel_rfl) (by decide))) (gstep_val (rdl_fa_millraceref_Delayed_0 rfl (hA.fact 16 (hA.dep 16 (by kernel_rfl) (by decide)))) rfl)
          | 18, _ =>
            obtain rfl := Option.some.inj ho
            exact gg_yes (b := false) rfl (hA.fact 14 (hA.dep 14 (by kernel_rfl) (by decide))) (gstep_val (rdl_fa_millraceref_Fifo_3 rfl (hA.fact 17 (hA.dep 17 (by kernel_rfl) (by decide)))) rfl)
          | 19, _ =>
            obtain rfl := Option.some.inj ho
            exact gg_yes (b := false) rfl (hA.fact 14 (hA.dep 14 (by kernel_rfl) (by decide))) (gstep_val (rdl_loadS___millraceref_Pack rfl (hA.fact 18 (hA.dep 18 (by kernel_rfl) (by decide))) (hgr.cell HA2.out.f.l.c)) rfl)
          | 20, _ =>
            obtain rfl := Option.some.inj ho
            exact gg_yes (b := false) rfl (hA.fact 14 (hA.dep 14 (by kernel_rfl) (by decide))) (gstep_val (rdl_len___millraceref_Pack rfl (hA.fact 19 (hA.dep 19 (by kernel_rfl) (by decide)))) rfl)
          | 21, _ =>
            obtain rfl := Option.some.inj ho
            exact gg_yes (b := false) rfl (hA.fact 14 (hA.dep 14 (by kernel_rfl) (by decide))) (gstep_val (rdl_eql rfl (hA.fact 20 (hA.dep 20 (by kernel_rfl) (by decide))) rfl (C2.out)) rfl)
          | 22, _ =>
            obtain rfl := Option.some.inj ho
            exact gg_plain rfl (gstep_val (rdl_pickF rfl (hA.fact 14 (hA.dep 14 (by kernel_rfl) (by decide))) (hA.fact 21 (hA.dep 21 (by kernel_rfl) (by decide)))) rfl)
          | k + 23, hk => exact absurd (show k + 23 < 23 from hk) (by omega)
        · intro vs w5 hg5 hv
          have HGX := Lib.hid ((Gr.refl w2).drew.trans hg5)
          have v47 : vs 22 = .bool false := hv 22 (by omega)
          clear hv hg5
          simp only [putN, List.drop_succ_cons, List.drop_zero, List.getElem?_cons_succ, List.getElem?_cons_zero]
          generalize vs 22 = z47 at *
          subst v47
          generalize vs 0 = z25 at *
          generalize vs 1 = z26 at *
          generalize vs 2 = z27 at *
          generalize vs 3 = z28 at *
          generalize vs 4 = z29 at *
          generalize vs 5 = z30 at *
          generalize vs 6 = z31 at *
          generalize vs 7 = z32 at *
          generalize vs 8 = z33 at *
          generalize vs 9 = z34 at *
          generalize vs 10 = z35 at *
          generalize vs 11 = z36 at *
          generalize vs 12 = z37 at *
          generalize vs 13 = z38 at *
          generalize vs 14 = z39 at *
          generalize vs 15 = z40 at *
          generalize vs 16 = z41 at *
          generalize vs 17 = z42 at *
          generalize vs 18 = z43 at *
          generalize vs 19 = z44 at *
          generalize vs 20 = z45 at *
          generalize vs 21 = z46 at *
          have HAX := Lib.hid (HA2.out.gr HGX.out)
          have HRX := Lib.hid (HR2.out.1.gr HGX.out)
          have HSX := Lib.hid (HS2.out.then (.of_gr HGX.out))
          obtain ⟨a0, af, sp0⟩ := And.intro HAX.out.a (And.intro HAX.out.af HAX.out.s1)
          obtain ⟨x0, x1, x2, x3, x4, x5⟩ := HRX.out.at_
          obtain rfl : av = .slice none 0 0 := by
            rcases HAX.out.abv with h | ⟨g, _, _, h3⟩
            · exact h.1
            · have := HC3.out; omega
          have rn := isl_nil
          have hpl : p < w5.heap.size := HAX.out.lt
          go_upto_region 7 with fail
          rw [CT.out]
          obtain ⟨w3, hw3⟩ : ∃ w3, w3 = (w5.setCell ⟨p, 6, none⟩ (.slice (some ⟨w5.heap.size, 0, none⟩) 1 1)).alloc (.cells #[.int .i64 (now + q.span)] 3) := ⟨_, rfl⟩
          have heq : (w5.setCell ⟨p, 6, none⟩ (.slice (some ⟨w5.heap.size, 0, none⟩) 1 1)).alloc (.cells #[.int .i64 (now + q.span)] 3) = (w5.alloc (.cells #[.int .i64 (now + q.span)] 3)).setCell ⟨p, 6, none⟩ (.slice (some ⟨w5.heap.size, 0, none⟩) 1 1) := (World.setCell_alloc_past _ _ _ _ HAX.out.lt).symm
          rw [heq] at hw3
          have hal : Gr w5 (w5.alloc (.cells #[.int .i64 (now + q.span)] 3)) := (Gr.refl _).alloc _
          have HA3 : Hid (RDelAt w3 p (.slice ba r.length cap) (.slice (some ⟨w5.heap.size, 0, none⟩) 1 1) q r (now + q.span) a.d a.nx a.ct) := Lib.hid (by
            rw [hw3]
            exact (HAX.out.gr hal).set_a (.inr ⟨_, rfl, by simp, CN.out⟩) (fun g hg => by
              obtain rfl : w5.heap.size = g := by simpa [Value.ownBlock] using hg
              have h1 := HAX.out.lt
              exact ⟨by omega, fun e => by have := HAX.out.f.l.row.lt e; omega, by simp⟩))
          have HR3 : Hid (HelRes w3 rb x) := Lib.hid (by rw [hw3]; exact (HRX.out.gr hal).sav (.set p 6 _) HRP.out)
          have HSW : Hid (Sav (LFoot p v) w w3) := Lib.hid (by rw [hw3]; exact HSX.out.then ((Sav.of_gr hal).then ((Sav.set p 6 _).mono fun g e => .inl e)))
          have HAO : Hid (∀ g, (Value.slice (some ⟨w5.heap.size, 0, none⟩) 1 1).ownBlock = some g → (Value.slice none 0 0).ownBlock = some g ∨ w.heap.size ≤ g) := Lib.hid (fun g hg => .inr (by have h0 : w5.heap.size = g := (by simpa [Value.ownBlock] using hg); have h1 := HSX.out.size; omega))
          have HVA : Hid (∀ g, (Value.slice (some ⟨w5.heap.size, 0, none⟩) 1 1).ownBlock = some g → ¬ g = rb) := Lib.hid (fun g hg e => by have h0 : w5.heap.size = g := (by simpa [Value.ownBlock] using hg); have h1 := HRX.out.at_.c0; have h2 : rb < w5.heap.size := cell_lt h1; omega)
          rw [← heq] at hw3
          rw [← hw3]
          clear hw3 heq a0 af sp0 hal rn hpl x0 x1 x2 x3 x4 x5
          obtain ⟨⟨r0, r1, r2, r3, r4, r5⟩, s0, s1, s2, s3, s4, s5⟩ := HR3.out
          go_wp2
          obtain ⟨w9, hw9⟩ : ∃ w9, w9 = ((((((w3.setCell ⟨rb, 0, none⟩ (.int .i64 x.t)).setCell ⟨rb, 1, none⟩ (.int .i64 x.len)).setCell ⟨rb, 2, none⟩ (.int .i64 x.flow)).setCell ⟨rb, 3, none⟩ (.int .i64 x.band)).setCell ⟨rb, 4, none⟩ (.int .i64 x.mark)).setCell ⟨rb, 5, none⟩ (.int .i64 x.n)) := ⟨_, rfl⟩
          have HR9 := Lib.hid (show HelRes w9 rb x ∧ Sav (fun q => q = rb) w3 w9 from by rw [hw9]; exact hel_set6 HR3.out x)
          rw [← hw9]
          clear hw9 r0 r1 r2 r3 r4 r5 s0 s1 s2 s3 s4 s5
          obtain ⟨⟨q0, q1, q2, q3, q4, q5⟩, _⟩ := HR9.out.1
          exact bodyPost_ret (v := .tuple #[.agg #[.int .i64 x.t, .int .i64 x.len, .int .i64 x.flow, .int .i64 x.band, .int .i64 x.mark, .int .i64 x.n], .bool true, .bool false]) (by simp [results, Tryd.results105, go_sem, q0, q1, q2, q3, q4, q5]) rfl
            ⟨rfl, _, _, HA3.out.sav HR9.out.2 (fun e => HRP.out e.symm) HV0.out HVA.out, HSW.out.trans HR9.out.2 (fun g e => .inr (by rw [e]; exact Nat.le_of_eq HR0.out.2.symm)), HO2.out, HAO.out⟩
      · rw [delPull_old hl (fun e => e.elim c1 c2) c3]
        have HC3 := Lib.hid c3
        clear hxt hn1 hn2 ht1 ht2 c1 c2 c3 hl ok hnow hq
        have HA := Lib.hid h
        have HPL := Lib.hid h.lt
        have HVL := Lib.hid (fun g hg => h.f.l.row.lt (g := g) hg)
        have HAL := Lib.hid (fun g hg => (h.ap g hg).2.2)
        clear h
        go_enter Tryd.func105, Tryd.ntmps105
        go_upto_region 1 with fail
        obtain ⟨w0, hw0⟩ : ∃ w0, w0 = w.alloc (.cells #[.int .i64 0, .int .i64 0, .int .i64 0, .int .i64 0, .int .i64 0, .int .i64 0] 108) := ⟨_, rfl⟩
        obtain ⟨rb, hrb⟩ : ∃ rb, rb = w.heap.size := ⟨_, rfl⟩
        have HR0 : Hid (HelRes w0 rb .zero ∧ rb = w.heap.size) := Lib.hid (by rw [hw0]; exact ⟨helRes_new w .zero hrb, hrb⟩)
        have HG0 : Hid (Gr w w0) := Lib.hid (by rw [hw0]; exact (Gr.refl _).alloc _)
        have HA0 := Lib.hid (HA.out.gr HG0.out)
        rw [← hw0, ← hrb]
        clear hw0 hrb
        have HRP := Lib.hid (show ¬ rb = p from fun e => by have := HR0.out.2; have := HPL.out; omega)
        have HVA0 := Lib.hid (show ∀ g, av.ownBlock = some g → ¬ g = rb from fun g hg e => by have h1 := HAL.out g hg; have h2 := HR0.out.2; omega)
        go_upto_region 3 with (go_at_call 85; refine (HNX.out _ HA0.out.f).mono ?_; rintro e w1 ⟨v', rfl, hd⟩; have HD := Lib.hid hd; have HR1 := Lib.hid (HR0.out.1.sav hd.sav.sav (fun e => e.elim HRP.out (fun e => by have h1 := HVL.out rb e; have h2 := HR0.out.2; omega))); obtain ⟨⟨r0, r1, r2, r3, r4, r5⟩, s0, s1, s2, s3, s4, s5⟩ := HR1.out; clear hd)
        obtain ⟨w2, hw2⟩ : ∃ w2, w2 = ((((((w1.setCell ⟨rb, 0, none⟩ (.int .i64 x.t)).setCell ⟨rb, 1, none⟩ (.int .i64 x.len)).setCell ⟨rb, 2, none⟩ (.int .i64 x.flow)).setCell ⟨rb, 3, none⟩ (.int .i64 x.band)).setCell ⟨rb, 4, none⟩ (.int .i64 x.mark)).setCell ⟨rb, 5, none⟩ (.int .i64 x.n)) := ⟨_, rfl⟩
        have HR2 := Lib.hid (show HelRes w2 rb x ∧ Sav (fun q => q = rb) w1 w2 from by rw [hw2]; exact hel_set6 HR1.out x)
        have HV0 := Lib.hid (show ∀ g, v'.ownBlock = some g → ¬ g = rb from fun g hg e => (HD.out.own g hg).elim (fun h1 => by have h2 := HVL.out g h1; have h3 := HR0.out.2; omega) (fun h1 => by have h2 := HR0.out.1.at_.c0; have h3 : rb < w0.heap.size := cell_lt h2; omega))
        have HA2 := Lib.hid ((HA0.out.fifo HD.out).sav HR2.out.2 (fun e => HRP.out e.symm) HV0.out HVA0.out)
        have HS2 := Lib.hid (show Sav (LFoot p v) w w2 from ((Sav.of_gr HG0.out).then HD.out.sav.sav).trans HR2.out.2 (fun g e => .inr (by rw [e]; exact Nat.le_of_eq HR0.out.2.symm)))
        have HO2 := Lib.hid (show ∀ g, v'.ownBlock = some g → v.ownBlock = some g ∨ w.heap.size ≤ g from fun g hg => (HD.out.own g hg).imp id (Nat.le_trans HG0.out.size))
        rw [← hw2]
        clear hw2 r0 r1 r2 r3 r4 r5 s0 s1 s2 s3 s4 s5
        obtain ⟨ba, cap, rfl⟩ := HA2.out.f.l.shape
        refine wp_region_gg (n := 23) [Fg.eq (.bool true), Fg.eq (.bool false), Fg.eq (.bool false), Fg.eq (.int .i64 now), Fg.eq (.pointer (some ⟨rb, 0, none⟩)), Fg.eq (.pointer (some ⟨rb, 0, none⟩)), Fg.eq (.int .i64 x.t), Fg.eq (.int .i64 (now - x.t)), Fg.eq (.pointer (some ⟨p, 0, none⟩)), Fg.eq (.pointer (some ⟨p, 0, none⟩)), Fg.eq (.pointer (some ⟨p, 4, none⟩)), Fg.eq (.int .i64 q.target), Fg.eq (.bool false), Fg.eq (.bool false), Fg.eq (.bool false), Fg.eq (.pointer (some ⟨p, 0, none⟩)), Fg.eq (.pointer (some ⟨p, 0, none⟩)), Fg.eq (.pointer (some ⟨p, 0, none⟩)), Fg.eq (.pointer (some ⟨p, 3, none⟩)), Fg.eq (.slice ba r.length cap), Fg.eq (.int .i64 (r.length : Int)), Fg.eq (.bool false), Fg.eq (.bool false)] [25, 26, 27, 28, 29, 30, 31, 32, 33, 34, 35, 36, 37, 38, 39, 40, 41, 42, 43, 44, 45, 46, 47] (by kernel_rfl) (by kernel_rfl) (by kernel_rfl) ?_ ?_
        · intro L i o' ac w1 hi ho hA
          have hgr : Gr w2 w1 := (Gr.refl w2).drew.trans hA.gr
          match i, hi with
          | 0, _ =>
            obtain rfl := Option.some.inj ho
            exact gg_plain rfl (gstep_val (q_move rfl (show ac.eval (.tmp 5) = .bool true from hA.other 5 (by decide))) rfl)
          | 1, _ =>
            obtain rfl := Option.some.inj ho
            exact gg_plain rfl (gstep_val (rdl_not rfl (hA.fact 0 (hA.dep 0 (by kernel_rfl) (by decide))) rfl) rfl)
          | 2, _ =>
            obtain rfl := Option.some.inj ho
            exact gg_plain rfl (gstep_val (q_move rfl (hA.fact 1 (hA.dep 1 (by kernel_rfl) (by decide)))) rfl)
          | 3, _ =>
            obtain rfl := Option.some.inj ho
            exact gg_yes (b := false) rfl (hA.fact 2 (hA.dep 2 (by kernel_rfl) (by decide))) (gstep_val (q_move rfl (show ac.eval (.tmp 1) = .int .i64 now from hA.other 1 (by decide))) rfl)
          | 4, _ =>
            obtain rfl := Option.some.inj ho
            exact gg_yes (b := false) rfl (hA.fact 2 (hA.dep 2 (by kernel_rfl) (by decide))) (gstep_val (rdl_fa_millraceref_Pack_0 rfl (show ac.eval (.tmp 4) = .pointer (some ⟨rb, 0, none⟩) from hA.other 4 (by decide))) rfl)
          | 5, _ =>
            obtain rfl := Option.some.inj ho
            exact gg_yes (b := false) rfl (hA.fact 2 (hA.dep 2 (by kernel_rfl) (by decide))) (gstep_val (rdl_fa_api_Item_0 rfl (hA.fact 4 (hA.dep 4 (by kernel_rfl) (by decide)))) rfl)
          | 6, _ =>
            obtain rfl := Option.some.inj ho
            exact gg_yes (b := false) rfl (hA.fact 2 (hA.dep 2 (by kernel_rfl) (by decide))) (gstep_val (q_loadI rfl (hA.fact 5 (hA.dep 5 (by kernel_rfl) (by decide))) (hgr.cell HR2.out.1.at_.c0)) rfl)
          | 7, _ =>
            obtain rfl := Option.some.inj ho
            exact gg_yes (b := false) rfl (hA.fact 2 (hA.dep 2 (by kernel_rfl) (by decide))) (gstep_val (rdl_sub rfl (hA.fact 3 (hA.dep 3 (by kernel_rfl) (by decide))) (hA.fact 6 (hA.dep 6 (by kernel_rfl) (by decide))) (CS.out)) rfl)
          | 8, _ =>
            obtain rfl := Option.some.inj ho
            exact gg_yes (b := false) rfl (hA.fact 2 (hA.dep 2 (by kernel_rfl) (by decide))) (gstep_val (q_move rfl (show ac.eval (.tmp 0) = .pointer (some ⟨p, 0, none⟩) from hA.other 0 (by decide))) rfl)
          | 9, _ =>
            obtain rfl := Option.some.inj ho
            exact gg_yes (b := false) rfl (hA.fact 2 (hA.dep 2 (by kernel_rfl) (by decide))) (gstep_val (q_nil rfl (hA.fact 8 (hA.dep 8 (by kernel_rfl) (by decide)))) rfl)
          | 10, _ =>
            obtain rfl := Option.some.inj ho
            exact gg_yes (b := false) rfl (hA.fact 2 (hA.dep 2 (by kernel_rfl) (by decide))) (gstep_val (rdl_fa_millraceref_Delayed_1 rfl (hA.fact 9 (hA.dep 9 (by kernel_rfl) (by decide)))) rfl)
          | 11, _ =>
            obtain rfl := Option.some.inj ho
            exact gg_yes (b := false) rfl (hA.fact 2 (hA.dep 2 (by kernel_rfl) (by decide))) (gstep_val (q_loadI rfl (hA.fact 10 (hA.dep 10 (by kernel_rfl) (by decide))) (hgr.cell HA2.out.s0)) rfl)
          | 12, _ =>
            obtain rfl := Option.some.inj ho
            exact gg_yes (b := false) rfl (hA.fact 2 (hA.dep 2 (by kernel_rfl) (by decide))) (gstep_val (rdl_lss rfl (hA.fact 7 (hA.dep 7 (by kernel_rfl) (by decide))) (hA.fact 11 (hA.dep 11 (by kernel_rfl) (by decide))) (C1.out)) rfl)
          | 13, _ =>
            obtain rfl := Option.some.inj ho
            exact gg_plain rfl (gstep_val (rdl_pickF rfl (hA.fact 2 (hA.dep 2 (by kernel_rfl) (by decide))) (hA.fact 12 (hA.dep 12 (by kernel_rfl) (by decide)))) rfl)
          | 14, _ =>
            obtain rfl := Option.some.inj ho
            exact gg_plain rfl (gstep_val (q_move rfl (hA.fact 13 (hA.dep 13 (by kernel_rfl) (by decide)))) rfl)
          | 15, _ =>
            obtain rfl := Option.some.inj ho
            exact gg_yes (b := false) rfl (hA.fact 14 (hA.dep 14 (by kernel_rfl) (by decide))) (gstep_val (q_move rfl (show ac.eval (.tmp 0) = .pointer (some ⟨p, 0, none⟩) from hA.other 0 (by decide))) rfl)
          | 16, _ =>
            obtain rfl := Option.some.inj ho
            exact gg_yes (b := false) rfl (hA.fact 14 (hA.dep 14 (by kernel_rfl) (by decide))) (gstep_val (q_nil rfl (hA.fact 15 (hA.dep 15 (by kernel_rfl) (by decide)))) rfl)
          | 17, _ =>
            obtain rfl := Option.some.inj ho
            exact gg_yes (b := false) rfl (hA.fact 14 (hA.dep 14 (by kernel_rfl) (by decide))) (gstep_val (rdl_fa_millraceref_Delayed_0 rfl (hA.fact 16 (hA.dep 16 (by kernel_rfl) (by decide)))) rfl)
          | 18, _ =>
            obtain rfl := Option.some.inj ho
            exact gg_yes (b := false) rfl (hA.fact 14 (hA.dep 14 (by kernel_rfl) (by decide))) (gstep_val (rdl_fa_millraceref_Fifo_3 rfl (hA.fact 17 (hA.dep 17 (by kernel_rfl) (by decide)))) rfl)
          | 19, _ =>
            obtain rfl := Option.some.inj ho
            exact gg_yes (b := false) rfl (hA.fact 14 (hA.dep 14 (by kernel_rfl) (by decide))) (gstep_val (rdl_loadS___millraceref_Pack rfl (hA.fact 18 (hA.dep 18 (by kernel_rfl) (by decide))) (hgr.cell HA2.out.f.l.c)) rfl)
          | 20, _ =>
            obtain rfl := Option.some.inj ho
            exact gg_yes (b := false) rfl (hA.fact 14 (hA.dep 14 (by kernel_rfl) (by decide))) (gstep_val (rdl_len___millraceref_Pack rfl (hA.fact 19 (hA.dep 19 (by kernel_rfl) (by decide)))) rfl)
          | 21, _ =>
            obtain rfl := Option.some.inj ho
            exact gg_yes (b := false) rfl (hA.fact 14 (hA.dep 14 (by kernel_rfl) (by decide))) (gstep_val (rdl_eql rfl (hA.fact 20 (hA.dep 20 (by kernel_rfl) (by decide))) rfl (C2.out)) rfl)
          | 22, _ =>
            obtain rfl := Option.some.inj ho
            exact gg_plain rfl (gstep_val (rdl_pickF rfl (hA.fact 14 (hA.dep 14 (by kernel_rfl) (by decide))) (hA.fact 21 (hA.dep 21 (by kernel_rfl) (by decide)))) rfl)
          | k + 23, hk => exact absurd (show k + 23 < 23 from hk) (by omega)
        · intro vs w5 hg5 hv
          have HGX := Lib.hid ((Gr.refl w2).drew.trans hg5)
          have v47 : vs 22 = .bool false := hv 22 (by omega)
          clear hv hg5
          simp only [putN, List.drop_succ_cons, List.drop_zero, List.getElem?_cons_succ, List.getElem?_cons_zero]
          generalize vs 22 = z47 at *
          subst v47
          generalize vs 0 = z25 at *
          generalize vs 1 = z26 at *
          generalize vs 2 = z27 at *
          generalize vs 3 = z28 at *
          generalize vs 4 = z29 at *
          generalize vs 5 = z30 at *
          generalize vs 6 = z31 at *
          generalize vs 7 = z32 at *
          generalize vs 8 = z33 at *
          generalize vs 9 = z34 at *
          generalize vs 10 = z35 at *
          generalize vs 11 = z36 at *
          generalize vs 12 = z37 at *
          generalize vs 13 = z38 at *
          generalize vs 14 = z39 at *
          generalize vs 15 = z40 at *
          generalize vs 16 = z41 at *
          generalize vs 17 = z42 at *
          generalize vs 18 = z43 at *
          generalize vs 19 = z44 at *
          generalize vs 20 = z45 at *
          generalize vs 21 = z46 at *
          have HAX := Lib.hid (HA2.out.gr HGX.out)
          have HRX := Lib.hid (HR2.out.1.gr HGX.out)
          have HSX := Lib.hid (HS2.out.then (.of_gr HGX.out))
          obtain ⟨a0, af, sp0⟩ := And.intro HAX.out.a (And.intro HAX.out.af HAX.out.s1)
          obtain ⟨x0, x1, x2, x3, x4, x5⟩ := HRX.out.at_
          obtain ⟨g, rfl, ag, _⟩ : ∃ g, av = .slice (some ⟨g, 0, none⟩) 1 1 ∧ w5.cell? ⟨g, 0, none⟩ = some (.int .i64 a.ab) ∧ 0 ≤ a.ab := by
            rcases HAX.out.abv with h | ⟨g, h1, h2, h3⟩
            · exfalso; have h1 := HC3.out; have h2 := h.2; omega
            · exact ⟨g, h1, h2, h3⟩
          have rn := isl_no
          go_upto_region 7 with fail
          have HA3 := HAX
          have HR3 := HRX
          have HSW := HSX
          have HAO : Hid (∀ g', (Value.slice (some ⟨g, 0, none⟩) 1 1).ownBlock = some g' → (Value.slice (some ⟨g, 0, none⟩) 1 1).ownBlock = some g' ∨ w.heap.size ≤ g') := Lib.hid (fun _ => .inl)
          have HVA := HVA0
          clear a0 af sp0 ag rn x0 x1 x2 x3 x4 x5
          obtain ⟨⟨r0, r1, r2, r3, r4, r5⟩, s0, s1, s2, s3, s4, s5⟩ := HR3.out
          go_wp2
          obtain ⟨w9, hw9⟩ : ∃ w9, w9 = ((((((w5.setCell ⟨rb, 0, none⟩ (.int .i64 x.t)).setCell ⟨rb, 1, none⟩ (.int .i64 x.len)).setCell ⟨rb, 2, none⟩ (.int .i64 x.flow)).setCell ⟨rb, 3, none⟩ (.int .i64 x.band)).setCell ⟨rb, 4, none⟩ (.int .i64 x.mark)).setCell ⟨rb, 5, none⟩ (.int .i64 x.n)) := ⟨_, rfl⟩
          have HR9 := Lib.hid (show HelRes w9 rb x ∧ Sav (fun q => q = rb) w5 w9 from by rw [hw9]; exact hel_set6 HR3.out x)
          rw [← hw9]
          clear hw9 r0 r1 r2 r3 r4 r5 s0 s1 s2 s3 s4 s5
          obtain ⟨⟨q0, q1, q2, q3, q4, q5⟩, _⟩ := HR9.out.1
          exact bodyPost_ret (v := .tuple #[.agg #[.int .i64 x.t, .int .i64 x.len, .int .i64 x.flow, .int .i64 x.band, .int .i64 x.mark, .int .i64 x.n], .bool true, .bool (decide (a.ab ≤ now))]) (by simp [results, Tryd.results105, go_sem, q0, q1, q2, q3, q4, q5]) rfl
            ⟨rfl, _, _, HA3.out.sav HR9.out.2 (fun e => HRP.out e.symm) HV0.out HVA.out, HSW.out.trans HR9.out.2 (fun g e => .inr (by rw [e]; exact Nat.le_of_eq HR0.out.2.symm)), HO2.out, HAO.out⟩
end Go.Proofs.YtbpofdfehcbppaaDoor

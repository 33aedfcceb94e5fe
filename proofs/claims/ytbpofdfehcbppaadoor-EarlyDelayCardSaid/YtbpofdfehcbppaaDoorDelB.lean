/-
  The program's Delay: its cells, root, law. (Printed by gendel.py.)
-/
import Derived.Test.YtbpofdfehcbppaaDoorDelA
import Derived.Test.YtbpofdfehcbppaaDoorFifoC
import Derived.Test.YtbpofdfehcbppaaDoorRedB
import Derived.Test.YtbpofdfehcbppaaDoorRegG
import Derived.BigQuiet
namespace Go.Proofs.YtbpofdfehcbppaaDoor
open Go.RowKit Go.Extern.Stop Go.Stop Go.Extern

/-- A Delay of the program's at p. -/
structure DelAt (w : World) (p : Nat) (v : Value) (q : DelP) (l : List Hel) (ab : Int) (d : Bool) (nx ct : Int) : Prop where
  f : FifoAt w p v l q.P 1000000 false
  s0 : w.cell? ⟨p, 5, none⟩ = some (.int .i64 q.target)
  s1 : w.cell? ⟨p, 6, none⟩ = some (.int .i64 q.span)
  ab : w.cell? ⟨p, 7, none⟩ = some (.int .i64 ab)
  abf : w.frozen? ⟨p, 7, none⟩ = false
  d : w.cell? ⟨p, 8, none⟩ = some (.bool d)
  df : w.frozen? ⟨p, 8, none⟩ = false
  nx : w.cell? ⟨p, 9, none⟩ = some (.int .i64 nx)
  nxf : w.frozen? ⟨p, 9, none⟩ = false
  ct : w.cell? ⟨p, 10, none⟩ = some (.int .i64 ct)
  ctf : w.frozen? ⟨p, 10, none⟩ = false
theorem DelAt.lt {w : World} {p : Nat} {v : Value} {q : DelP} {l : List Hel} {ab : Int} {d : Bool} {nx ct : Int} (h : DelAt w p v q l ab d nx ct) : p < w.heap.size := cell_lt h.s0
theorem DelAt.sav {w w' : World} {p : Nat} {v : Value} {q : DelP} {l : List Hel} {ab : Int} {d : Bool} {nx ct : Int} {B : Nat → Prop} (h : DelAt w p v q l ab d nx ct) (k : Sav B w w') (hp : ¬ B p) (hv : ∀ g, v.ownBlock = some g → ¬ B g) : DelAt w' p v q l ab d nx ct :=
  have lt := h.lt
  ⟨h.f.sav k hp hv, k.cell h.s0 hp, k.cell h.s1 hp, k.cell h.ab hp, k.frozen (p := ⟨p, 7, none⟩) lt h.abf hp, k.cell h.d hp, k.frozen (p := ⟨p, 8, none⟩) lt h.df hp, k.cell h.nx hp, k.frozen (p := ⟨p, 9, none⟩) lt h.nxf hp, k.cell h.ct hp, k.frozen (p := ⟨p, 10, none⟩) lt h.ctf hp⟩
theorem DelAt.gr {w w' : World} {p : Nat} {v : Value} {q : DelP} {l : List Hel} {ab : Int} {d : Bool} {nx ct : Int} (h : DelAt w p v q l ab d nx ct) (k : Gr w w') : DelAt w' p v q l ab d nx ct := h.sav (B := fun _ => False) (.of_gr k) id (fun _ _ => id)
theorem DelAt.set_ab {w : World} {p : Nat} {v : Value} {q : DelP} {l : List Hel} {ab : Int} {d : Bool} {nx ct : Int} (h : DelAt w p v q l ab d nx ct) (ab' : Int) : DelAt (w.setCell ⟨p, 7, none⟩ (.int .i64 ab')) p v q l ab' d nx ct :=
  ⟨h.f.setc 7 _ (by decide), cell_so h.s0 (by simp), cell_so h.s1 (by simp), cell_ss h.ab, by simpa using h.abf, cell_so h.d (by simp), by simpa using h.df, cell_so h.nx (by simp), by simpa using h.nxf, cell_so h.ct (by simp), by simpa using h.ctf⟩
theorem DelAt.set_d {w : World} {p : Nat} {v : Value} {q : DelP} {l : List Hel} {ab : Int} {d : Bool} {nx ct : Int} (h : DelAt w p v q l ab d nx ct) (d' : Bool) : DelAt (w.setCell ⟨p, 8, none⟩ (.bool d')) p v q l ab d' nx ct :=
  ⟨h.f.setc 8 _ (by decide), cell_so h.s0 (by simp), cell_so h.s1 (by simp), cell_so h.ab (by simp), by simpa using h.abf, cell_ss h.d, by simpa using h.df, cell_so h.nx (by simp), by simpa using h.nxf, cell_so h.ct (by simp), by simpa using h.ctf⟩
theorem DelAt.set_nx {w : World} {p : Nat} {v : Value} {q : DelP} {l : List Hel} {ab : Int} {d : Bool} {nx ct : Int} (h : DelAt w p v q l ab d nx ct) (nx' : Int) : DelAt (w.setCell ⟨p, 9, none⟩ (.int .i64 nx')) p v q l ab d nx' ct :=
  ⟨h.f.setc 9 _ (by decide), cell_so h.s0 (by simp), cell_so h.s1 (by simp), cell_so h.ab (by simp), by simpa using h.abf, cell_so h.d (by simp), by simpa using h.df, cell_ss h.nx, by simpa using h.nxf, cell_so h.ct (by simp), by simpa using h.ctf⟩
theorem DelAt.set_ct {w : World} {p : Nat} {v : Value} {q : DelP} {l : List Hel} {ab : Int} {d : Bool} {nx ct : Int} (h : DelAt w p v q l ab d nx ct) (ct' : Int) : DelAt (w.setCell ⟨p, 10, none⟩ (.int .i64 ct')) p v q l ab d nx ct' :=
  ⟨h.f.setc 10 _ (by decide), cell_so h.s0 (by simp), cell_so h.s1 (by simp), cell_so h.ab (by simp), by simpa using h.abf, cell_so h.d (by simp), by simpa using h.df, cell_so h.nx (by simp), by simpa using h.nxf, cell_ss h.ct, by simpa using h.ctf⟩
theorem DelAt.fifo {w w' : World} {p : Nat} {v : Value} {q : DelP} {l : List Hel} {ab : Int} {d : Bool} {nx ct : Int} {v' : Value} {l' : List Hel} (h : DelAt w p v q l ab d nx ct) (dd : FifoDid w w' p v v' l' q.P 1000000 false) : DelAt w' p v' q l' ab d nx ct :=
  ⟨dd.at_, (dd.sav.cell 5 (by decide) (by decide)).trans h.s0, (dd.sav.cell 6 (by decide) (by decide)).trans h.s1, (dd.sav.cell 7 (by decide) (by decide)).trans h.ab, (dd.sav.frozen 7).trans h.abf, (dd.sav.cell 8 (by decide) (by decide)).trans h.d, (dd.sav.frozen 8).trans h.df, (dd.sav.cell 9 (by decide) (by decide)).trans h.nx, (dd.sav.frozen 9).trans h.nxf, (dd.sav.cell 10 (by decide) (by decide)).trans h.ct, (dd.sav.frozen 10).trans h.ctf⟩

section
variable {ev : Operand → Value} {o : Oper} {w : World} {x y z : Operand} {u : Value}
theorem del_fa_early_Delay_2 {p o' : Nat} (ho : o.op = .fieldAddr 71 x 2) (h : ev x = .pointer (some ⟨p, o', none⟩)) : (execOp ev o).run Tryd.prog w = .ok (.value (.pointer (some ⟨p, o' + 6, none⟩))) w := by
  simp [execOp, ho, h, go_sem]
theorem del_mul {m n r : Int} (ho : o.op = .binOp .mul 3 x y 3) (h : ev x = .int .i64 m) (k : ev y = .int .i64 n) (hb : IntKind.i64.wrap (m * n) = r) : (execOp ev o).run Tryd.prog w = .ok (.value (.int .i64 r)) w := by
  subst hb
  simp [execOp, ho, h, k, go_sem]
theorem del_fa_early_Delay_6 {p o' : Nat} (ho : o.op = .fieldAddr 71 x 6) (h : ev x = .pointer (some ⟨p, o', none⟩)) : (execOp ev o).run Tryd.prog w = .ok (.value (.pointer (some ⟨p, o' + 10, none⟩))) w := by
  simp [execOp, ho, h, go_sem]
theorem del_call_millrace_early_root {x0 : Operand} {v0 : Value} (ho : o.op = .call { callee := .value (.func 102), args := #[x0], argTypes := #[3] }) (hf : ev (.func 102) = .func (.func 102) #[] #[]) (h0 : ev x0 = v0) : (execOp ev o).run Tryd.prog w = .ok (.enter 102 #[v0]) w := by
  simp [execOp, ho, hf, h0, resolve, invoke, go_sem]
theorem del_quo {m n r : Int} (ho : o.op = .binOp .quo 3 x y 3) (h : ev x = .int .i64 m) (k : ev y = .int .i64 n) (hn : n ≠ 0) (hb : IntKind.i64.wrap (m.tdiv n) = r) : (execOp ev o).run Tryd.prog w = .ok (.value (.int .i64 r)) w := by
  subst hb
  simp [execOp, ho, h, k, hn, go_sem]
theorem del_add {m n r : Int} (ho : o.op = .binOp .add 3 x y 3) (h : ev x = .int .i64 m) (k : ev y = .int .i64 n) (hb : IntKind.i64.wrap (m + n) = r) : (execOp ev o).run Tryd.prog w = .ok (.value (.int .i64 r)) w := by
  subst hb
  simp [execOp, ho, h, k, go_sem]
end

set_option maxHeartbeats 1000000 in
theorem root_any (n : Int) (w : World) (hn : 0 ≤ n ∧ n ≤ 1000000000) : Calls Tryd.prog 102 #[.int .i64 n] w fun e w' => e = .returned (.int .i64 (rootOf n)) ∧ w = w' := by
  have HN := Lib.hid hn
  clear hn
  go_enter Tryd.func102, Tryd.ntmps102
  go_wp2
  go_loop [3] (fun s => ∃ x : Int, 0 ≤ x ∧ Hid (x * x ≤ n) ∧ s = .int .i64 x) (fun s => (n - intOf s).toNat)
  case atStart => exact ⟨0, Int.le_refl _, Lib.hid (by have := HN.out; omega), rfl⟩
  case round =>
    obtain ⟨x, h0, HX, rfl⟩ := hrel
    have hx : x ≤ 31623 := by
      rcases Int.lt_or_le 31623 x with h | h
      · exfalso
        have := sq_le (a := 31624) (by omega) (show 31624 ≤ x from h)
        have h2 := HX.out
        have h3 := HN.out
        omega
      · exact h
    have hb : (x + 1) * (x + 1) ≤ 31624 * 31624 := sq_le (by omega) (by omega)
    have hb0 : 0 ≤ (x + 1) * (x + 1) := Int.mul_nonneg (by omega) (by omega)
    have HW := Lib.hid (show wrap64 ((x + 1) * (x + 1)) = (x + 1) * (x + 1) from by unfold wrap64; omega)
    clear hb hb0
    by_cases hle : (x + 1) * (x + 1) ≤ n
    · have hw : wrap64 ((x + 1) * (x + 1)) ≤ n := by rw [HW.out]; exact hle
      have HLE := Lib.hid hle
      clear hle
      go_wp2
      go_round
      case rel => exact ⟨x + 1, by omega, HLE, rfl⟩
      case measure =>
        have h1 := HLE.out
        have h2 : x + 1 ≤ (x + 1) * (x + 1) := by
          have := Int.mul_le_mul_of_nonneg_left (show 1 ≤ x + 1 by omega) (show 0 ≤ x + 1 by omega)
          omega
        simp [intOf]
        omega
    · have hw : ¬ wrap64 ((x + 1) * (x + 1)) ≤ n := by rw [HW.out]; exact hle
      have HLE := Lib.hid hle
      clear hle
      go_wp2
      go_ret
      have hr : rootOf n = x := rootOf_is h0 HX.out (by have := HLE.out; omega)
      rw [hr]
      exact ⟨rfl, rfl⟩
theorem root_g (n : Int) (w : World) (hn : 0 ≤ n ∧ n ≤ 1000000000) : Calls Tryd.prog 102 #[.int .i64 n] w fun e w' => e = .returned (.int .i64 (rootOf n)) ∧ Gr w w' :=
  (root_any n w hn).mono fun _ _ ⟨h1, h2⟩ => ⟨h1, h2 ▸ Gr.refl _⟩
set_option maxRecDepth 100000 in
theorem dellaw_any (p : Nat) (t ct : Int) (q : DelP) (hq : q.Ok) (w : World) (hs : w.cell? ⟨p, 6, none⟩ = some (.int .i64 q.span)) (hc : w.cell? ⟨p, 10, none⟩ = some (.int .i64 ct)) (hct : 1 ≤ ct ∧ ct ≤ 900) (ht : 0 ≤ t ∧ t ≤ 10000000) :
    Calls Tryd.prog 101 #[.pointer (some ⟨p, 0, none⟩), .int .i64 t] w fun e w' => e = .returned (.int .i64 (delLaw q t ct)) ∧ Gr w w' := by
  have HS := Lib.hid hs
  have HC := Lib.hid hc
  have HB := Lib.hid (show 0 ≤ 1000000 * ct ∧ 1000000 * ct ≤ 1000000000 from by omega)
  have hr := rootOf_ge (n := 1000000 * ct) (by omega)
  have hl := delLaw_in hq (t := t) hct.1
  have hsp := hq.span
  have HNZ := Lib.hid (show rootOf (1000000 * ct) ≠ 0 from by omega)
  have D1 := Lib.hid (show IntKind.i64.wrap (q.span * 1000) = q.span * 1000 from by rw [IntKind.wrap_i64]; omega)
  have D2 := Lib.hid (show IntKind.i64.wrap (1000000 * ct) = 1000000 * ct from by rw [IntKind.wrap_i64]; omega)
  have D3 := Lib.hid (show IntKind.i64.wrap ((q.span * 1000).tdiv (rootOf (1000000 * ct))) = q.span * 1000 / rootOf (1000000 * ct) from by
    rw [Int.tdiv_eq_ediv_of_nonneg (by omega), IntKind.wrap_i64]
    unfold delLaw at hl
    generalize q.span * 1000 / rootOf (1000000 * ct) = z at *
    omega)
  have D4 := Lib.hid (show IntKind.i64.wrap (t + q.span * 1000 / rootOf (1000000 * ct)) = delLaw q t ct from by
    show IntKind.i64.wrap (delLaw q t ct) = _
    rw [IntKind.wrap_i64]
    omega)
  clear hs hc hct ht hr hl hsp
  go_enter Tryd.func101, Tryd.ntmps101
  go_upto_region 1 with fail
  refine wp_region_gg (n := 14) [Fg.eq (.int .i64 t), Fg.eq (.pointer (some ⟨p, 0, none⟩)), Fg.eq (.pointer (some ⟨p, 0, none⟩)), Fg.eq (.pointer (some ⟨p, 6, none⟩)), Fg.eq (.int .i64 q.span), Fg.eq (.int .i64 (q.span * 1000)), Fg.eq (.pointer (some ⟨p, 0, none⟩)), Fg.eq (.pointer (some ⟨p, 0, none⟩)), Fg.eq (.pointer (some ⟨p, 10, none⟩)), Fg.eq (.int .i64 ct), Fg.eq (.int .i64 (1000000 * ct)), Fg.eq ((.int .i64 (rootOf (1000000 * ct)))), Fg.eq (.int .i64 (q.span * 1000 / rootOf (1000000 * ct))), Fg.eq (.int .i64 (delLaw q t ct))] [5, 6, 7, 8, 9, 10, 11, 12, 13, 14, 15, 16, 17, 18] (by kernel_rfl) (by kernel_rfl) (by kernel_rfl) ?_ ?_
  · intro L i o' ac w1 hi ho hA
    have hgr : Gr w w1 := (Gr.refl w).drew.trans hA.gr
    match i, hi with
    | 0, _ =>
      obtain rfl := Option.some.inj ho
      exact gg_plain rfl (gstep_val (q_move rfl (show ac.eval (.tmp 1) = .int .i64 t from hA.other 1 (by decide))) rfl)
    | 1, _ =>
      obtain rfl := Option.some.inj ho
      exact gg_plain rfl (gstep_val (q_move rfl (show ac.eval (.tmp 0) = .pointer (some ⟨p, 0, none⟩) from hA.other 0 (by decide))) rfl)
    | 2, _ =>
      obtain rfl := Option.some.inj ho
      exact gg_plain rfl (gstep_val (q_nil rfl (hA.fact 1 (hA.dep 1 (by kernel_rfl) (by decide)))) rfl)
    | 3, _ =>
      obtain rfl := Option.some.inj ho
      exact gg_plain rfl (gstep_val (del_fa_early_Delay_2 rfl (hA.fact 2 (hA.dep 2 (by kernel_rfl) (by decide)))) rfl)
    | 4, _ =>
      obtain rfl := Option.some.inj ho
      exact gg_plain rfl (gstep_val (q_loadI rfl (hA.fact 3 (hA.dep 3 (by kernel_rfl) (by decide))) (hgr.cell HS.out)) rfl)
    | 5, _ =>
      obtain rfl := Option.some.inj ho
      exact gg_plain rfl (gstep_val (del_mul rfl (hA.fact 4 (hA.dep 4 (by kernel_rfl) (by decide))) rfl (D1.out)) rfl)
    | 6, _ =>
      obtain rfl := Option.some.inj ho
      exact gg_plain rfl (gstep_val (q_move rfl (show ac.eval (.tmp 0) = .pointer (some ⟨p, 0, none⟩) from hA.other 0 (by decide))) rfl)
    | 7, _ =>
      obtain rfl := Option.some.inj ho
      exact gg_plain rfl (gstep_val (q_nil rfl (hA.fact 6 (hA.dep 6 (by kernel_rfl) (by decide)))) rfl)
    | 8, _ =>
      obtain rfl := Option.some.inj ho
      exact gg_plain rfl (gstep_val (del_fa_early_Delay_6 rfl (hA.fact 7 (hA.dep 7 (by kernel_rfl) (by decide)))) rfl)
    | 9, _ =>
      obtain rfl := Option.some.inj ho
      exact gg_plain rfl (gstep_val (q_loadI rfl (hA.fact 8 (hA.dep 8 (by kernel_rfl) (by decide))) (hgr.cell HC.out)) rfl)
    | 10, _ =>
      obtain rfl := Option.some.inj ho
      exact gg_plain rfl (gstep_val (del_mul rfl rfl (hA.fact 9 (hA.dep 9 (by kernel_rfl) (by decide))) (D2.out)) rfl)
    | 11, _ =>
      obtain rfl := Option.some.inj ho
      exact gg_plain rfl (gstep_call (del_call_millrace_early_root rfl rfl (hA.fact 10 (hA.dep 10 (by kernel_rfl) (by decide)))) ((root_g (1000000 * ct) w1 HB.out).mono (fun e w' ⟨h1, h2⟩ => ⟨_, h1, h2, rfl⟩)))
    | 12, _ =>
      obtain rfl := Option.some.inj ho
      exact gg_plain rfl (gstep_val (del_quo rfl (hA.fact 5 (hA.dep 5 (by kernel_rfl) (by decide))) (hA.fact 11 (hA.dep 11 (by kernel_rfl) (by decide))) (HNZ.out) (D3.out)) rfl)
    | 13, _ =>
      obtain rfl := Option.some.inj ho
      exact gg_plain rfl (gstep_val (del_add rfl (hA.fact 0 (hA.dep 0 (by kernel_rfl) (by decide))) (hA.fact 12 (hA.dep 12 (by kernel_rfl) (by decide))) (D4.out)) rfl)
    | k + 14, hk => exact absurd (show k + 14 < 14 from hk) (by omega)
  · intro vs w5 hg5 hv
    have HGX := Lib.hid ((Gr.refl w).drew.trans hg5)
    have v18 : vs 13 = .int .i64 (delLaw q t ct) := hv 13 (by omega)
    clear hv hg5
    simp only [putN, List.drop_succ_cons, List.drop_zero, List.getElem?_cons_succ, List.getElem?_cons_zero]
    generalize vs 13 = z18 at *
    subst v18
    generalize vs 0 = z5 at *
    generalize vs 1 = z6 at *
    generalize vs 2 = z7 at *
    generalize vs 3 = z8 at *
    generalize vs 4 = z9 at *
    generalize vs 5 = z10 at *
    generalize vs 6 = z11 at *
    generalize vs 7 = z12 at *
    generalize vs 8 = z13 at *
    generalize vs 9 = z14 at *
    generalize vs 10 = z15 at *
    generalize vs 11 = z16 at *
    generalize vs 12 = z17 at *
    go_wp2
    go_ret
    exact ⟨rfl, HGX.out⟩
end Go.Proofs.YtbpofdfehcbppaaDoor

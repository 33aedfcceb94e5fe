/-
  The law ActionDoes: its walk. (Printed by genactk.py.)
-/
import Derived.Test.YtjghgafeoimgiaaDoorActJ
import Derived.Test.YtjghgafeoimgiaaDoorActI
import Derived.Test.YtjghgafeoimgiaaDoorBktP
namespace Go.Proofs.YtjghgafeoimgiaaDoor
open Go.RowKit

section
variable {ev : Operand → Value} {o : Oper} {w : World} {x y z : Operand} {u : Value}
theorem j_idxA {b off n c j : Nat} (ho : o.op = .indexAddr 22 x y) (h : ev x = .slice (some ⟨b, off, none⟩) n c) (k : ev y = .int .i64 (j : Int)) (hj : j < n) : (execOp ev o).run Tryd.prog w = .ok (.value (.pointer (some ⟨b, off + j * 3, none⟩))) w := by
  have h0 : (0 : Int) ≤ (j : Int) := by omega
  have h1 : (j : Int) < (n : Int) := by omega
  simp [execOp, ho, h, k, h0, h1, go_sem]
theorem j_idxB {b off n c j : Nat} (ho : o.op = .indexAddr 26 x y) (h : ev x = .slice (some ⟨b, off, none⟩) n c) (k : ev y = .int .i64 (j : Int)) (hj : j < n) : (execOp ev o).run Tryd.prog w = .ok (.value (.pointer (some ⟨b, off + j * 3, none⟩))) w := by
  have h0 : (0 : Int) ≤ (j : Int) := by omega
  have h1 : (j : Int) < (n : Int) := by omega
  simp [execOp, ho, h, k, h0, h1, go_sem]
theorem j_buildA {a b c : Int} (ho : o.op = .build 29 #[(0, x), (1, y), (2, z)]) (h0 : ev x = .int .i64 a) (h1 : ev y = .int .i64 b) (h2 : ev z = .int .i64 c) : (execOp ev o).run Tryd.prog w = .ok (.value (.agg #[.int .i64 a, .int .i64 b, .int .i64 c])) w := by
  simp [execOp, ho, h0, h1, h2, go_sem]
theorem j_sliceA {a b c : Int} (ho : o.op = .buildSlice 25 1 #[(0, y)]) (h : ev y = .agg #[.int .i64 a, .int .i64 b, .int .i64 c]) : (execOp ev o).run Tryd.prog w = .ok (.value (.slice (some ⟨w.heap.size, 0, none⟩) 1 1)) (w.alloc (.cells #[.int .i64 a, .int .i64 b, .int .i64 c] 29)) := by
  simp [execOp, ho, h, go_sem]
theorem j_sliceF {a : Option Addr} (ho : o.op = .buildSlice 47 1 #[(0, y)]) (h : ev y = .pointer a) : (execOp ev o).run Tryd.prog w = .ok (.value (.slice (some ⟨w.heap.size, 0, none⟩) 1 1)) (w.alloc (.cells #[.pointer a] 51)) := by
  simp [execOp, ho, h, go_sem]
theorem j_loadB {p q : Nat} {a b c : Int} (ho : o.op = .load 33 x) (h : ev x = .pointer (some ⟨p, q, none⟩)) (hc : w.cell? ⟨p, q, none⟩ = some (.int .i64 a) ∧ w.cell? ⟨p, q + 1, none⟩ = some (.int .i64 b) ∧ w.cell? ⟨p, q + 2, none⟩ = some (.int .i64 c)) : (execOp ev o).run Tryd.prog w = .ok (.value (bktV a b c)) w := by
  obtain ⟨c0, c1, c2⟩ := hc
  simp [execOp, ho, h, c0, c1, c2, bktV, go_sem]
theorem j_loadF {ad : Addr} {a : Option Addr} {n c : Nat} (ho : o.op = .load 47 x) (h : ev x = .pointer (some ad)) (hc : w.cell? ad = some (.slice a n c)) : (execOp ev o).run Tryd.prog w = .ok (.value (.slice a n c)) w := by
  simp [execOp, ho, h, hc, go_sem]
theorem j_app {v v2 v' : Value} {w' : World} {t : TypeId} (ho : o.op = .call { callee := .builtin .append, args := #[x, y], argTypes := #[t, t] }) (h : ev x = v) (k : ev y = v2) (hr : (Builtin.append_ #[t, t] o.type #[v, v2]).run Tryd.prog w = .ok v' w') : (execOp ev o).run Tryd.prog w = .ok (.value v') w' := by
  simp [execOp, ho, resolve, invoke, builtin, h, k, hr, Result.andThen]
theorem j_callNF {v : Value} (ho : o.op = .call { callee := .value (.func 8), args := #[x], argTypes := #[33] }) (hf : ev (.func 8) = .func (.func 8) #[] #[]) (h : ev x = v) : (execOp ev o).run Tryd.prog w = .ok (.enter 8 #[v]) w := by
  simp [execOp, ho, hf, h, resolve, invoke, go_sem]
theorem j_callC {v : Value} (ho : o.op = .call { callee := .value (.func 13), args := #[x], argTypes := #[40] }) (hf : ev (.func 13) = .func (.func 13) #[] #[]) (h : ev x = v) : (execOp ev o).run Tryd.prog w = .ok (.enter 13 #[v]) w := by
  simp [execOp, ho, hf, h, resolve, invoke, go_sem]
theorem j_arr {p q : Nat} (ho : o.op = .slice 48 x none none none) (h : ev x = .pointer (some ⟨p, q, none⟩)) : (execOp ev o).run Tryd.prog w = .ok (.value (.slice (some ⟨p, q, none⟩) 8 8)) w := by
  simp [execOp, ho, h, go_sem]
theorem r_fa_action_Action_0 {p o' : Nat} (ho : o.op = .fieldAddr 28 x 0) (h : ev x = .pointer (some ⟨p, o', none⟩)) : (execOp ev o).run Tryd.prog w = .ok (.value (.pointer (some ⟨p, o', none⟩))) w := by
  simp [execOp, ho, h, go_sem]
theorem r_fa_action_Action_1 {p o' : Nat} (ho : o.op = .fieldAddr 28 x 1) (h : ev x = .pointer (some ⟨p, o', none⟩)) : (execOp ev o).run Tryd.prog w = .ok (.value (.pointer (some ⟨p, o' + 1, none⟩))) w := by
  simp [execOp, ho, h, go_sem]
theorem r_fa_action_Action_2 {p o' : Nat} (ho : o.op = .fieldAddr 28 x 2) (h : ev x = .pointer (some ⟨p, o', none⟩)) : (execOp ev o).run Tryd.prog w = .ok (.value (.pointer (some ⟨p, o' + 2, none⟩))) w := by
  simp [execOp, ho, h, go_sem]
theorem r_fa_millraceref_Program_1 {p o' : Nat} (ho : o.op = .fieldAddr 50 x 1) (h : ev x = .pointer (some ⟨p, o', none⟩)) : (execOp ev o).run Tryd.prog w = .ok (.value (.pointer (some ⟨p, o' + 1, none⟩))) w := by
  simp [execOp, ho, h, go_sem]
theorem r_fa_millraceref_Program_2 {p o' : Nat} (ho : o.op = .fieldAddr 50 x 2) (h : ev x = .pointer (some ⟨p, o', none⟩)) : (execOp ev o).run Tryd.prog w = .ok (.value (.pointer (some ⟨p, o' + 2, none⟩))) w := by
  simp [execOp, ho, h, go_sem]
end
def Fg.rec3 (n : Nat) (a b c : Int) : Fg := ⟨fun u w => ∃ g, u = .slice (some ⟨g, 0, none⟩) 1 1 ∧ n ≤ g ∧ w.cell? ⟨g, 0, none⟩ = some (.int .i64 a) ∧ w.cell? ⟨g, 1, none⟩ = some (.int .i64 b) ∧ w.cell? ⟨g, 2, none⟩ = some (.int .i64 c), fun _ _ _ ⟨g, h0, h1, h2, h3, h4⟩ k => ⟨g, h0, h1, k.cell h2, k.cell h3, k.cell h4⟩⟩
def Fg.rowA (n : Nat) (v : Value) (k : Nat) (F : Nat → Nat → Int) : Fg := ⟨fun u w => Row 29 3 isInt w u k (flatF F k) ∧ ∀ g, u.ownBlock = some g → v.ownBlock = some g ∨ n ≤ g, fun _ _ _ ⟨h1, h2⟩ k => ⟨h1.gr k, h2⟩⟩
def Fg.fil (n : Nat) (B : Bkt) : Fg := ⟨fun u w => ∃ p, u = .pointer (some ⟨p, 0, none⟩) ∧ n ≤ p ∧ stR.at_ w p B B.full, fun _ _ _ ⟨p, h0, h1, h2⟩ k => ⟨p, h0, h1, stR.keep h2 (k.block (stR.mine h2).lt) (.of_gr k)⟩⟩
def Fg.fils (n : Nat) (B : Bkt) : Fg := ⟨fun u w => ∃ p g, u = .slice (some ⟨g, 0, none⟩) 1 1 ∧ n ≤ g ∧ w.cell? ⟨g, 0, none⟩ = some (.pointer (some ⟨p, 0, none⟩)) ∧ p < g ∧ n ≤ p ∧ stR.at_ w p B B.full, fun _ _ _ ⟨p, g, h0, h1, h2, h3, h4, h5⟩ k => ⟨p, g, h0, h1, k.cell h2, h3, h4, stR.keep h5 (k.block (stR.mine h5).lt) (.of_gr k)⟩⟩
def Fg.filr (n : Nat) (v : Value) (B : Bkt) (bp : Nat → Nat) (j : Nat) : Fg := ⟨fun u w => ∃ p, Row 51 1 isPtr w u (j + 1) (ptrL bp j ++ [.pointer (some ⟨p, 0, none⟩)]) ∧ n ≤ p ∧ stR.at_ w p B B.full ∧ ∀ g, u.ownBlock = some g → v.ownBlock = some g ∨ (n ≤ g ∧ g ≠ p), fun _ _ _ ⟨p, h0, h1, h2, h3⟩ k => ⟨p, h0.gr k, h1, stR.keep h2 (k.block (stR.mine h2).lt) (.of_gr k), h3⟩⟩
def Fg.ints (xs : List Int) : Fg := ⟨fun u w => Ints w u xs, fun _ _ _ h k => h.gr k⟩
theorem three_at {w : World} {g : Nat} {a b c : Value} (h0 : w.cell? ⟨g, 0, none⟩ = some a) (h1 : w.cell? ⟨g, 1, none⟩ = some b) (h2 : w.cell? ⟨g, 2, none⟩ = some c) : ∀ (j : Nat) (u : Value), [a, b, c][j]? = some u → w.cell? (Addr.add ⟨g, 0, none⟩ j) = some u := by
  intro j u hu
  rw [Addr.add_lit, Nat.zero_add]
  match j, hu with
  | 0, hu => injection hu with e; rw [← e]; exact h0
  | 1, hu => injection hu with e; rw [← e]; exact h1
  | 2, hu => injection hu with e; rw [← e]; exact h2
  | j + 3, hu => simp at hu
theorem three_int (a b c : Int) : ∀ u ∈ [Value.int .i64 a, .int .i64 b, .int .i64 c], u.oneCell' = true ∧ isInt u := by
  intro u hu
  simp at hu
  rcases hu with rfl | rfl | rfl
  · exact ⟨rfl, _, rfl⟩
  · exact ⟨rfl, _, rfl⟩
  · exact ⟨rfl, _, rfl⟩
/-- One packet through both. -/
theorem both_do (W : World) (pp qp n m : Nat) (la lb : Option Addr) (lc ld : Nat) (bv bv' : Value) (bp bp' : Nat → Nat) (F : Nat → Nat → Int) (Bk : Nat → Bkt) (c : Nat → Int) (bs : Nat → BSt) (x : Itm) (hn : n ≤ 50) (hA : ActsOk F n m) (hok : BsOk Bk m bs) :
    ∃ (y : Itm) (on : Bool) (ev : Value) (num : Int) (c2 : Nat → Int) (bs2 : Nat → BSt), BsOk Bk m bs2 ∧ (∀ u, ErrIs u ev num (-1)) ∧
      (∀ u, Two W u pp (.slice la n lc) bv bp qp (.slice lb n ld) bv' bp' n m F Bk c bs c bs → Calls Tryd.prog 9 #[.pointer (some ⟨pp, 0, none⟩), .agg #[.int .i64 x.t, .int .i64 x.len, .int .i64 x.flow, .int .i64 x.band, .int .i64 x.mark]] u fun e w' =>
        e = .returned (.tuple #[.agg #[.int .i64 y.t, .int .i64 y.len, .int .i64 y.flow, .int .i64 y.band, .int .i64 y.mark], .bool on, ev]) ∧ Two W w' pp (.slice la n lc) bv bp qp (.slice lb n ld) bv' bp' n m F Bk c2 bs2 c bs) ∧
      (∀ u, Two W u pp (.slice la n lc) bv bp qp (.slice lb n ld) bv' bp' n m F Bk c2 bs2 c bs → Calls Tryd.prog 10 #[.pointer (some ⟨qp, 0, none⟩), .agg #[.int .i64 x.t, .int .i64 x.len, .int .i64 x.flow, .int .i64 x.band, .int .i64 x.mark]] u fun e w' =>
        e = .returned (.tuple #[.agg #[.int .i64 y.t, .int .i64 y.len, .int .i64 y.flow, .int .i64 y.band, .int .i64 y.mark], .bool on, .int .i64 num]) ∧ Two W w' pp (.slice la n lc) bv bp qp (.slice lb n ld) bv' bp' n m F Bk c2 bs2 c2 bs2 ∧ Sav (PFoot qp m bp') u w') := by
  by_cases hx : x.ok
  · refine ⟨(arun F n Bk 100 ⟨x, 0, c, bs⟩).1.x, decide ((arun F n Bk 100 ⟨x, 0, c, bs⟩).2 = 0), tellP (arun F n Bk 100 ⟨x, 0, c, bs⟩).2, if (arun F n Bk 100 ⟨x, 0, c, bs⟩).2 = 2 then 11 else 0, (arun F n Bk 100 ⟨x, 0, c, bs⟩).1.c, (arun F n Bk 100 ⟨x, 0, c, bs⟩).1.bs, BsOk.run hok, fun u => tellP_is u _, fun u h => ?_, fun u h => ?_⟩
    · exact (do_run pp la lc bv n m F Bk bp x c bs u hx hn hA hok h.p h.lp).mono fun e w' ⟨h1, h2, h3⟩ => ⟨h1, h.doP h2 h3⟩
    · exact (rdo_run qp lb ld bv' n m F Bk bp' x c bs u hx hn hA hok h.q h.lq).mono fun e w' ⟨h1, h2, h3⟩ => ⟨h1, h.doQ h2 h3, h3.sav⟩
  · refine ⟨.zero, false, .iface 36 (.int .i64 2), 2, c, bs, hok, fun u => .no _ _, fun u h => ?_, fun u h => ?_⟩
    · exact (do_bad pp x u hx).mono fun e w' ⟨h1, h2⟩ => ⟨h1, h.gr' h2⟩
    · exact (rdo_bad qp x u hx).mono fun e w' ⟨h1, h2⟩ => ⟨h1, h.gr' h2, .of_gr h2⟩
set_option maxRecDepth 100000 in
set_option maxHeartbeats 40000000 in
theorem actionDoes_walk (w : World) (hg : Glob w) (hf : FineIs w) {lv bv pv : Value} {n m : Nat} {F G : Nat → Nat → Int} {its : List Itm} (hx : Recs 3 w lv n F) (hbx : ∀ i, i < n → ∀ j, j < 3 → Bd (F i j)) (hy : Recs 3 w bv m G) (hby : ∀ i, i < m → ∀ j, j < 3 → Bd (G i j)) (hp : Items w pv its) {P : Prop} (_ : P) :
    Calls Tryd.prog 3 #[lv, bv, pv] w fun e w' => e = .returned (.bool true) ∧ Gr w w' := by
  obtain ⟨la, lc, rfl⟩ := hx.shape
  obtain ⟨ba, bc, rfl⟩ := hy.shape
  obtain ⟨pa, pc, rfl⟩ := items_shape hp
  by_cases c0 : 80 < n
  · have h1 : (80 : Int) < (n : Int) := by omega
    clear hg hf hx hbx hy hby hp
    go_enter Tryd.func3, Tryd.ntmps3
    go_wp2
    go_ret
    exact ⟨rfl, Gr.refl _⟩
  have h1 : ¬ (80 : Int) < (n : Int) := by omega
  by_cases c1 : 20 < m
  · have h2 : (20 : Int) < (m : Int) := by omega
    clear hg hf hx hbx hy hby hp
    go_enter Tryd.func3, Tryd.ntmps3
    go_wp2
    go_ret
    exact ⟨rfl, Gr.refl _⟩
  have h2 : ¬ (20 : Int) < (m : Int) := by omega
  by_cases c2 : 40 < its.length
  · have h3 : (40 : Int) < (its.length : Int) := by omega
    clear hg hf hx hbx hy hby hp
    go_enter Tryd.func3, Tryd.ntmps3
    go_wp2
    go_ret
    exact ⟨rfl, Gr.refl _⟩
  have h3 : ¬ (40 : Int) < (its.length : Int) := by omega
  have HX := Lib.hid hx
  have HBX := Lib.hid hbx
  have HXL : Hid (0 < n → ∀ q, (Value.slice la n lc).ownBlock = some q → q < w.heap.size) := Lib.hid (fun h0 q hq => by
    obtain ⟨b, off, cap', e, _, _, h4⟩ := hx.cells h0
    injection e with e1
    subst e1
    injection hq with e2
    subst e2
    exact cell_lt (h4 0 h0 0 (by omega)))
  have HY := Lib.hid hy
  have HBY := Lib.hid hby
  have HP := Lib.hid hp
  have HGL := Lib.hid hg
  have HF := Lib.hid hf
  have HC0 := Lib.hid c0
  have HC1 := Lib.hid c1
  have HC2 := Lib.hid c2
  clear hg hf hx hbx hy hby hp c0 c1 c2
  obtain ⟨i0, hi0, hz0, hz1, hz2⟩ := info_parts info_raE
  obtain ⟨s0, hs0, hy0, hy1, hy2⟩ := info_parts info_rbE
  obtain ⟨t0, ht0, hu0, hu1, hu2⟩ := info_parts info_fiE
  go_enter Tryd.func3, Tryd.ntmps3
  go_wp2
  go_loopw [7, 9] (fun v s wr => ∃ (k : Nat) (va : Option Addr) (vc : Nat), k ≤ n ∧ v = .slice va k vc ∧ s = .int .i64 (k : Int) ∧ Hid (Gr w wr) ∧ Hid (Row 29 3 isInt wr (.slice va k vc) k (flatF F k)) ∧ Hid (∀ g, (Value.slice va k vc).ownBlock = some g → w.heap.size ≤ g)) (fun _ s _ => n - (intOf s).toNat)
  case atStart => exact ⟨0, none, 0, by omega, rfl, rfl, Lib.hid (Gr.refl w), Lib.hid (Row.nil _ _ _ _), Lib.hid (fun g hg => by simp [Value.ownBlock] at hg)⟩
  case round =>
    obtain ⟨k, va, vc, hk, rfl, rfl, HG, HR, HO⟩ := hrel
    by_cases hlt : k < n
    · have j0 : (0 : Int) ≤ (k : Int) := by omega
      have j1 : (k : Int) < (n : Int) := by omega
      have HWJ := Lib.hid (show wrap64 ((k : Int) + 1) = (k : Int) + 1 from by have := HC0.out; unfold wrap64; omega)
      have HLT := Lib.hid hlt
      obtain ⟨lb, lo, rfl, r0, r1, r2⟩ := (HX.out.gr HG.out).read hlt
      have HBL : Hid (∀ q, (Value.slice va k vc).ownBlock = some q → q < wr.heap.size) := Lib.hid (fun q hq => Row.lt HR.out hq)
      have HLB : Hid (¬ (Value.slice va k vc).ownBlock = some lb) := Lib.hid (fun e => by have h1 := HO.out lb e; have h2 := HXL.out (by omega) lb rfl; omega)
      go_upto_region 8 with fail
      refine wp_region_k (n := 19) (fun u => Sav (fun g => (Value.slice va k vc).ownBlock = some g) wr u ∧ Row 29 3 isInt u (.slice va k vc) k (flatF F k)) [Fg.eq (.slice va k vc), Fg.eq (.slice (some ⟨lb, lo, none⟩) n lc), Fg.eq (.int .i64 (k : Int)), Fg.eq (.pointer (some ⟨lb, lo + k * 3, none⟩)), Fg.eq (.pointer (some ⟨lb, lo + k * 3, none⟩)), Fg.eq (.int .i64 (F k 0)), Fg.eq (.slice (some ⟨lb, lo, none⟩) n lc), Fg.eq (.int .i64 (k : Int)), Fg.eq (.pointer (some ⟨lb, lo + k * 3, none⟩)), Fg.eq (.pointer (some ⟨lb, lo + k * 3 + 1, none⟩)), Fg.eq (.int .i64 (F k 1)), Fg.eq (.slice (some ⟨lb, lo, none⟩) n lc), Fg.eq (.int .i64 (k : Int)), Fg.eq (.pointer (some ⟨lb, lo + k * 3, none⟩)), Fg.eq (.pointer (some ⟨lb, lo + k * 3 + 2, none⟩)), Fg.eq (.int .i64 (F k 2)), Fg.eq (.agg #[.int .i64 (F k 0), .int .i64 (F k 1), .int .i64 (F k 2)]), Fg.rec3 wr.heap.size (F k 0) (F k 1) (F k 2), Fg.rowA wr.heap.size (.slice va k vc) (k + 1) F] [42, 43, 44, 45, 46, 47, 48, 49, 50, 51, 52, 53, 54, 55, 56, 57, 58, 59, 60] (⟨.of_gr (Gr.refl wr).drew, HR.out.gr (Gr.refl wr).drew⟩) (by kernel_rfl) (by kernel_rfl) (by kernel_rfl) ?_ ?_
      · intro L i o a w1 hi ho hA
        have hI := hA.gr
        match i, hi with
        | 0, _ =>
          obtain rfl := Option.some.inj ho
          exact kstep_val hA (q_move rfl (show a.eval (.tmp 7) = .slice va k vc from hA.other 7 (by decide))) rfl
        | 1, _ =>
          obtain rfl := Option.some.inj ho
          exact kstep_val hA (q_move rfl (show a.eval (.tmp 0) = .slice (some ⟨lb, lo, none⟩) n lc from hA.other 0 (by decide))) rfl
        | 2, _ =>
          obtain rfl := Option.some.inj ho
          exact kstep_val hA (q_move rfl (show a.eval (.tmp 9) = .int .i64 (k : Int) from hA.other 9 (by decide))) rfl
        | 3, _ =>
          obtain rfl := Option.some.inj ho
          exact kstep_val hA (j_idxA rfl (hA.fact 1 (hA.dep 1 (by kernel_rfl) (by decide))) (hA.fact 2 (hA.dep 2 (by kernel_rfl) (by decide))) hlt) rfl
        | 4, _ =>
          obtain rfl := Option.some.inj ho
          exact kstep_val hA (r_fa_action_Action_0 rfl (hA.fact 3 (hA.dep 3 (by kernel_rfl) (by decide)))) rfl
        | 5, _ =>
          obtain rfl := Option.some.inj ho
          exact kstep_val hA (q_loadI rfl (hA.fact 4 (hA.dep 4 (by kernel_rfl) (by decide))) (hI.1.cell r0 HLB.out)) rfl
        | 6, _ =>
          obtain rfl := Option.some.inj ho
          exact kstep_val hA (q_move rfl (show a.eval (.tmp 0) = .slice (some ⟨lb, lo, none⟩) n lc from hA.other 0 (by decide))) rfl
        | 7, _ =>
          obtain rfl := Option.some.inj ho
          exact kstep_val hA (q_move rfl (show a.eval (.tmp 9) = .int .i64 (k : Int) from hA.other 9 (by decide))) rfl
        | 8, _ =>
          obtain rfl := Option.some.inj ho
          exact kstep_val hA (j_idxA rfl (hA.fact 6 (hA.dep 6 (by kernel_rfl) (by decide))) (hA.fact 7 (hA.dep 7 (by kernel_rfl) (by decide))) hlt) rfl
        | 9, _ =>
          obtain rfl := Option.some.inj ho
          exact kstep_val hA (r_fa_action_Action_1 rfl (hA.fact 8 (hA.dep 8 (by kernel_rfl) (by decide)))) rfl
        | 10, _ =>
          obtain rfl := Option.some.inj ho
          exact kstep_val hA (q_loadI rfl (hA.fact 9 (hA.dep 9 (by kernel_rfl) (by decide))) (hI.1.cell r1 HLB.out)) rfl
        | 11, _ =>
          obtain rfl := Option.some.inj ho
          exact kstep_val hA (q_move rfl (show a.eval (.tmp 0) = .slice (some ⟨lb, lo, none⟩) n lc from hA.other 0 (by decide))) rfl
        | 12, _ =>
          obtain rfl := Option.some.inj ho
          exact kstep_val hA (q_move rfl (show a.eval (.tmp 9) = .int .i64 (k : Int) from hA.other 9 (by decide))) rfl
        | 13, _ =>
          obtain rfl := Option.some.inj ho
          exact kstep_val hA (j_idxA rfl (hA.fact 11 (hA.dep 11 (by kernel_rfl) (by decide))) (hA.fact 12 (hA.dep 12 (by kernel_rfl) (by decide))) hlt) rfl
        | 14, _ =>
          obtain rfl := Option.some.inj ho
          exact kstep_val hA (r_fa_action_Action_2 rfl (hA.fact 13 (hA.dep 13 (by kernel_rfl) (by decide)))) rfl
        | 15, _ =>
          obtain rfl := Option.some.inj ho
          exact kstep_val hA (q_loadI rfl (hA.fact 14 (hA.dep 14 (by kernel_rfl) (by decide))) (hI.1.cell r2 HLB.out)) rfl
        | 16, _ =>
          obtain rfl := Option.some.inj ho
          exact kstep_val hA (j_buildA rfl (hA.fact 5 (hA.dep 5 (by kernel_rfl) (by decide))) (hA.fact 10 (hA.dep 10 (by kernel_rfl) (by decide))) (hA.fact 15 (hA.dep 15 (by kernel_rfl) (by decide)))) rfl
        | 17, _ =>
          obtain rfl := Option.some.inj ho
          exact kstep_gr hA (j_sliceA rfl (hA.fact 16 (hA.dep 16 (by kernel_rfl) (by decide)))) ((Gr.refl _).alloc _) ⟨hI.1.then (.of_gr ((Gr.refl _).alloc _)), hI.2.gr ((Gr.refl _).alloc _)⟩ ⟨_, rfl, hI.1.size, by simp, by simp, by simp⟩
        | 18, _ =>
          obtain rfl := Option.some.inj ho
          obtain ⟨g, hv, hge, d0, d1, d2⟩ := (hA.fact 17 (hA.dep 17 (by kernel_rfl) (by decide)))
          obtain ⟨v', w', hr, hrow, hgrow, hown, hold⟩ := Row.appendN (P := Tryd.prog) 25 25 i0 (.agg #[.int .i64 0, .int .i64 0, .int .i64 0]) 24 Tryd.underlying25 hi0 hz0 hz1 hz2 rfl (by intro u hu; simp [Value.cells] at hu; subst hu; exact ⟨_, rfl⟩) hI.2 ⟨g, 0, none⟩ 1 1 (by omega) [.int .i64 (F k 0), .int .i64 (F k 1), .int .i64 (F k 2)] rfl (three_at d0 d1 d2) (fun u hu => (three_int _ _ _ u hu).1) (fun u hu => (three_int _ _ _ u hu).2) (by have := HC0.out; omega) (by decide)
          rw [flatF_succ] at hrow
          have sv : Sav (fun g => (Value.slice va k vc).ownBlock = some g) w1 w' := .of_grown hgrow fun _ h => h
          have hbl : ∀ q, wr.heap.size ≤ q → ¬ (Value.slice va k vc).ownBlock = some q := fun q hq e => by have := HBL.out q e; omega
          refine kstep_keep hA (j_app rfl (hA.fact 0 (hA.dep 0 (by kernel_rfl) (by decide))) hv hr) ⟨hI.1.then sv, hold⟩ ⟨hrow, fun q hq => (hown q hq).imp id (Nat.le_trans hI.1.size)⟩ ?_
          intro i hi u hu
          match i, hi, hu with
          | 0, _, hu => exact hu
          | 1, _, hu => exact hu
          | 2, _, hu => exact hu
          | 3, _, hu => exact hu
          | 4, _, hu => exact hu
          | 5, _, hu => exact hu
          | 6, _, hu => exact hu
          | 7, _, hu => exact hu
          | 8, _, hu => exact hu
          | 9, _, hu => exact hu
          | 10, _, hu => exact hu
          | 11, _, hu => exact hu
          | 12, _, hu => exact hu
          | 13, _, hu => exact hu
          | 14, _, hu => exact hu
          | 15, _, hu => exact hu
          | 16, _, hu => exact hu
          | 17, _, hu => obtain ⟨g', h0, h1, h2, h3, h4⟩ := hu; exact ⟨g', h0, h1, sv.cell h2 (hbl g' h1), sv.cell h3 (hbl g' h1), sv.cell h4 (hbl g' h1)⟩
          | 18, hi, _ => exact absurd rfl hi
          | i + 19, _, hu => trivial
        | k + 19, hk => exact absurd (show k + 19 < 19 from hk) (by omega)
      · intro vs w2 hI hv
        obtain ⟨hrow, hown⟩ := hv 18 (by omega)
        have hrow' : Row 29 3 isInt w2 (vs 18) (k + 1) (flatF F (k + 1)) := hrow
        have hown' : ∀ g, (vs 18).ownBlock = some g → (Value.slice va k vc).ownBlock = some g ∨ wr.heap.size ≤ g := hown
        clear hv hrow hown
        simp only [putN, List.drop_succ_cons, List.drop_zero, List.getElem?_cons_succ, List.getElem?_cons_zero]
        generalize vs 18 = u18 at *
        obtain ⟨a5, c5, rfl⟩ := Row.shape hrow'
        have HR5 := Lib.hid hrow'
        have HG5 := Lib.hid (Sav.gr HG.out hI.1 HO.out)
        have HO5 : Hid (∀ g, (Value.slice a5 (k + 1) c5).ownBlock = some g → w.heap.size ≤ g) := Lib.hid (fun g hg => by
          rcases hown' g hg with h | h
          · exact HO.out g h
          · have := HG.out.size; omega)
        clear r0 r1 r2 hrow' hown' hI
        go_wp2
        go_roundw
        case measure => simp [intOf]; omega
        case rel => exact ⟨k + 1, a5, c5, by omega, rfl, by go_num, HG5, HR5, HO5⟩
    · obtain rfl : k = n := by omega
      have j1 : ¬ (k : Int) < (k : Int) := by omega
      go_wp2
      obtain ⟨HGV, HRV, HOV⟩ : Hid (Gr w wr) ∧ Hid (Recs 3 wr (.slice va k vc) k F) ∧ Hid ((∀ g, (Value.slice va k vc).ownBlock = some g → w.heap.size ≤ g) ∧ ∀ g, (Value.slice va k vc).ownBlock = some g → g < wr.heap.size) := ⟨HG, Lib.hid (Recs.of_row HR.out), Lib.hid ⟨HO.out, fun g hg => Row.lt HR.out hg⟩⟩
      obtain ⟨wo, hwo⟩ : ∃ u, u = wr := ⟨_, rfl⟩
      rw [← hwo] at HGV HRV HOV
      have HWO := Lib.hid hwo
      clear hwo
      clear HR HO
      go_loopw [8, 10] (fun v s wr => ∃ (mi : Nat) (xa : Option Addr) (xc : Nat), mi ≤ m ∧ v = .slice xa mi xc ∧ s = .int .i64 (mi : Int) ∧ Hid (Gr wo wr) ∧ Hid (Row 33 3 isInt wr (.slice xa mi xc) mi (flatF G mi)) ∧ Hid (∀ g, (Value.slice xa mi xc).ownBlock = some g → wo.heap.size ≤ g)) (fun _ s _ => m - (intOf s).toNat)
      case atStart => exact ⟨0, none, 0, by omega, rfl, rfl, Lib.hid (by rw [HWO.out]; exact Gr.refl _), Lib.hid (Row.nil _ _ _ _), Lib.hid (fun g hg => by simp [Value.ownBlock] at hg)⟩
      case round =>
        clear HWO HG
        obtain ⟨mi, xa, xc, hi, rfl, rfl, HG, HR, HO⟩ := hrel
        by_cases hlt : mi < m
        · have j0 : (0 : Int) ≤ (mi : Int) := by omega
          have j1 : (mi : Int) < (m : Int) := by omega
          have HWJ := Lib.hid (show wrap64 ((mi : Int) + 1) = (mi : Int) + 1 from by have := HC1.out; unfold wrap64; omega)
          have HLT := Lib.hid hlt
          have HOF : Hid (∀ u, Calls Tryd.prog 4 #[.agg #[.int .i64 (G mi 0), .int .i64 (G mi 1), .int .i64 (G mi 2)]] u fun e w' => e = .returned (.agg #[.int .i64 (G mi 0), .int .i64 (G mi 1), .int .i64 (G mi 2)]) ∧ Gr u w') := Lib.hid (fun u => of_any (G mi 0) (G mi 1) (G mi 2) u)
          obtain ⟨lb, lo, rfl, r0, r1, r2⟩ := (HY.out.gr (HGV.out.trans HG.out)).read hlt
          go_wp2_with (first
            | (go_at_call 4; refine (HOF.out _).mono ?_; rintro e w4 ⟨rfl, hg4⟩; have HG4 := Lib.hid ((HG.out.trans hg4).alloc (.cells #[.int .i64 (G mi 0), .int .i64 (G mi 1), .int .i64 (G mi 2)] 33)); have HR4 := Lib.hid (HR.out.gr (hg4.alloc (.cells #[.int .i64 (G mi 0), .int .i64 (G mi 1), .int .i64 (G mi 2)] 33))); clear hg4 r0 r1 r2)
            | (at_builtin; refine wpList_append_row rfl _ _ _ (by rfl) s0 (.agg #[.int .i64 0, .int .i64 0, .int .i64 0]) 24 Tryd.underlying26 hs0 hy0 hy1 hy2 rfl ?c1 (by rfl) HR4.out ⟨w4.heap.size, 0, none⟩ 1 (by rfl) [.int .i64 (G mi 0), .int .i64 (G mi 1), .int .i64 (G mi 2)] rfl (three_at (by simp) (by simp) (by simp)) (fun u hu => (three_int _ _ _ u hu).1) (fun u hu => (three_int _ _ _ u hu).2) (by have := HC1.out; have := HLT.out; omega) (by decide) ?_; (case c1 => (intro u hu; simp [Value.cells] at hu; subst hu; exact ⟨_, rfl⟩)); intro v5 w5 hrow hgr hown; rw [flatF_succ] at hrow; obtain ⟨a5, c5, rfl⟩ := Row.shape hrow; have HG5 := Lib.hid (gr_grown hgr HG4.out HO.out); have HR5 := Lib.hid hrow; have HO5 : Hid (∀ g, (Value.slice a5 (mi + 1) c5).ownBlock = some g → wo.heap.size ≤ g) := Lib.hid (fun g hg => by rcases hown g hg with h | h; (exact HO.out g h); (have := HG4.out.size; omega)); clear hrow hgr hown))
          go_roundw
          case measure => simp [intOf]; omega
          case rel => exact ⟨mi + 1, a5, c5, by omega, rfl, by go_num, HG5, HR5, HO5⟩
        · obtain rfl : mi = m := by omega
          have j1 : ¬ (mi : Int) < (mi : Int) := by omega
          have HR1 := Lib.hid (Recs.of_row HR.out)
          have HL1 : Hid (∀ g, (Value.slice xa mi xc).ownBlock = some g → g < wr.heap.size) := Lib.hid (fun g hg => Row.lt HR.out hg)
          have HGW := Lib.hid (HGV.out.trans HG.out)
          have HV1 := Lib.hid (HRV.out.gr HG.out)
          have HVL : Hid (∀ g, (Value.slice va k vc).ownBlock = some g → w.heap.size ≤ g ∧ g < wr.heap.size) := Lib.hid (fun g hg => ⟨HOV.out.1 g hg, by have := HOV.out.2 g hg; have := HG.out.size; omega⟩)
          clear HR HO HG HRV HOV HGV
          obtain ⟨C, hC⟩ : ∃ C, C = newC F k mi G := ⟨_, rfl⟩
          obtain ⟨Pl, hPl⟩ : ∃ Pl, Pl = newP F k mi G := ⟨_, rfl⟩
          have HCK : Hid (Calls Tryd.prog 5 #[.slice va k vc, .slice xa mi xc] wr fun e w' => e = .returned (.agg #[.int .i64 C, .int .i64 Pl]) ∧ Gr wr w') := Lib.hid (by rw [hC, hPl]; exact acheck_any va xa vc xc k mi F G wr HV1.out HR1.out (HF.out.gr HGW.out))
          have HCC := Lib.hid hC
          have HPP := Lib.hid hPl
          clear hC hPl
          go_upto_region 14 with (go_at_call 5; refine HCK.out.mono ?_; rintro e w4 ⟨rfl, hg4⟩; have HG4 := Lib.hid hg4; clear hg4)
          clear HCK
          obtain ⟨w5, hw5⟩ : ∃ u, u = w4.alloc (.cells #[.int .i64 C, .int .i64 Pl] 38) := ⟨_, rfl⟩
          obtain ⟨fb, hfb⟩ : ∃ u, u = w4.heap.size := ⟨_, rfl⟩
          have HD : Hid (w5.cell? ⟨fb, 0, none⟩ = some (.int .i64 C) ∧ w5.cell? ⟨fb, 1, none⟩ = some (.int .i64 Pl)) := Lib.hid (by rw [hw5, hfb]; exact ⟨by simp, by simp⟩)
          have HG5 : Hid (Gr wr w5) := Lib.hid (by rw [hw5]; exact HG4.out.alloc _)
          rw [← hw5, ← hfb]
          clear hw5 hfb HG4
          have HNEW := Lib.hid (new_any la ba lc bc k mi F G w5 (HX.out.gr (HGW.out.trans HG5.out)) (HY.out.gr (HGW.out.trans HG5.out)) HBY.out (fun j hj => HBX.out j hj 0 (by omega)))
          by_cases hc : C = 0
          · have HNOK : Hid (Calls Tryd.prog 6 #[.slice la k lc, .slice ba mi bc] w5 fun e w' => ActsOk F k mi ∧ (∀ j, j < mi → bkC G j = 0) ∧ ∃ pp la2 lc2 bv bp, e = .returned (.tuple #[.pointer (some ⟨pp, 0, none⟩), .nilIface]) ∧ NMid stP 70 w5 w' pp (.slice la2 k lc2) bv k mi F (bkO G) bp) := Lib.hid (HNEW.out.mono fun e w' h => by
              rcases h with h | ⟨_, h1, h2, pp, lv, bv, bp, h3, h4, a, c, rfl⟩
              · exact absurd (HCC.out.symm.trans hc) h.1
              · exact ⟨h1, h2, pp, a, c, bv, bp, h3, h4⟩)
            clear HNEW
            go_upto_region 15 with (go_at_call 6; refine HNOK.out.mono ?_; rintro e w6 ⟨hA, hB, pp, la2, lc2, pbv, bp, rfl, hN⟩; have HA := Lib.hid hA; have HB := Lib.hid hB; have HNP := Lib.hid hN; have d0 := hN.gr.cell HD.out.1; clear hA hB hN)
            subst hc
            go_upto_region 20 with fail
            clear d0
            have HN0 := Lib.hid (NMid.first (S := stR) (E := 51) (T := 50) (Bk := bkO G) (bp := fun _ => 0) (Gr.refl w6) (HV1.out.gr (HG5.out.trans HNP.out.gr)) (fun g hg => by have := (HVL.out g hg).2; have := HG5.out.size; have := HNP.out.gr.size; omega))
            obtain ⟨w7, hw7⟩ : ∃ u, u = w6.alloc (.cells #[.slice va k vc, .slice none 0 0, .int .i64 0, .int .i64 0, .int .i64 0, .int .i64 0, .int .i64 0, .int .i64 0, .int .i64 0, .int .i64 0] 50) := ⟨_, rfl⟩
            obtain ⟨qp, hqp⟩ : ∃ u, u = w6.heap.size := ⟨_, rfl⟩
            rw [← hw7, ← hqp] at HN0
            rw [← hw7, ← hqp]
            clear hw7 hqp
            go_wp2
            go_loopw [15] (fun s wr => ∃ (j : Nat) (bv : Value) (bp2 : Nat → Nat), j ≤ mi ∧ s = .int .i64 (j : Int) ∧ Hid (NMid stR 51 w6 wr qp (.slice va k vc) bv k j F (bkO G) bp2)) (fun s _ => mi - (intOf s).toNat)
            case atStart => exact ⟨0, _, _, by omega, rfl, HN0⟩
            case round =>
              obtain ⟨j, bv, bp2, hj, rfl, HN⟩ := hrel
              clear HN0
              by_cases hlt : j < mi
              · have j0 : (0 : Int) ≤ (j : Int) := by omega
                have j1 : (j : Int) < (mi : Int) := by omega
                have HWJ := Lib.hid (show wrap64 ((j : Int) + 1) = (j : Int) + 1 from by have := HC1.out; unfold wrap64; omega)
                obtain ⟨e0, e1, e2⟩ := bkO_eq (ckB_zero (HB.out j hlt))
                obtain ⟨lb, lo, hxe, r0, r1, r2⟩ := (HR1.out.gr ((HG5.out.trans HNP.out.gr).trans HN.out.gr)).read hlt
                subst hxe
                rw [e0] at r0
                rw [e1] at r1
                rw [e2] at r2
                obtain ⟨b2, c2, rfl⟩ := Row.shape HN.out.prog.row
                have HBL : Hid (∀ q, (Value.slice b2 j c2).ownBlock = some q → q < wr.heap.size) := Lib.hid (fun q hq => Row.lt HN.out.prog.row hq)
                have HROW0 := Lib.hid HN.out.prog.row
                have HC1Q := Lib.hid (And.intro HN.out.prog.c1 (show ¬ (Value.slice b2 j c2).ownBlock = some qp from fun e => HN.out.prog.nb qp e (.inl rfl)))
                have HRD := Lib.hid (And.intro r0 (And.intro r1 (And.intro r2 (show ¬ (Value.slice b2 j c2).ownBlock = some lb from fun e => by have h1 := HN.out.nv lb e; have h2 := HL1.out lb rfl; have h3 := HG5.out.size; have h4 := HNP.out.gr.size; omega))))
                have HFZ := Lib.hid HN.out.f1
                clear r0 r1 r2 e0 e1 e2
                go_upto_region 23 with fail
                refine wp_region_k (n := 14) (fun u => Sav (fun g => (Value.slice b2 j c2).ownBlock = some g) wr u ∧ KeepC wr u ∧ Row 51 1 isPtr u (.slice b2 j c2) j (ptrL bp2 j)) [Fg.eq (.pointer (some ⟨qp, 0, none⟩)), Fg.eq (.pointer (some ⟨qp, 0, none⟩)), Fg.eq (.pointer (some ⟨qp, 0, none⟩)), Fg.eq (.pointer (some ⟨qp, 1, none⟩)), Fg.eq (.slice b2 j c2), Fg.eq (.slice (some ⟨lb, lo, none⟩) mi xc), Fg.eq (.int .i64 (j : Int)), Fg.eq (.pointer (some ⟨lb, lo + j * 3, none⟩)), Fg.eq (bktV ((bkO G j).b : Int) ((bkO G j).t : Int) ((bkO G j).r : Int)), Fg.fil wr.heap.size (bkO G j), Fg.fils wr.heap.size (bkO G j), Fg.filr wr.heap.size (.slice b2 j c2) (bkO G j) bp2 j, Fg.eq (.pointer (some ⟨qp, 0, none⟩)), Fg.eq (.pointer (some ⟨qp, 1, none⟩))] [109, 110, 111, 112, 113, 114, 115, 116, 117, 118, 119, 120, 121, 122] (⟨.of_gr (Gr.refl wr).drew, .of_gr (Gr.refl wr).drew, HROW0.out.gr (Gr.refl wr).drew⟩) (by kernel_rfl) (by kernel_rfl) (by kernel_rfl) ?_ ?_
                · intro L i o a w1 hi ho hA
                  have hI := hA.gr
                  match i, hi with
                  | 0, _ =>
                    obtain rfl := Option.some.inj ho
                    exact kstep_val hA (q_move rfl (show a.eval (.tmp 14) = .pointer (some ⟨qp, 0, none⟩) from hA.other 14 (by decide))) rfl
                  | 1, _ =>
                    obtain rfl := Option.some.inj ho
                    exact kstep_val hA (q_move rfl (show a.eval (.tmp 14) = .pointer (some ⟨qp, 0, none⟩) from hA.other 14 (by decide))) rfl
                  | 2, _ =>
                    obtain rfl := Option.some.inj ho
                    exact kstep_val hA (q_nil rfl (hA.fact 1 (hA.dep 1 (by kernel_rfl) (by decide)))) rfl
                  | 3, _ =>
                    obtain rfl := Option.some.inj ho
                    exact kstep_val hA (r_fa_millraceref_Program_1 rfl (hA.fact 2 (hA.dep 2 (by kernel_rfl) (by decide)))) rfl
                  | 4, _ =>
                    obtain rfl := Option.some.inj ho
                    exact kstep_val hA (j_loadF rfl (hA.fact 3 (hA.dep 3 (by kernel_rfl) (by decide))) (hI.1.cell HC1Q.out.1 HC1Q.out.2)) rfl
                  | 5, _ =>
                    obtain rfl := Option.some.inj ho
                    exact kstep_val hA (q_move rfl (show a.eval (.tmp 8) = .slice (some ⟨lb, lo, none⟩) mi xc from hA.other 8 (by decide))) rfl
                  | 6, _ =>
                    obtain rfl := Option.some.inj ho
                    exact kstep_val hA (q_move rfl (show a.eval (.tmp 15) = .int .i64 (j : Int) from hA.other 15 (by decide))) rfl
                  | 7, _ =>
                    obtain rfl := Option.some.inj ho
                    exact kstep_val hA (j_idxB rfl (hA.fact 5 (hA.dep 5 (by kernel_rfl) (by decide))) (hA.fact 6 (hA.dep 6 (by kernel_rfl) (by decide))) hlt) rfl
                  | 8, _ =>
                    obtain rfl := Option.some.inj ho
                    exact kstep_val hA (j_loadB rfl (hA.fact 7 (hA.dep 7 (by kernel_rfl) (by decide))) ⟨hI.1.cell HRD.out.1 HRD.out.2.2.2, hI.1.cell HRD.out.2.1 HRD.out.2.2.2, hI.1.cell HRD.out.2.2.1 HRD.out.2.2.2⟩) rfl
                  | 9, _ =>
                    obtain rfl := Option.some.inj ho
                    refine kstep_call hA (j_callNF rfl rfl (hA.fact 8 (hA.dep 8 (by kernel_rfl) (by decide)))) ((newFilled_any (bkO G j) w1).mono fun e w' ⟨p, gg, h1, h2, h3, h4⟩ => ⟨_, h1, ⟨hI.1.then (.of_gr h4), hI.2.1.trans (.of_gr h4), hI.2.2.gr h4⟩, ⟨p, rfl, Nat.le_trans hI.1.size h2, gg, h3⟩, fun i _ v hv => (fgAt _ i).mono _ _ _ hv h4⟩)
                  | 10, _ =>
                    obtain rfl := Option.some.inj ho
                    obtain ⟨p, hv, hnp, hst⟩ := (hA.fact 9 (hA.dep 9 (by kernel_rfl) (by decide)))
                    exact kstep_gr hA (j_sliceF rfl hv) ((Gr.refl _).alloc _) ⟨hI.1.then (.of_gr ((Gr.refl _).alloc _)), hI.2.1.trans (.of_gr ((Gr.refl _).alloc _)), hI.2.2.gr ((Gr.refl _).alloc _)⟩ ⟨p, _, rfl, hI.1.size, by simp, (stR.mine hst).lt, hnp, stR.keep hst (((Gr.refl w1).alloc _).block (stR.mine hst).lt) (.of_gr ((Gr.refl _).alloc _))⟩
                  | 11, _ =>
                    obtain rfl := Option.some.inj ho
                    obtain ⟨p, g, hv, hge, hc, hpg, hnp, hst⟩ := (hA.fact 10 (hA.dep 10 (by kernel_rfl) (by decide)))
                    obtain ⟨v', w', hr, hrow, hgrow, hown, hold⟩ := Row.appendN (P := Tryd.prog) 47 47 t0 (.pointer none) 8 Tryd.underlying47 ht0 hu0 hu1 hu2 rfl (by intro u hu; simp [Value.cells] at hu; subst hu; exact ⟨_, rfl⟩) hI.2.2 ⟨g, 0, none⟩ 1 1 (by omega) [.pointer (some ⟨p, 0, none⟩)] rfl (by intro i u hu; match i, hu with | 0, hu => (injection hu with e; rw [← e]; exact hc) | i + 1, hu => simp at hu) (by intro u hu; simp at hu; subst hu; rfl) (by intro u hu; simp at hu; subst hu; exact ⟨_, rfl⟩) (by have := HC1.out; omega) (by decide)
                    have hbl : ∀ q, wr.heap.size ≤ q → ¬ (Value.slice b2 j c2).ownBlock = some q := fun q hq e => by have := HBL.out q e; omega
                    have kc := KeepC.row hI.2.2 noRatPtr hgrow
                    have sv : Sav (fun g => (Value.slice b2 j c2).ownBlock = some g) w1 w' := .of_grown hgrow fun _ h => h
                    have hst' := stR.keep hst (sv.block p (stR.mine hst).lt (hbl p hnp)) kc
                    refine kstep_keep hA (j_app rfl (hA.fact 4 (hA.dep 4 (by kernel_rfl) (by decide))) hv hr) ⟨hI.1.then sv, hI.2.1.trans kc, hold⟩ ⟨p, hrow, hnp, hst', fun q hq => (hown q hq).imp id (fun h => ⟨Nat.le_trans hI.1.size h, fun e => by have := (stR.mine hst).lt; omega⟩)⟩ ?_
                    intro i hi u hu
                    match i, hi, hu with
                    | 0, _, hu => exact hu
                    | 1, _, hu => exact hu
                    | 2, _, hu => exact hu
                    | 3, _, hu => exact hu
                    | 4, _, hu => exact hu
                    | 5, _, hu => exact hu
                    | 6, _, hu => exact hu
                    | 7, _, hu => exact hu
                    | 8, _, hu => exact hu
                    | 12, _, hu => exact hu
                    | 13, _, hu => exact hu
                    | 9, _, hu => obtain ⟨p', h0, h1, h2⟩ := hu; exact ⟨p', h0, h1, stR.keep h2 (sv.block p' (stR.mine h2).lt (hbl p' h1)) kc⟩
                    | 10, _, hu => obtain ⟨p', g', h0, h1, h2, h3, h4, h5⟩ := hu; exact ⟨p', g', h0, h1, sv.cell h2 (hbl g' h1), h3, h4, stR.keep h5 (sv.block p' (stR.mine h5).lt (hbl p' h4)) kc⟩
                    | 11, hi, _ => exact absurd rfl hi
                    | i + 14, _, hu => trivial
                  | 12, _ =>
                    obtain rfl := Option.some.inj ho
                    exact kstep_val hA (q_nil rfl (hA.fact 0 (hA.dep 0 (by kernel_rfl) (by decide)))) rfl
                  | 13, _ =>
                    obtain rfl := Option.some.inj ho
                    exact kstep_val hA (r_fa_millraceref_Program_1 rfl (hA.fact 12 (hA.dep 12 (by kernel_rfl) (by decide)))) rfl
                · intro vs w2 hI hv
                  obtain ⟨p, hrow, hnp, hst, hown⟩ := hv 11 (by omega)
                  have v13 : vs 13 = .pointer (some ⟨qp, 1, none⟩) := hv 13 (by omega)
                  have d0 := hI.1.cell HC1Q.out.1 HC1Q.out.2
                  have d1 := hI.1.frozen (p := ⟨qp, 1, none⟩) (cell_lt HC1Q.out.1) HFZ.out HC1Q.out.2
                  clear hv
                  simp only [putN, List.drop_succ_cons, List.drop_zero, List.getElem?_cons_succ, List.getElem?_cons_zero]
                  generalize vs 11 = u11 at *
                  generalize vs 13 = u13 at *
                  subst v13
                  obtain ⟨a5, c5, rfl⟩ := Row.shape hrow
                  have HN5 := Lib.hid (HN.out.more2 hnp hI.1 hI.2.1 hst hrow hown)
                  clear hrow hnp hst hown hI
                  go_wp2
                  go_roundw
                  case measure => simp [intOf]; omega
                  case rel => exact ⟨j + 1, _, _, by omega, by go_num, HN5⟩
              · obtain rfl : j = mi := by omega
                have j1 : ¬ (j : Int) < (j : Int) := by omega
                go_wp2
                have HT0 := Lib.hid (Two.first HNP.out (HGW.out.trans HG5.out) HN.out (fun g hg => by have := (HVL.out g hg).2; have := HG5.out.size; omega))
                have HK50 : Hid (k ≤ 50) := Lib.hid (by
                  rcases Nat.lt_or_ge 50 k with h | h
                  · have h1 := (new_many (F := F) (G := G) (n := k) (m := j) (.inl h)).1
                    rw [← HCC.out] at h1
                    omega
                  · exact h)
                go_loopw [16] (fun s wr => ∃ (z : Nat) (c : Nat → Int) (bs : Nat → BSt), z ≤ its.length ∧ s = .int .i64 (z : Int) ∧ Hid (Two w wr pp (.slice la2 k lc2) pbv bp qp (.slice va k vc) bv bp2 k j F (bkO G) c bs c bs) ∧ Hid (BsOk (bkO G) j bs)) (fun s _ => its.length - (intOf s).toNat)
                case atStart => exact ⟨0, _, _, by omega, rfl, HT0, Lib.hid (fun mi _ => (bkO G mi).full_ok)⟩
                case round =>
                  obtain ⟨z, c, bs, hz, rfl, HT, HOK⟩ := hrel
                  clear HT0 HN HNP HV1 HR1 HVL HL1 HNOK
                  by_cases hlt : z < its.length
                  · have j0 : (0 : Int) ≤ (z : Int) := by omega
                    have j2 : (z : Int) < (its.length : Int) := by omega
                    have HWJ := Lib.hid (show wrap64 ((z : Int) + 1) = (z : Int) + 1 from by have := HC2.out; unfold wrap64; omega)
                    obtain ⟨x, hxx⟩ : ∃ x, x = its.getD z .zero := ⟨_, rfl⟩
                    obtain ⟨ib, io, ic, hpe, _, _, hcell⟩ := items_cells HP.out (by omega)
                    injection hpe with ep1 ep2 ep3
                    subst ep1
                    have HQ := Lib.hid (hcell.out z hlt)
                    rw [← hxx] at HQ
                    clear hxx hcell ep2 ep3
                    obtain ⟨x0, x1, x2, x3, x4⟩ := HQ.out.gr HT.out.gr
                    obtain ⟨y, on, ev, num, c2, bs2, hok2, herr, hdo, hrdo⟩ := both_do w pp qp k j la2 va lc2 vc pbv bv bp bp2 F (bkO G) c bs x HK50.out HA.out HOK.out
                    have HOK2 := Lib.hid hok2
                    have HER := Lib.hid herr
                    have HD1 := Lib.hid hdo
                    have HD2 := Lib.hid hrdo
                    clear hok2 herr hdo hrdo
                    go_upto_region 28 with (go_at_call 9; refine (HD1.out _ HT.out).mono ?_; rintro e w8 ⟨rfl, ht⟩; have HT4 := Lib.hid ht; clear ht x0 x1 x2 x3 x4)
                    clear HD1 HT
                    obtain ⟨w9, hw9⟩ : ∃ u, u = w8.alloc (.cells #[.int .i64 y.t, .int .i64 y.len, .int .i64 y.flow, .int .i64 y.band, .int .i64 y.mark] 54) := ⟨_, rfl⟩
                    obtain ⟨yb, hyb⟩ : ∃ u, u = w8.heap.size := ⟨_, rfl⟩
                    have HY9 : Hid (XAt w9 yb y ∧ ¬ PFoot qp j bp2 yb) := Lib.hid ⟨by rw [hw9]; exact xAt_new w8 y hyb, fun e => by have := HT4.out.lq.1 yb e; omega⟩
                    have HT9 := Lib.hid (HT4.out.gr' (show Gr w8 w9 from by rw [hw9]; exact (Gr.refl w8).alloc _))
                    rw [← hw9, ← hyb]
                    clear hw9 hyb HT4
                    obtain ⟨x0, x1, x2, x3, x4⟩ := HQ.out.gr HT9.out.gr
                    go_upto_region 29 with (go_at_call 10; refine (HD2.out _ HT9.out).mono ?_; rintro e w10 ⟨rfl, ht, hsv⟩; have HT10 := Lib.hid ht; have HY10 := Lib.hid (HY9.out.1.sav hsv HY9.out.2); clear ht hsv x0 x1 x2 x3 x4)
                    clear HD2 HT9 HY9
                    obtain ⟨w11, hw11⟩ : ∃ u, u = w10.alloc (.cells #[.int .i64 y.t, .int .i64 y.len, .int .i64 y.flow, .int .i64 y.band, .int .i64 y.mark] 54) := ⟨_, rfl⟩
                    obtain ⟨zb, hzb⟩ : ∃ u, u = w10.heap.size := ⟨_, rfl⟩
                    have hg11 : Gr w10 w11 := by rw [hw11]; exact (Gr.refl w10).alloc _
                    have HZ11 : Hid (XAt w11 zb y) := Lib.hid (by rw [hw11]; exact xAt_new w10 y hzb)
                    have HY11 := Lib.hid (HY10.out.gr hg11)
                    have HT11 := Lib.hid (HT10.out.gr' hg11)
                    rw [← hw11, ← hzb]
                    clear hw11 hzb hg11 HT10 HY10
                    go_wp2_with (go_at_call 11; refine (bare_true _ (HGL.out.gr HT11.out.gr) (HER.out _)).mono ?_; rintro e w12 ⟨rfl, hg12⟩; obtain ⟨a0, a1, a2, a3, a4⟩ := (HY11.out.gr hg12).at_; obtain ⟨b0, b1, b2, b3, b4⟩ := (HZ11.out.gr hg12).at_; simp only [Nat.zero_add] at a1 a2 a3 a4 b1 b2 b3 b4; have HT12 := Lib.hid (HT11.out.gr' hg12); clear hg12)
                    go_roundw
                    case measure => simp [intOf]; omega
                    case rel => exact ⟨z + 1, c2, bs2, by omega, by go_num, HT12, HOK2⟩
                  · have hze : z = its.length := by omega
                    subst hze
                    have j2 : ¬ ((its.length : Nat) : Int) < (its.length : Int) := by omega
                    go_upto_region 31 with fail
                    refine wp_region_gr (n := 6) [Fg.eq (.pointer (some ⟨pp, 0, none⟩)), Fg.ints (fnList c 8), Fg.eq (.pointer (some ⟨qp, 0, none⟩)), Fg.eq (.pointer (some ⟨qp, 0, none⟩)), Fg.eq (.pointer (some ⟨qp, 2, none⟩)), Fg.eq (.slice (some ⟨qp, 2, none⟩) 8 8)] [163, 164, 165, 166, 167, 168] (by kernel_rfl) (by kernel_rfl) (by kernel_rfl) ?_ ?_
                    · intro L i o a w1 hi ho hA
                      have hgr : Gr wr w1 := (Gr.refl wr).drew.trans hA.gr
                      match i, hi with
                      | 0, _ =>
                        obtain rfl := Option.some.inj ho
                        exact gstep_val (q_move rfl (show a.eval (.tmp 12) = .pointer (some ⟨pp, 0, none⟩) from hA.other 12 (by decide))) rfl
                      | 1, _ =>
                        obtain rfl := Option.some.inj ho
                        exact gstep_call (j_callC rfl rfl (hA.fact 0 (hA.dep 0 (by kernel_rfl) (by decide)))) ((counts_any (S := stP) (E := 70) w1 pp k j _ _ F (bkO G) bp c bs (HT.out.p.gr hgr)).mono fun e w' ⟨v, h1, h2, h3⟩ => ⟨v, h1, h3, h2⟩)
                      | 2, _ =>
                        obtain rfl := Option.some.inj ho
                        exact gstep_val (q_move rfl (show a.eval (.tmp 14) = .pointer (some ⟨qp, 0, none⟩) from hA.other 14 (by decide))) rfl
                      | 3, _ =>
                        obtain rfl := Option.some.inj ho
                        exact gstep_val (q_nil rfl (hA.fact 2 (hA.dep 2 (by kernel_rfl) (by decide)))) rfl
                      | 4, _ =>
                        obtain rfl := Option.some.inj ho
                        exact gstep_val (r_fa_millraceref_Program_2 rfl (hA.fact 3 (hA.dep 3 (by kernel_rfl) (by decide)))) rfl
                      | 5, _ =>
                        obtain rfl := Option.some.inj ho
                        exact gstep_val (j_arr rfl (hA.fact 4 (hA.dep 4 (by kernel_rfl) (by decide)))) rfl
                    · intro vs w2 hg2' hv
                      have hg2 := (Gr.refl wr).drew.trans hg2'
                      have h1 : Ints w2 (vs 1) (fnList c 8) := hv 1 (by omega)
                      have v5 : vs 5 = .slice (some ⟨qp, 2, none⟩) 8 8 := hv 5 (by omega)
                      have HS := Lib.hid (And.intro h1 (HT.out.q.ints.gr hg2))
                      have HG2 := Lib.hid (HT.out.gr.trans hg2)
                      clear hv hg2' hg2 h1
                      simp only [putN, List.drop_succ_cons, List.drop_zero, List.getElem?_cons_succ, List.getElem?_cons_zero]
                      generalize vs 1 = u1 at *
                      generalize vs 5 = u5 at *
                      subst v5
                      go_wp2_with (go_at_call 12; refine (sameInts_any _ HS.out.1 HS.out.2).mono ?_; rintro e w13 ⟨rfl, hg13⟩; have HG13 := Lib.hid (HG2.out.trans hg13); clear hg13)
                      go_ret
                      exact ⟨rfl, HG13.out⟩
          · have HNBAD : Hid (Calls Tryd.prog 6 #[.slice la k lc, .slice ba mi bc] w5 fun e w' => ∃ v, e = .returned (.tuple #[.pointer none, v]) ∧ ErrIs w' v C Pl ∧ Gr w5 w') := Lib.hid (HNEW.out.mono fun e w' h => by
              rcases h with ⟨_, v, h1, h2, h3⟩ | h
              · exact ⟨v, h1, by rw [HCC.out, HPP.out]; exact h2, h3⟩
              · exact absurd (HCC.out.trans h.1) hc)
            clear HNEW
            go_upto_region 15 with (go_at_call 6; refine HNBAD.out.mono ?_; rintro e w6 ⟨v, rfl, he, hg6⟩; have d0 := hg6.cell HD.out.1; have d1 := hg6.cell HD.out.2; have HE := Lib.hid he; have HG6 := Lib.hid ((HGW.out.trans HG5.out).trans hg6); clear he hg6)
            go_wp2_with (go_at_call 7; refine (at_yes _ (HGL.out.gr HG6.out) HE.out).mono ?_; rintro e w7 ⟨rfl, hg7⟩; have HG7 := Lib.hid (HG6.out.trans hg7); clear hg7)
            go_ret
            exact ⟨rfl, HG7.out⟩
end Go.Proofs.YtjghgafeoimgiaaDoor

/-
  sced.Make, walked: flows that may be, and ticks that may be. (Printed by genmk.py.)
-/
import Derived.Test.YtfdmmfjheiiiiaaDoorSmF
import Derived.Test.YtfdmmfjheiiiiaaDoorFlowC
import Derived.BigRegion
import Derived.BigQuiet
namespace Go.Proofs.YtfdmmfjheiiiiaaDoor
open Go.RowKit Go.Extern.Stop Go.Stop Go.Extern

section
variable {ev : Operand → Value} {o : Oper} {w : World} {x y : Operand}
theorem mk_build {a b : Option Addr} {n c m d : Nat} (ho : o.op = .build 35 #[(1, x), (2, y)]) (h : ev x = .slice a n c) (k : ev y = .slice b m d) : (execOp ev o).run Tryd.prog w = .ok (.value (.agg #[.slice none 0 0, .slice a n c, .slice b m d])) w := by
  simp [execOp, ho, h, k, go_sem]
theorem mk_alloc (ho : o.op = .alloc 35) : (execOp ev o).run Tryd.prog w = .ok (.value (.pointer (some ⟨w.heap.size, 0, none⟩))) (w.alloc (.cells #[.slice none 0 0, .slice none 0 0, .slice none 0 0] 35)) := by
  simp [execOp, ho, go_sem]
theorem mk_idxL {b off n c j : Nat} (ho : o.op = .indexAddr 31 x y) (h : ev x = .slice (some ⟨b, off, none⟩) n c) (k : ev y = .int .i64 (j : Int)) (hj : j < n) : (execOp ev o).run Tryd.prog w = .ok (.value (.pointer (some ⟨b, off + j, none⟩))) w := by
  have h0 : (0 : Int) ≤ (j : Int) := by omega
  have h1 : (j : Int) < (n : Int) := by omega
  simp [execOp, ho, h, k, h0, h1, go_sem]
theorem mk_idxI {b off n c j : Nat} (ho : o.op = .indexAddr 28 x y) (h : ev x = .slice (some ⟨b, off, none⟩) n c) (k : ev y = .int .i64 (j : Int)) (hj : j < n) : (execOp ev o).run Tryd.prog w = .ok (.value (.pointer (some ⟨b, off + j, none⟩))) w := by
  have h0 : (0 : Int) ≤ (j : Int) := by omega
  have h1 : (j : Int) < (n : Int) := by omega
  simp [execOp, ho, h, k, h0, h1, go_sem]
theorem mk_idxL0 {b n c j : Nat} (ho : o.op = .indexAddr 31 x y) (h : ev x = .slice (some ⟨b, 0, none⟩) n c) (k : ev y = .int .i64 (j : Int)) (hj : j < n) : (execOp ev o).run Tryd.prog w = .ok (.value (.pointer (some ⟨b, j, none⟩))) w := by
  have := mk_idxL (w := w) ho h k hj
  rwa [Nat.zero_add] at this
theorem mk_idxI0 {b n c j : Nat} (ho : o.op = .indexAddr 28 x y) (h : ev x = .slice (some ⟨b, 0, none⟩) n c) (k : ev y = .int .i64 (j : Int)) (hj : j < n) : (execOp ev o).run Tryd.prog w = .ok (.value (.pointer (some ⟨b, j, none⟩))) w := by
  have := mk_idxI (w := w) ho h k hj
  rwa [Nat.zero_add] at this
theorem mk_add {m n r : Int} (ho : o.op = .binOp .add 3 x y 3) (h : ev x = .int .i64 m) (k : ev y = .int .i64 n) (hb : IntKind.i64.wrap (m + n) = r) : (execOp ev o).run Tryd.prog w = .ok (.value (.int .i64 r)) w := by
  subst hb
  simp [execOp, ho, h, k, go_sem]
theorem mk_loadF {p : Nat} {a b : Option Addr} {n c m d : Nat} (ho : o.op = .load 46 x) (h : ev x = .pointer (some ⟨p, 0, none⟩)) (h0 : w.cell? ⟨p, 0, none⟩ = some (.slice a n c)) (h1 : w.cell? ⟨p, 1, none⟩ = some (.slice b m d)) : (execOp ev o).run Tryd.prog w = .ok (.value (.agg #[.slice a n c, .slice b m d])) w := by
  simp [execOp, ho, h, h0, h1, go_sem]
theorem mk_loadL {ad : Addr} {a : Option Addr} {n c : Nat} (ho : o.op = .load 31 x) (h : ev x = .pointer (some ad)) (hc : w.cell? ad = some (.slice a n c)) : (execOp ev o).run Tryd.prog w = .ok (.value (.slice a n c)) w := by
  simp [execOp, ho, h, hc, go_sem]
theorem mk_loadS {ad : Addr} {a : Option Addr} {n c : Nat} (ho : o.op = .load 28 x) (h : ev x = .pointer (some ad)) (hc : w.cell? ad = some (.slice a n c)) : (execOp ev o).run Tryd.prog w = .ok (.value (.slice a n c)) w := by
  simp [execOp, ho, h, hc, go_sem]
theorem mk_move {u : Value} (ho : o.op = .move x) (h : ev x = u) : (execOp ev o).run Tryd.prog w = .ok (.value u) w := by
  simp [execOp, ho, h, go_sem]
theorem mk_assign {u : Value} (ho : o.op = .assign x) (h : ev x = u) : (execOp ev o).run Tryd.prog w = .ok (.value u) w := by
  simp [execOp, ho, h, go_sem]
theorem mk_loadI {ad : Addr} {n : Int} (ho : o.op = .load 3 x) (h : ev x = .pointer (some ad)) (hc : w.cell? ad = some (.int .i64 n)) : (execOp ev o).run Tryd.prog w = .ok (.value (.int .i64 n)) w := by
  simp [execOp, ho, h, hc, go_sem]
theorem mk_slice1 {z : Int} (ho : o.op = .buildSlice 28 1 #[(0, y)]) (h : ev y = .int .i64 z) : (execOp ev o).run Tryd.prog w = .ok (.value (.slice (some ⟨w.heap.size, 0, none⟩) 1 1)) (w.alloc (.cells #[.int .i64 z] 3)) := by
  simp [execOp, ho, h, go_sem]
theorem mk_app {v v2 v' : Value} {w' : World} {t : TypeId} (ho : o.op = .call { callee := .builtin .append, args := #[x, y], argTypes := #[t, t] }) (h : ev x = v) (k : ev y = v2) (hr : (Builtin.append_ #[t, t] o.type #[v, v2]).run Tryd.prog w = .ok v' w') : (execOp ev o).run Tryd.prog w = .ok (.value v') w' := by
  simp [execOp, ho, resolve, invoke, builtin, h, k, hr, Result.andThen]
theorem mk_callD {v u : Value} (ho : o.op = .call { callee := .value (.func 16), args := #[x, y], argTypes := #[46, 3] }) (hf : ev (.func 16) = .func (.func 16) #[] #[]) (h : ev x = v) (k : ev y = u) : (execOp ev o).run Tryd.prog w = .ok (.enter 16 #[v, u]) w := by
  simp [execOp, ho, hf, h, k, resolve, invoke, go_sem]
theorem r_fa_sced_Plan_0 {p o' : Nat} (ho : o.op = .fieldAddr 35 x 0) (h : ev x = .pointer (some ⟨p, o', none⟩)) : (execOp ev o).run Tryd.prog w = .ok (.value (.pointer (some ⟨p, o', none⟩))) w := by
  simp [execOp, ho, h, go_sem]
theorem r_fa_sced_Plan_1 {p o' : Nat} (ho : o.op = .fieldAddr 35 x 1) (h : ev x = .pointer (some ⟨p, o', none⟩)) : (execOp ev o).run Tryd.prog w = .ok (.value (.pointer (some ⟨p, o' + 1, none⟩))) w := by
  simp [execOp, ho, h, go_sem]
theorem r_fa_sced_Plan_2 {p o' : Nat} (ho : o.op = .fieldAddr 35 x 2) (h : ev x = .pointer (some ⟨p, o', none⟩)) : (execOp ev o).run Tryd.prog w = .ok (.value (.pointer (some ⟨p, o' + 2, none⟩))) w := by
  simp [execOp, ho, h, go_sem]
theorem r_fa_sced_Flow_0 {p o' : Nat} (ho : o.op = .fieldAddr 46 x 0) (h : ev x = .pointer (some ⟨p, o', none⟩)) : (execOp ev o).run Tryd.prog w = .ok (.value (.pointer (some ⟨p, o', none⟩))) w := by
  simp [execOp, ho, h, go_sem]
theorem r_fa_sced_Flow_1 {p o' : Nat} (ho : o.op = .fieldAddr 46 x 1) (h : ev x = .pointer (some ⟨p, o', none⟩)) : (execOp ev o).run Tryd.prog w = .ok (.value (.pointer (some ⟨p, o' + 1, none⟩))) w := by
  simp [execOp, ho, h, go_sem]
end
theorem cstep_make {ops : Array Oper} {fs : List Fg} {C : Nat → Nat → Bool} {L : Nat → Prop} {i n : Nat} {o : Oper} {a : Act} {w : World} {Q : Exit → Act → World → Prop} {x y : Operand} {z : Value} {T t : TypeId} {bytes : Nat}
    (hinfo : (Tryd.prog.info? T).map (fun i => (i.zero, i.size, i.bytes)) = some (some z, 1, bytes)) (hz : z.cells = #[z]) (h1 : Tryd.prog.underlying t = some (.slice T)) (hop : o.op = .makeSlice t x y) (hl : a.eval x = .int .i64 (n : Int)) (hc : a.eval y = .int .i64 (n : Int)) (b2 : bytes * n ≤ 281474976710656) (b3 : n ≤ 1000000)
    (hk : ∀ w', VBlk T w' w.heap.size n z → Gr w w' → (fgAt fs i).p (.slice (some ⟨w.heap.size, 0, none⟩) n n) w') (hC : ∀ j, L j → C i j = true → Value.slice (some ⟨w.heap.size, 0, none⟩) n n ≠ valOf ops a j) : Oper.wp Tryd.prog o a w (CPost ops fs C L i o a w) Q := by
  obtain ⟨w', hr, hb, hg⟩ := q_makeV (w := w) hinfo hz h1 hop hl hc b2 b3
  exact cstep_new hr hg (hk w' hb hg) hC
theorem Flows.read {w : World} {la : Option Addr} {n lc i : Nat} {F : Nat → Flw} (h : Flows w (.slice la n lc) n F) (hi : i < n) : ∃ b off a0 q0 a1 q1, la = some ⟨b, off, none⟩ ∧ (w.cell? ⟨b, off + i * 2, none⟩ = some (.slice a0 (F i).cs.length q0) ∧ w.cell? ⟨b, off + i * 2 + 1, none⟩ = some (.slice a1 (F i).ps.length q1)) ∧ Ints w (.slice a0 (F i).cs.length q0) (F i).cs ∧ Ints w (.slice a1 (F i).ps.length q1) (F i).ps := by
  obtain ⟨a, cap, e, _, h3, h4⟩ := h
  injection e with e1 e2 e3
  subst e1
  obtain ⟨b, off, e5, h6⟩ := h4 (by omega)
  obtain ⟨k0, k1⟩ := h6 i hi
  have s0 := (h3 i hi).1
  have s1 := (h3 i hi).2
  obtain ⟨a0, q0, e0⟩ := ints_shape s0
  obtain ⟨a1, q1, e1⟩ := ints_shape s1
  rw [e0] at k0 s0
  rw [e1] at k1 s1
  exact ⟨b, off, a0, q0, a1, q1, e5, ⟨k0, k1⟩, s0, s1⟩
def Fg.plan (n0 n : Nat) : Fg := ⟨fun v w => ∃ g1 g2, v = .agg #[.slice none 0 0, .slice (some ⟨g1, 0, none⟩) n n, .slice (some ⟨g2, 0, none⟩) n n] ∧ g1 ≠ g2 ∧ (n0 ≤ g1 ∧ n0 ≤ g2) ∧ VBlk 28 w g1 n (.slice none 0 0) ∧ VBlk 28 w g2 n (.slice none 0 0), fun _ _ _ ⟨g1, g2, h0, h1, h2, h3, h4⟩ k => ⟨g1, g2, h0, h1, h2, h3.gr k, h4.gr k⟩⟩
def PlanB (w : World) (g : Nat) : Prop := Kind 35 w g ∧ (∀ j, j < 3 → w.cell? ⟨g, j, none⟩ = some (.slice none 0 0)) ∧ ∀ j, j < 3 → w.frozen? ⟨g, j, none⟩ = false
theorem PlanB.gr {w w' : World} {g : Nat} (h : PlanB w g) (k : Gr w w') : PlanB w' g := ⟨h.1.gr k, fun j hj => k.cell (h.2.1 j hj), fun j hj => by rw [k.frozen (p := ⟨g, j, none⟩) h.1.lt]; exact h.2.2 j hj⟩
theorem planB_new (w : World) : PlanB (w.alloc (.cells #[.slice none 0 0, .slice none 0 0, .slice none 0 0] 35)) w.heap.size := ⟨kind_new _ _ _, fun j hj => by
  match j, hj with
  | 0, _ => simp
  | 1, _ => simp
  | 2, _ => simp, fun j hj => by simp⟩
def Fg.pblk (n0 : Nat) : Fg := ⟨fun v w => ∃ g, v = .pointer (some ⟨g, 0, none⟩) ∧ n0 ≤ g ∧ PlanB w g, fun _ _ _ ⟨g, h0, h1, h2⟩ k => ⟨g, h0, h1, h2.gr k⟩⟩
def Fg.irow (n0 : Nat) (xs : List Int) : Fg := ⟨fun v w => IntRow w v xs ∧ ∀ g, v.ownBlock = some g → n0 ≤ g, fun _ _ _ ⟨h0, h1⟩ k => ⟨h0.gr k, h1⟩⟩
theorem PlanP.pick_no {P : PlanP} {t fi : Nat} {S : Nat → Nat} (h : ¬ S fi < P.c fi (t + 1)) : P.pick t S (fi + 1) = P.pick t S fi := by rw [PlanP.pick, if_neg (fun h2 => h h2.1)]
theorem PlanP.pick_take {P : PlanP} {t fi : Nat} {S : Nat → Nat} (h : S fi < P.c fi (t + 1)) (h2 : P.pick t S fi < 0 ∨ P.key fi (S fi) < P.key (P.pick t S fi).toNat (S (P.pick t S fi).toNat)) : P.pick t S (fi + 1) = (fi : Int) := by rw [PlanP.pick, if_pos ⟨h, h2⟩]
theorem PlanP.pick_keep {P : PlanP} {t fi : Nat} {S : Nat → Nat} (h : ¬ P.pick t S fi < 0) (h2 : ¬ P.key fi (S fi) < P.key (P.pick t S fi).toNat (S (P.pick t S fi).toNat)) : P.pick t S (fi + 1) = P.pick t S fi := by rw [PlanP.pick, if_neg (fun h3 => h3.2.elim h h2)]
def Fg.one (n0 : Nat) (z : Int) : Fg := ⟨fun u w => ∃ g, u = .slice (some ⟨g, 0, none⟩) 1 1 ∧ n0 ≤ g ∧ w.cell? ⟨g, 0, none⟩ = some (.int .i64 z), fun _ _ _ ⟨g, h0, h1, h2⟩ k => ⟨g, h0, h1, k.cell h2⟩⟩
def Fg.irowA (n0 : Nat) (v : Value) (ys : List Int) : Fg := ⟨fun u w => IntRow w u ys ∧ ∀ g, u.ownBlock = some g → v.ownBlock = some g ∨ n0 ≤ g, fun _ _ _ ⟨h0, h1⟩ k => ⟨h0.gr k, h1⟩⟩
/-- What Make tells. -/
def MkPost (w : World) (P : PlanP) (e : Ending) (w' : World) : Prop :=
  ∃ (sv : Value) (PB TB : Nat) (pv tv : Nat → Value), e = .returned (.tuple #[.agg #[sv, .slice (some ⟨PB, 0, none⟩) P.n P.n, .slice (some ⟨TB, 0, none⟩) P.n P.n], .nilIface]) ∧ IntRow w' sv (upTo P.best P.T) ∧
    (∀ i, i < P.n → w'.cell? ⟨PB, i, none⟩ = some (pv i) ∧ Ints w' (pv i) (upTo (P.D i) (P.tot i))) ∧ (∀ i, i < P.n → w'.cell? ⟨TB, i, none⟩ = some (tv i) ∧ Ints w' (tv i) (upTo ((P.run P.T).2 i) (P.tot i))) ∧ Gr w w'
set_option maxRecDepth 100000 in
set_option maxHeartbeats 40000000 in
theorem make_ok (la : Option Addr) (lc n T : Nat) (F : Nat → Flw) (w : World) (hF : Flows w (.slice la n lc) n F) (h1 : 1 ≤ n) (h8 : n ≤ 8) (hc : scCk F n = 0) (hcm : ∀ i, i < n → Comes (F i).cs) (hcv : ∀ i, i < n → ckCurve (F i).ps = 0) (hT : ∀ i, i < n → (F i).cs.length ≤ T ∧ T < (F i).ps.length) :
    Calls Tryd.prog 7 #[.slice la n lc, .int .i64 (T : Int)] w (MkPost w (planOf F n T hcm)) := by
  have hp : ∀ i, i < n → (F i).ps.length ≤ 201 := fun i hi => (ckCurve_pos (hcv i hi)).2
  have hT2 : T ≤ 200 := by have := hT 0 (by omega); have := hp 0 (by omega); omega
  have HCK : Hid (Calls Tryd.prog 15 #[.slice la n lc] (w.alloc (.cells #[.slice none 0 0, .slice none 0 0, .slice none 0 0] 35)) fun e w' => e = .returned .nilIface ∧ Gr (w.alloc (.cells #[.slice none 0 0, .slice none 0 0, .slice none 0 0] 35)) w') := Lib.hid (by
    have h := scheck_any _ (hF.gr ((Gr.refl w).alloc (.cells #[.slice none 0 0, .slice none 0 0, .slice none 0 0] 35)))
    rw [hc] at h
    exact h)
  obtain ⟨P, hP⟩ : ∃ P, P = planOf F n T hcm := ⟨_, rfl⟩
  have HPn : Hid (P.n = n ∧ P.T = T ∧ (∀ i, i < n → ∀ t, P.c i t = cumN (F i).cs t) ∧ (∀ i, i < n → P.tot i = cumN (F i).cs (F i).cs.length) ∧ ∀ i k, P.D i k = dueF (F i).cs (F i).ps T k) := Lib.hid (by rw [hP]; exact ⟨rfl, rfl, fun i hi t => planOf_c hi t, fun i hi => planOf_tot hi, fun i k => rfl⟩)
  rw [← hP]
  have HF := Lib.hid hF
  have HCM := Lib.hid hcm
  have HCV := Lib.hid hcv
  have HT := Lib.hid hT
  have HP201 := Lib.hid hp
  have H8 := Lib.hid h8
  have HT200 := Lib.hid hT2
  have t0 : (0 : Int) ≤ (T : Int) := by omega
  have t1 : (T : Int) ≤ 200 := by omega
  have n1 : (n : Int) ≤ 8 := by omega
  clear hF h1 h8 hc hcm hcv hT hp hP hT2
  go_enter Tryd.func7, Tryd.ntmps7
  go_upto_region 4 with (go_at_call 15; refine HCK.out.mono ?_; rintro e w1 ⟨rfl, hg1⟩; have HG1 := Lib.hid hg1; clear hg1)
  clear HCK
  obtain ⟨rb, hrb⟩ : ∃ u, u = w.heap.size := ⟨_, rfl⟩
  have HRB : Hid (PlanB w1 rb ∧ w.heap.size ≤ rb) := Lib.hid (by rw [hrb]; exact ⟨(planB_new w).gr HG1.out, Nat.le_refl _⟩)
  have HGW : Hid (Gr w w1) := Lib.hid (((Gr.refl w).alloc _).trans HG1.out)
  rw [← hrb]
  clear hrb HG1
  go_wp2
  go_loopw [29] (fun s wr => ∃ i : Nat, i ≤ n ∧ s = .int .i64 (i : Int) ∧ Hid (Gr w1 wr)) (fun s _ => n - (intOf s).toNat)
  case atStart => exact ⟨0, Nat.zero_le _, rfl, Gr.refl _⟩
  case round =>
    obtain ⟨i, hi, rfl, HG⟩ := hrel
    by_cases hlt : i < n
    · have j0 : (0 : Int) ≤ (i : Int) := by omega
      have j1 : (i : Int) < (n : Int) := by omega
      obtain ⟨b, off, a0, q0, a1, q1, rfl, ⟨c0, c1⟩, _, _⟩ := (HF.out.gr (HGW.out.trans HG.out)).read hlt
      obtain ⟨m0, hm0⟩ : ∃ m0, m0 = (F i).cs.length := ⟨_, rfl⟩
      obtain ⟨m1, hm1⟩ : ∃ m1, m1 = (F i).ps.length := ⟨_, rfl⟩
      have k0 : ¬ (T : Int) < (m0 : Int) := by have := (HT.out i hlt).1; omega
      have k1 : ¬ (m1 : Int) ≤ (T : Int) := by have := (HT.out i hlt).2; omega
      rw [← hm0] at c0
      rw [← hm1] at c1
      clear hm0 hm1
      go_wp2
      go_roundw
      case measure => simp [intOf]; omega
      case rel => exact ⟨i + 1, by omega, by go_num, HG.out.alloc _⟩
    · obtain rfl : n = i := by omega
      have j1 : ¬ (n : Int) < (n : Int) := by omega
      go_upto_region 10 with fail
      refine wp_region_gc (n := 8) (twoC 2 5) [Fg.eq (.slice la n lc), Fg.eq (.int .i64 (n : Int)), Fg.vb wr.heap.size 28 n (.slice none 0 0), Fg.eq (.slice la n lc), Fg.eq (.int .i64 (n : Int)), Fg.vb wr.heap.size 28 n (.slice none 0 0), Fg.plan wr.heap.size n, Fg.pblk wr.heap.size] [48, 49, 50, 51, 52, 53, 54, 9] (by kernel_rfl) (by kernel_rfl) (by kernel_rfl) (twoC_sym 2 5) (twoC_irr (by decide)) ?_ ?_
      · intro L i o a w1 hi ho hA
        have hgr : Gr wr w1 := (Gr.refl wr).drew.trans hA.gr
        match i, hi with
        | 0, _ =>
          obtain rfl := Option.some.inj ho
          exact cstep_val (twoC_no (by decide) (by decide)) (mk_move rfl (show a.eval (.tmp 0) = .slice la n lc from hA.other 0 (by decide))) rfl
        | 1, _ =>
          obtain rfl := Option.some.inj ho
          exact cstep_val (twoC_no (by decide) (by decide)) (q_len rfl ⟨_, Tryd.underlying22⟩ (hA.fact 0 (hA.dep 0 (by kernel_rfl) (by decide)))) rfl
        | 2, _ =>
          obtain rfl := Option.some.inj ho
          refine cstep_make (n := n) info_slice rfl Tryd.underlying31 rfl (hA.fact 1 (hA.dep 1 (by kernel_rfl) (by decide))) (hA.fact 1 (hA.dep 1 (by kernel_rfl) (by decide))) (by have := H8.out; omega) (by have := H8.out; omega) (fun w' hb hg => ⟨_, rfl, hgr.size, hb⟩) (fun j hj hC e => ?_)
          obtain rfl := twoC_at hC (by decide)
          obtain ⟨g', h0, h1, h2⟩ := hA.fact 5 hj
          have e2 := e.trans h0
          injection e2 with e3
          injection e3 with e4
          injection e4 with e5
          have := h2.lt
          omega
        | 3, _ =>
          obtain rfl := Option.some.inj ho
          exact cstep_val (twoC_no (by decide) (by decide)) (mk_move rfl (show a.eval (.tmp 0) = .slice la n lc from hA.other 0 (by decide))) rfl
        | 4, _ =>
          obtain rfl := Option.some.inj ho
          exact cstep_val (twoC_no (by decide) (by decide)) (q_len rfl ⟨_, Tryd.underlying22⟩ (hA.fact 3 (hA.dep 3 (by kernel_rfl) (by decide)))) rfl
        | 5, _ =>
          obtain rfl := Option.some.inj ho
          refine cstep_make (n := n) info_slice rfl Tryd.underlying31 rfl (hA.fact 4 (hA.dep 4 (by kernel_rfl) (by decide))) (hA.fact 4 (hA.dep 4 (by kernel_rfl) (by decide))) (by have := H8.out; omega) (by have := H8.out; omega) (fun w' hb hg => ⟨_, rfl, hgr.size, hb⟩) (fun j hj hC e => ?_)
          obtain rfl := twoC_at2 hC (by decide)
          obtain ⟨g', h0, h1, h2⟩ := hA.fact 2 hj
          have e2 := e.trans h0
          injection e2 with e3
          injection e3 with e4
          injection e4 with e5
          have := h2.lt
          omega
        | 6, _ =>
          obtain rfl := Option.some.inj ho
          obtain ⟨g1, a1, a2, a3⟩ := (hA.fact 2 (hA.dep 2 (by kernel_rfl) (by decide)))
          obtain ⟨g2, b1, b2, b3⟩ := (hA.fact 5 (hA.dep 5 (by kernel_rfl) (by decide)))
          have hne : g1 ≠ g2 := fun e => hA.apart 2 5 (hA.dep 2 (by kernel_rfl) (by decide)) (hA.dep 5 (by kernel_rfl) (by decide)) (by decide) (by rw [show valOf _ a 2 = _ from a1, show valOf _ a 5 = _ from b1, e])
          exact cstep_val (twoC_no (by decide) (by decide)) (mk_build rfl a1 b1) ⟨g1, g2, rfl, hne, ⟨a2, b2⟩, a3, b3⟩
        | 7, _ =>
          obtain rfl := Option.some.inj ho
          exact cstep_new (mk_alloc rfl) ((Gr.refl _).alloc _) ⟨_, rfl, hgr.size, planB_new _⟩ (fun j hj hC => by rw [twoC_no (by decide) (by decide)] at hC; cases hC)
        | k + 8, hk => exact absurd (show k + 8 < 8 from hk) (by omega)
      · intro vs w2 hg2' hv _
        have hg2 := (Gr.refl wr).drew.trans hg2'
        obtain ⟨g1, g2, e54, hne, hlo, hb1, hb2⟩ := hv 6 (by omega)
        obtain ⟨pb, e9, hp0, hpb⟩ := hv 7 (by omega)
        clear hv hg2'
        simp only [putN, List.drop_succ_cons, List.drop_zero, List.getElem?_cons_succ, List.getElem?_cons_zero]
        generalize vs 6 = z54 at *
        generalize vs 7 = z9 at *
        subst e54
        subst e9
        have HG2 := Lib.hid (HG.out.trans hg2)
        have HB1 := Lib.hid hb1
        have HB2 := Lib.hid hb2
        have HPB := Lib.hid hpb
        have HNE := Lib.hid (And.intro hne hlo)
        have HP0 := Lib.hid hp0
        have d0 := hpb.2.1 0 (by omega)
        have d1 := hpb.2.1 1 (by omega)
        have d2 := hpb.2.1 2 (by omega)
        have f0 := hpb.2.2 0 (by omega)
        have f1 := hpb.2.2 1 (by omega)
        have f2 := hpb.2.2 2 (by omega)
        clear hg2 hne hlo hb1 hb2 hp0 hpb
        go_upto_region 11 with fail
        obtain ⟨ws, hws⟩ : ∃ u, u = (((w2.setCell ⟨pb, 0, none⟩ (.slice none 0 0)).setCell ⟨pb, 1, none⟩ (.slice (some ⟨g1, 0, none⟩) n n)).setCell ⟨pb, 2, none⟩ (.slice (some ⟨g2, 0, none⟩) n n)) := ⟨_, rfl⟩
        have HWS : Hid (Sav (fun q => q = pb) w2 ws ∧ Kind 35 ws pb ∧ (ws.cell? ⟨pb, 0, none⟩ = some (.slice none 0 0) ∧ ws.cell? ⟨pb, 1, none⟩ = some (.slice (some ⟨g1, 0, none⟩) n n) ∧ ws.cell? ⟨pb, 2, none⟩ = some (.slice (some ⟨g2, 0, none⟩) n n)) ∧ ws.frozen? ⟨pb, 0, none⟩ = false) := Lib.hid (by
          rw [hws]
          refine ⟨((Sav.set pb 0 _).then (.set pb 1 _)).then (.set pb 2 _), ((HPB.out.1.set _ _ _).set _ _ _).set _ _ _, ⟨?_, ?_, ?_⟩, by simpa using f0⟩
          · rw [World.cell?_setCell_other _ _ _ _ (by simp), World.cell?_setCell_other _ _ _ _ (by simp)]
            exact World.cell?_setCell_same _ _ _ d0
          · rw [World.cell?_setCell_other _ _ _ _ (by simp)]
            exact World.cell?_setCell_same _ _ _ (by rw [World.cell?_setCell_other _ _ _ _ (by simp)]; exact d1)
          · exact World.cell?_setCell_same _ _ _ (by rw [World.cell?_setCell_other _ _ _ _ (by simp), World.cell?_setCell_other _ _ _ _ (by simp)]; exact d2))
        rw [← hws]
        clear hws d0 d1 d2 f0 f1 f2
        refine wp_region_gc (n := 7) (triC 5 2 6) [Fg.eq (.slice la n lc), Fg.eq (.int .i64 (n : Int)), Fg.vb ws.heap.size 3 n (.int .i64 0), Fg.eq (.slice la n lc), Fg.eq (.int .i64 (n : Int)), Fg.vb ws.heap.size 3 n (.int .i64 0), Fg.vb ws.heap.size 3 n (.int .i64 0)] [55, 56, 57, 58, 59, 60, 10] (by kernel_rfl) (by kernel_rfl) (by kernel_rfl) (triC_sym 5 2 6) (triC_irr (by decide) (by decide)) ?_ ?_
        · intro L i o a w1 hi ho hA
          have hgr : Gr ws w1 := (Gr.refl ws).drew.trans hA.gr
          match i, hi with
          | 0, _ =>
            obtain rfl := Option.some.inj ho
            exact cstep_val (triC_no (by decide) (by decide) (by decide)) (mk_move rfl (show a.eval (.tmp 0) = .slice la n lc from hA.other 0 (by decide))) rfl
          | 1, _ =>
            obtain rfl := Option.some.inj ho
            exact cstep_val (triC_no (by decide) (by decide) (by decide)) (q_len rfl ⟨_, Tryd.underlying22⟩ (hA.fact 0 (hA.dep 0 (by kernel_rfl) (by decide)))) rfl
          | 2, _ =>
            obtain rfl := Option.some.inj ho
            refine cstep_make (n := n) info_intE rfl Tryd.underlying28 rfl (hA.fact 1 (hA.dep 1 (by kernel_rfl) (by decide))) (hA.fact 1 (hA.dep 1 (by kernel_rfl) (by decide))) (by have := H8.out; omega) (by have := H8.out; omega) (fun w' hb hg => ⟨_, rfl, hgr.size, hb⟩) (fun j hj hC e => ?_)
            have hjj := triC_iff.1 hC
            obtain rfl : j = 5 := by omega
            obtain ⟨g', h0, _, h2⟩ := hA.fact 5 hj
            have e2 := e.trans h0
            injection e2 with e3
            injection e3 with e4
            injection e4 with e5
            have := h2.lt
            omega
          | 3, _ =>
            obtain rfl := Option.some.inj ho
            exact cstep_val (triC_no (by decide) (by decide) (by decide)) (mk_move rfl (show a.eval (.tmp 0) = .slice la n lc from hA.other 0 (by decide))) rfl
          | 4, _ =>
            obtain rfl := Option.some.inj ho
            exact cstep_val (triC_no (by decide) (by decide) (by decide)) (q_len rfl ⟨_, Tryd.underlying22⟩ (hA.fact 3 (hA.dep 3 (by kernel_rfl) (by decide)))) rfl
          | 5, _ =>
            obtain rfl := Option.some.inj ho
            refine cstep_make (n := n) info_intE rfl Tryd.underlying28 rfl (hA.fact 4 (hA.dep 4 (by kernel_rfl) (by decide))) (hA.fact 4 (hA.dep 4 (by kernel_rfl) (by decide))) (by have := H8.out; omega) (by have := H8.out; omega) (fun w' hb hg => ⟨_, rfl, hgr.size, hb⟩) (fun j hj hC e => ?_)
            have hjj := triC_iff.1 hC
            rcases (show j = 2 ∨ j = 6 by omega) with rfl | rfl
            · obtain ⟨g', h0, _, h2⟩ := hA.fact 2 hj
              have e2 := e.trans h0
              injection e2 with e3
              injection e3 with e4
              injection e4 with e5
              have := h2.lt
              omega
            · obtain ⟨g', h0, _, h2⟩ := hA.fact 6 hj
              have e2 := e.trans h0
              injection e2 with e3
              injection e3 with e4
              injection e4 with e5
              have := h2.lt
              omega
          | 6, _ =>
            obtain rfl := Option.some.inj ho
            obtain ⟨g1', a1, a2, a3⟩ := (hA.fact 2 (hA.dep 2 (by kernel_rfl) (by decide)))
            exact cstep_new (mk_assign rfl a1) (Gr.refl _) ⟨g1', rfl, a2, a3⟩ (fun j hj hC e => by
              obtain rfl : j = 5 := by have := triC_iff.1 hC; omega
              exact hA.apart 2 5 (hA.dep 2 (by kernel_rfl) (by decide)) hj (by decide) (a1.trans e))
          | k + 7, hk => exact absurd (show k + 7 < 7 from hk) (by omega)
        · intro vs w3 hg3 hv hap
          have hg2 := (Gr.refl ws).drew.trans hg3
          obtain ⟨g3, e57, hg3', hb3⟩ := hv 6 (by omega)
          obtain ⟨g4, e60, hg4', hb4⟩ := hv 5 (by omega)
          have hne2 : g3 ≠ g4 := fun e => hap 6 5 (by omega) (by omega) (by decide) (by rw [e57, e60, e])
          clear hv hap hg3
          simp only [putN, List.drop_succ_cons, List.drop_zero, List.getElem?_cons_succ, List.getElem?_cons_zero]
          generalize vs 6 = z57 at *
          generalize vs 5 = z60 at *
          subst e57
          subst e60
          have s1 : w2.heap.size ≤ ws.heap.size := HWS.out.1.size
          have hB1 : VBlk 28 ws g1 n (.slice none 0 0) := by
            obtain ⟨cur, h1, h2⟩ := HB1.out
            exact ⟨cur, (HWS.out.1.block g1 HB1.out.lt (HB1.out.kind.ne HPB.out.1 (by decide))).trans h1, h2⟩
          have hB2 : VBlk 28 ws g2 n (.slice none 0 0) := by
            obtain ⟨cur, h1, h2⟩ := HB2.out
            exact ⟨cur, (HWS.out.1.block g2 HB2.out.lt (HB2.out.kind.ne HPB.out.1 (by decide))).trans h1, h2⟩
          have hB1' := hB1.gr hg2
          have hB2' := hB2.gr hg2
          have hK := HWS.out.2.1.gr hg2
          have hGS : Gr w1 ws := Sav.gr HG2.out HWS.out.1 (fun q e => by have := HP0.out; have := HG.out.size; omega)
          have HPRE : Hid (MkPre w1 w3 ⟨pb, g1, g2, g3, g4⟩ w3.heap.size n 0 (fun _ => .slice none 0 0) (fun i => upTo (P.D i) (P.tot i))) := Lib.hid (by
            have z2 := HG.out.size
            have z3 := hGS.size
            have z4 := HNE.out.2
            have z5 := HP0.out
            refine ⟨hg2.cell HWS.out.2.2.1.1, hg2.cell HWS.out.2.2.1.2.1, hg2.cell HWS.out.2.2.1.2.2, by rw [hg2.frozen (p := ⟨pb, 0, none⟩) HWS.out.2.1.lt]; exact HWS.out.2.2.2, fun j hj => by rw [if_neg (by omega)]; exact hB1'.cell hj, fun j _ => hB1'.free j, fun j hj => absurd hj (by omega), fun j g hj => absurd hj (by omega), fun j hj => hB2'.cell hj, fun j _ => hB2'.free j, hb3.blk, hb4.blk,
              ⟨hK.ne hB1'.kind (by decide), hK.ne hB2'.kind (by decide), hK.ne hb3.kind (by decide), hK.ne hb4.kind (by decide), HNE.out.1, hB1'.kind.ne hb3.kind (by decide), hB1'.kind.ne hb4.kind (by decide), hB2'.kind.ne hb3.kind (by decide), hB2'.kind.ne hb4.kind (by decide), hne2⟩,
              ⟨⟨by show _ ≤ pb; omega, hK.lt⟩, ⟨by show _ ≤ g1; omega, hB1'.lt⟩, ⟨by show _ ≤ g2; omega, hB2'.lt⟩, ⟨by show _ ≤ g3; omega, hb3.lt⟩, by show _ ≤ g4; omega, hb4.lt⟩, Nat.le_refl _, hGS.trans hg2⟩)
          obtain ⟨M, hM⟩ : ∃ M, M = w3.heap.size := ⟨_, rfl⟩
          rw [← hM] at HPRE
          clear hg2 hg3' hb3 hg4' hb4 hne2 s1 hB1 hB2 hB1' hB2' hK hGS hM HWS HB1 HB2 HPB HNE HP0 HG2
          go_wp2
          go_loopw [63] (fun s wr => ∃ (fi : Nat) (pv : Nat → Value), fi ≤ n ∧ s = .int .i64 (fi : Int) ∧ Hid (MkPre w1 wr ⟨pb, g1, g2, g3, g4⟩ M n fi pv (fun i => upTo (P.D i) (P.tot i)))) (fun s _ => n - (intOf s).toNat)
          case atStart => exact ⟨0, _, Nat.zero_le _, rfl, HPRE⟩
          case round =>
            obtain ⟨fi, pv, hi, rfl, HPR⟩ := hrel
            clear HPRE
            by_cases hlt : fi < n
            · have j0 : (0 : Int) ≤ (fi : Int) := by omega
              have j2 : (fi : Int) < (n : Int) := by omega
              obtain ⟨b0, off0, a0, q0, a1, q1, rfl, ⟨c0, c1⟩, hx0, hx1⟩ := (HF.out.gr (HGW.out.trans HPR.out.gr)).read hlt
              have HDUE : Hid (∀ u, Gr wr u → Calls Tryd.prog 16 #[.agg #[.slice a0 (F fi).cs.length q0, .slice a1 (F fi).ps.length q1], .int .i64 (T : Int)] u fun e w' => ∃ v, e = .returned v ∧ (IntRow w' v (upTo (P.D fi) (P.tot fi)) ∧ ∀ g, v.ownBlock = some g → u.heap.size ≤ g) ∧ Gr u w') := Lib.hid (fun u hu => (due_any a0 a1 q0 q1 _ _ T u (hx0.gr hu) (hx1.gr hu) (HCV.out fi hlt) (HT.out fi hlt).1 (HT.out fi hlt).2 (HCM.out fi hlt)).mono fun e w' ⟨v, h1, h2, h3, h4⟩ => by
                rw [← HPn.out.2.2.2.1 fi hlt, ← show P.D fi = dueF (F fi).cs (F fi).ps T from funext (HPn.out.2.2.2.2 fi)] at h2
                exact ⟨v, h1, ⟨h2, h3⟩, h4⟩)
              obtain ⟨m0, hm0⟩ : ∃ m0, m0 = (F fi).cs.length := ⟨_, rfl⟩
              obtain ⟨m1, hm1⟩ : ∃ m1, m1 = (F fi).ps.length := ⟨_, rfl⟩
              rw [← hm0] at c0 HDUE
              rw [← hm1] at c1 HDUE
              clear hm0 hm1 hx0 hx1
              go_upto_region 15 with fail
              obtain ⟨wa, hwa⟩ : ∃ u, u = wr.alloc (.cells #[.slice a0 m0 q0, .slice a1 m1 q1] 46) := ⟨_, rfl⟩
              obtain ⟨ab, hab⟩ : ∃ u, u = wr.heap.size := ⟨_, rfl⟩
              have HD : Hid (wa.cell? ⟨ab, 0, none⟩ = some (.slice a0 m0 q0) ∧ wa.cell? ⟨ab, 1, none⟩ = some (.slice a1 m1 q1)) := Lib.hid (by rw [hwa, hab]; exact ⟨by simp, by simp⟩)
              have HGA : Hid (Gr wr wa) := Lib.hid (by rw [hwa]; exact (Gr.refl wr).alloc _)
              have QP1 := Lib.hid (HGA.out.cell HPR.out.p1)
              rw [← hwa, ← hab]
              clear hwa hab c0 c1
              refine wp_region_gr (n := 7) [Fg.eq (.pointer (some ⟨pb, 1, none⟩)), Fg.eq (.slice (some ⟨g1, 0, none⟩) n n), Fg.eq (.int .i64 (fi : Int)), Fg.eq (.agg #[.slice a0 m0 q0, .slice a1 m1 q1]), Fg.eq (.int .i64 (T : Int)), Fg.irow wa.heap.size (upTo (P.D fi) (P.tot fi)), Fg.eq (.pointer (some ⟨g1, fi, none⟩))] [68, 69, 70, 71, 72, 73, 74] (by kernel_rfl) (by kernel_rfl) (by kernel_rfl) ?_ ?_
              · intro L i o a w1 hi ho hA
                have hgr : Gr wa w1 := (Gr.refl wa).drew.trans hA.gr
                match i, hi with
                | 0, _ =>
                  obtain rfl := Option.some.inj ho
                  exact gstep_val (r_fa_sced_Plan_1 rfl (show a.eval (.tmp 9) = .pointer (some ⟨pb, 0, none⟩) from hA.other 9 (by decide))) rfl
                | 1, _ =>
                  obtain rfl := Option.some.inj ho
                  exact gstep_val (mk_loadL rfl (hA.fact 0 (hA.dep 0 (by kernel_rfl) (by decide))) (hgr.cell QP1.out)) rfl
                | 2, _ =>
                  obtain rfl := Option.some.inj ho
                  exact gstep_val (mk_move rfl (show a.eval (.tmp 12) = .int .i64 (fi : Int) from hA.other 12 (by decide))) rfl
                | 3, _ =>
                  obtain rfl := Option.some.inj ho
                  exact gstep_val (mk_loadF rfl (show a.eval (.tmp 13) = .pointer (some ⟨ab, 0, none⟩) from hA.other 13 (by decide)) (hgr.cell HD.out.1) (hgr.cell HD.out.2)) rfl
                | 4, _ =>
                  obtain rfl := Option.some.inj ho
                  exact gstep_val (mk_move rfl (show a.eval (.tmp 1) = .int .i64 (T : Int) from hA.other 1 (by decide))) rfl
                | 5, _ =>
                  obtain rfl := Option.some.inj ho
                  exact gstep_call (mk_callD rfl rfl (hA.fact 3 (hA.dep 3 (by kernel_rfl) (by decide))) (hA.fact 4 (hA.dep 4 (by kernel_rfl) (by decide)))) ((HDUE.out w1 (HGA.out.trans hgr)).mono fun e w' ⟨v, h1, h2, h3⟩ => ⟨v, h1, h3, h2.1, fun g hg => Nat.le_trans hgr.size (h2.2 g hg)⟩)
                | 6, _ =>
                  obtain rfl := Option.some.inj ho
                  exact gstep_val (mk_idxL0 rfl (hA.fact 1 (hA.dep 1 (by kernel_rfl) (by decide))) (hA.fact 2 (hA.dep 2 (by kernel_rfl) (by decide))) hlt) rfl
              · intro vs w5 hg5' hv
                have hg5 := HGA.out.trans ((Gr.refl wa).drew.trans hg5')
                obtain ⟨hrow, hown⟩ := hv 5 (by omega)
                have hrow' : IntRow w5 (vs 5) (upTo (P.D fi) (P.tot fi)) := hrow
                have hown' : ∀ g, (vs 5).ownBlock = some g → wa.heap.size ≤ g := hown
                have v6 : vs 6 = .pointer (some ⟨g1, fi, none⟩) := hv 6 (by omega)
                clear hv hrow hown hg5'
                simp only [putN, List.drop_succ_cons, List.drop_zero, List.getElem?_cons_succ, List.getElem?_cons_zero]
                generalize vs 5 = z5 at *
                generalize vs 6 = z6 at *
                subst v6
                obtain ⟨a5, c5, rfl⟩ := IntRow.shape hrow'
                have d0 := hg5.cell (HPR.out.pc fi hlt)
                rw [if_neg (Nat.lt_irrefl _)] at d0
                have d1 : w5.frozen? ⟨g1, fi, none⟩ = false := by rw [hg5.frozen (p := ⟨g1, fi, none⟩) (cell_lt (HPR.out.pc fi hlt))]; exact HPR.out.pf fi hlt
                have HPR5 := Lib.hid (HPR.out.put hg5 hrow'.ints (fun g hg => ⟨by have := hown' g hg; have := HGA.out.size; omega, Row.lt hrow' hg⟩))
                rw [upTo_len] at *
                clear hrow' hown' hg5
                go_wp2
                go_roundw
                case measure => simp [intOf]; omega
                case rel => exact ⟨fi + 1, _, by omega, by go_num, HPR5⟩
            · obtain rfl : n = fi := by omega
              have j2 : ¬ (n : Int) < (n : Int) := by omega
              obtain ⟨N, hN⟩ : ∃ N, N = wr.heap.size := ⟨_, rfl⟩
              have HS0 := Lib.hid HPR.out.done
              rw [← hN] at HS0
              clear hN HPR
              go_wp2
              go_loopw [77] (fun s wr => ∃ (t : Nat) (sv : Value) (tv : Nat → Value), t ≤ T ∧ s = .int .i64 (t : Int) ∧ Hid (MkS w1 wr ⟨pb, g1, g2, g3, g4⟩ M N n pv (fun i => upTo (P.D i) (P.tot i)) sv (upTo P.best t) tv (fun i => upTo ((P.run t).2 i) ((P.run t).1 i)) (fun i => (cumN (F i).cs t : Int)) (fun i => ((P.run t).1 i : Int)))) (fun s _ => T - (intOf s).toNat)
              case atStart => exact ⟨0, _, _, Nat.zero_le _, rfl, HS0⟩
              case round =>
                obtain ⟨t, sv, tv, ht, rfl, HM⟩ := hrel
                clear HS0
                by_cases htl : t < T
                · have k0 : (0 : Int) ≤ (t : Int) := by omega
                  have k1 : (t : Int) < (T : Int) := by omega
                  have HTL := Lib.hid htl
                  have HSI := Lib.hid (P.run_inv t)
                  have HBE := Lib.hid (show P.pick t (P.run t).1 P.n = P.best t from rfl)
                  obtain ⟨S, hS⟩ : ∃ S, S = (P.run t).1 := ⟨_, rfl⟩
                  have HSS := Lib.hid hS
                  rw [← hS] at HM HSI HBE
                  clear hS
                  have hc0 : MkS w1 wr ⟨pb, g1, g2, g3, g4⟩ M N n pv (fun i => upTo (P.D i) (P.tot i)) sv (upTo P.best t) tv (fun i => upTo ((P.run t).2 i) (S i)) (fun i => if i < 0 then (cumN (F i).cs (t + 1) : Int) else (cumN (F i).cs t : Int)) (fun i => (S i : Int)) := HM.out.cong rfl (fun _ _ => rfl) (fun i _ => by rw [if_neg (by omega)]) (fun _ _ => rfl)
                  have HM0 := Lib.hid hc0
                  clear hc0 HM
                  go_wp2
                  go_loopw [15, 16, 82] (fun bs sn s wr => ∃ (fi : Nat) (bst so : Int), fi ≤ n ∧ s = .int .i64 (fi : Int) ∧ bs = .int .i64 bst ∧ sn = .int .i64 so ∧ Hid (bst = P.pick t S fi ∧ (bst < 0 ∨ so = P.key bst.toNat (S bst.toNat))) ∧ Hid (MkS w1 wr ⟨pb, g1, g2, g3, g4⟩ M N n pv (fun i => upTo (P.D i) (P.tot i)) sv (upTo P.best t) tv (fun i => upTo ((P.run t).2 i) (S i)) (fun i => if i < fi then (cumN (F i).cs (t + 1) : Int) else (cumN (F i).cs t : Int)) (fun i => (S i : Int)))) (fun _ _ s _ => n - (intOf s).toNat)
                  case atStart => exact ⟨0, -1, 0, Nat.zero_le _, rfl, rfl, rfl, Lib.hid ⟨rfl, .inl (by decide)⟩, HM0⟩
                  case round =>
                    clear HM0
                    obtain ⟨fi, bst, so, hi, rfl, rfl, rfl, HPK, HM⟩ := hrel
                    by_cases hlt : fi < n
                    · have j0 : (0 : Int) ≤ (fi : Int) := by omega
                      have j2 : (fi : Int) < (n : Int) := by omega
                      have HLT := Lib.hid hlt
                      obtain ⟨b0, off0, a0, q0, a1, q1, rfl, ⟨c0, c1⟩, hx0, _⟩ := (HF.out.gr (HGW.out.trans HM.out.gr)).read hlt
                      obtain ⟨cs, hcs⟩ : ∃ cs, cs = (F fi).cs := ⟨_, rfl⟩
                      rw [← hcs] at c0 hx0
                      have HX0 := Lib.hid hx0
                      obtain ⟨m0, hm0⟩ : ∃ m0, m0 = cs.length := ⟨_, rfl⟩
                      obtain ⟨m1, hm1⟩ : ∃ m1, m1 = (F fi).ps.length := ⟨_, rfl⟩
                      have HCO : Hid (Comes cs) := Lib.hid (by rw [hcs]; exact HCM.out fi hlt)
                      have HCF := Lib.hid hcs
                      have HM0L := Lib.hid hm0
                      rw [← hm0] at c0 HX0
                      rw [← hm1] at c1
                      clear hx0 hm1 hcs hm0
                      go_upto_region 24 with fail
                      obtain ⟨wa, hwa⟩ : ∃ u, u = wr.alloc (.cells #[.slice a0 m0 q0, .slice a1 m1 q1] 46) := ⟨_, rfl⟩
                      obtain ⟨ab, hab⟩ : ∃ u, u = wr.heap.size := ⟨_, rfl⟩
                      have HD : Hid (wa.cell? ⟨ab, 0, none⟩ = some (.slice a0 m0 q0) ∧ wa.cell? ⟨ab, 1, none⟩ = some (.slice a1 m1 q1)) := Lib.hid (by rw [hwa, hab]; exact ⟨by simp, by simp⟩)
                      have HMA := Lib.hid (HM.out.gr' (show Gr wr wa from by rw [hwa]; exact (Gr.refl wr).alloc _))
                      have HXA := Lib.hid (HX0.out.gr (show Gr wr wa from by rw [hwa]; exact (Gr.refl wr).alloc _))
                      rw [← hwa, ← hab]
                      clear hwa hab c0 c1 HX0 HM
                      obtain ⟨cc, hcc⟩ : ∃ cc : Nat, cc = cumN cs (t + 1) := ⟨_, rfl⟩
                      have HCC := Lib.hid hcc
                      by_cases hm : t < m0
                      · have j3 : (t : Int) < (m0 : Int) := by omega
                        have e0 := HD.out.1
                        obtain ⟨x0, hx0⟩ : ∃ x0, x0 = cs.getD t 0 := ⟨_, rfl⟩
                        obtain ⟨cb, hcb⟩ : ∃ cb : Int, cb = (cumN cs t : Int) := ⟨_, rfl⟩
                        have HADD : Hid (cb + x0 = (cc : Int) ∧ IntKind.i64.wrap (cb + x0) = (cc : Int)) := Lib.hid (by
                          have y1 := HCO.out.cum t
                          have y2 := HCO.out.cum (t + 1)
                          have y3 := HCO.out.sum (t + 1)
                          have y4 : sumTo cs (t + 1) = sumTo cs t + x0 := by rw [hx0]; rfl
                          have y5 : cb + x0 = (cc : Int) := by rw [hcb, hcc]; omega
                          refine ⟨y5, ?_⟩
                          rw [y5, IntKind.wrap_i64]
                          omega)
                        obtain ⟨b9, off9, cap9, he9, hcell⟩ := ints_cells HXA.out (by have := HM0L.out; omega)
                        injection he9 with ex1 ex2 ex3
                        subst ex1
                        have HCX := Lib.hid (hcell.out t (by have := HM0L.out; omega))
                        rw [← hx0] at HCX
                        have HCB := Lib.hid (HMA.out.co.cell hlt)
                        have HCBF := Lib.hid (HMA.out.co.free fi)
                        rw [if_neg (Nat.lt_irrefl _), ← HCF.out, ← hcb] at HCB
                        clear hcell ex2 ex3 hcc hx0 hcb
                        go_upto_region 25 with fail
                        clear e0
                        refine wp_region_gr (n := 11) [Fg.eq (.slice (some ⟨g3, 0, none⟩) n n), Fg.eq (.int .i64 (fi : Int)), Fg.eq (.pointer (some ⟨g3, fi, none⟩)), Fg.eq (.int .i64 cb), Fg.eq (.pointer (some ⟨ab, 0, none⟩)), Fg.eq (.slice (some ⟨b9, off9, none⟩) m0 q0), Fg.eq (.int .i64 (t : Int)), Fg.eq (.pointer (some ⟨b9, off9 + t, none⟩)), Fg.eq (.int .i64 x0), Fg.eq (.int .i64 (cc : Int)), Fg.eq (.pointer (some ⟨g3, fi, none⟩))] [92, 93, 94, 95, 96, 97, 98, 99, 100, 101, 102] (by kernel_rfl) (by kernel_rfl) (by kernel_rfl) ?_ ?_
                        · intro L i o a w1 hi ho hA
                          have hgr : Gr wa w1 := (Gr.refl wa).drew.trans hA.gr
                          match i, hi with
                          | 0, _ =>
                            obtain rfl := Option.some.inj ho
                            exact gstep_val (mk_move rfl (show a.eval (.tmp 10) = .slice (some ⟨g3, 0, none⟩) n n from hA.other 10 (by decide))) rfl
                          | 1, _ =>
                            obtain rfl := Option.some.inj ho
                            exact gstep_val (mk_move rfl (show a.eval (.tmp 17) = .int .i64 (fi : Int) from hA.other 17 (by decide))) rfl
                          | 2, _ =>
                            obtain rfl := Option.some.inj ho
                            exact gstep_val (mk_idxI0 rfl (hA.fact 0 (hA.dep 0 (by kernel_rfl) (by decide))) (hA.fact 1 (hA.dep 1 (by kernel_rfl) (by decide))) hlt) rfl
                          | 3, _ =>
                            obtain rfl := Option.some.inj ho
                            exact gstep_val (mk_loadI rfl (hA.fact 2 (hA.dep 2 (by kernel_rfl) (by decide))) (hgr.cell HCB.out)) rfl
                          | 4, _ =>
                            obtain rfl := Option.some.inj ho
                            exact gstep_val (r_fa_sced_Flow_0 rfl (show a.eval (.tmp 18) = .pointer (some ⟨ab, 0, none⟩) from hA.other 18 (by decide))) rfl
                          | 5, _ =>
                            obtain rfl := Option.some.inj ho
                            exact gstep_val (mk_loadS rfl (hA.fact 4 (hA.dep 4 (by kernel_rfl) (by decide))) (hgr.cell HD.out.1)) rfl
                          | 6, _ =>
                            obtain rfl := Option.some.inj ho
                            exact gstep_val (mk_move rfl (show a.eval (.tmp 14) = .int .i64 (t : Int) from hA.other 14 (by decide))) rfl
                          | 7, _ =>
                            obtain rfl := Option.some.inj ho
                            exact gstep_val (mk_idxI rfl (hA.fact 5 (hA.dep 5 (by kernel_rfl) (by decide))) (hA.fact 6 (hA.dep 6 (by kernel_rfl) (by decide))) hm) rfl
                          | 8, _ =>
                            obtain rfl := Option.some.inj ho
                            exact gstep_val (mk_loadI rfl (hA.fact 7 (hA.dep 7 (by kernel_rfl) (by decide))) (hgr.cell HCX.out)) rfl
                          | 9, _ =>
                            obtain rfl := Option.some.inj ho
                            exact gstep_val (mk_add rfl (hA.fact 3 (hA.dep 3 (by kernel_rfl) (by decide))) (hA.fact 8 (hA.dep 8 (by kernel_rfl) (by decide))) HADD.out.2) rfl
                          | 10, _ =>
                            obtain rfl := Option.some.inj ho
                            exact gstep_val (mk_idxI0 rfl (hA.fact 0 (hA.dep 0 (by kernel_rfl) (by decide))) (hA.fact 1 (hA.dep 1 (by kernel_rfl) (by decide))) hlt) rfl
                        · intro vs w5 hg5' hv
                          have hg5 := (Gr.refl wa).drew.trans hg5'
                          have v9 : vs 9 = .int .i64 (cc : Int) := hv 9 (by omega)
                          have v10 : vs 10 = .pointer (some ⟨g3, fi, none⟩) := hv 10 (by omega)
                          clear hv hg5'
                          simp only [putN, List.drop_succ_cons, List.drop_zero, List.getElem?_cons_succ, List.getElem?_cons_zero]
                          generalize vs 9 = z9 at *
                          generalize vs 10 = z10 at *
                          subst v9
                          subst v10
                          have d0 := hg5.cell HCB.out
                          have d1 : w5.frozen? ⟨g3, fi, none⟩ = false := by rw [hg5.frozen (p := ⟨g3, fi, none⟩) (cell_lt HCB.out)]; exact HCBF.out
                          have HM5 := Lib.hid ((HMA.out.gr' hg5).come fi (cc : Int))
                          have HM1 : Hid (MkS w1 (w5.setCell ⟨g3, fi, none⟩ (.int .i64 (cc : Int))) ⟨pb, g1, g2, g3, g4⟩ M N n pv (fun i => upTo (P.D i) (P.tot i)) sv (upTo P.best t) tv (fun i => upTo ((P.run t).2 i) (S i)) (fun i => if i < fi + 1 then (cumN (F i).cs (t + 1) : Int) else (cumN (F i).cs t : Int)) (fun i => (S i : Int))) := Lib.hid (HM5.out.cong rfl (fun _ _ => rfl) (fun i _ => by
                            by_cases e : i = fi
                            · subst e
                              rw [upd_at, if_pos (by omega), HCC.out, HCF.out]
                            · rw [upd_ne _ _ e]
                              by_cases e2 : i < fi
                              · rw [if_pos e2, if_pos (by omega)]
                              · rw [if_neg e2, if_neg (by omega)]) (fun _ _ => rfl))
                          clear HM5 HMA hg5
                          go_upto_region 26 with fail
                          clear d0 d1
                          obtain ⟨wb, hwb⟩ : ∃ u, u = w5.setCell ⟨g3, fi, none⟩ (.int .i64 (cc : Int)) := ⟨_, rfl⟩
                          rw [← hwb] at HM1
                          rw [← hwb]
                          clear hwb
                          obtain ⟨sj, hsj⟩ : ∃ sj, sj = S fi := ⟨_, rfl⟩
                          have HSJ := Lib.hid hsj
                          have HSC := Lib.hid (HM1.out.se.cell hlt)
                          rw [← hsj] at HSC
                          have HCO1 : Hid (wb.cell? ⟨g3, fi, none⟩ = some (.int .i64 (cc : Int))) := Lib.hid (by have h := HM1.out.co.cell hlt; rw [if_pos (Nat.lt_succ_self fi), ← HCF.out, ← HCC.out] at h; exact h)
                          have HPC : Hid (P.c fi (t + 1) = cc) := Lib.hid (by rw [HPn.out.2.2.1 fi hlt (t + 1), ← HCF.out, HCC.out])
                          have HLE : Hid (sj ≤ cc ∧ cc ≤ P.tot fi) := Lib.hid (by have h1 := HSI.out.1 fi; have h2 := P.mono fi t; have h3 := HPC.out; have h4 := P.le fi (t + 1); omega)
                          clear hsj
                          refine wp_region_gr (n := 8) [Fg.eq (.slice (some ⟨g4, 0, none⟩) n n), Fg.eq (.int .i64 (fi : Int)), Fg.eq (.pointer (some ⟨g4, fi, none⟩)), Fg.eq (.int .i64 (sj : Int)), Fg.eq (.slice (some ⟨g3, 0, none⟩) n n), Fg.eq (.int .i64 (fi : Int)), Fg.eq (.pointer (some ⟨g3, fi, none⟩)), Fg.eq (.int .i64 (cc : Int))] [103, 104, 105, 106, 107, 108, 109, 110] (by kernel_rfl) (by kernel_rfl) (by kernel_rfl) ?_ ?_
                          · intro L i o a w1 hi ho hA
                            have hgr : Gr wb w1 := (Gr.refl wb).drew.trans hA.gr
                            match i, hi with
                            | 0, _ =>
                              obtain rfl := Option.some.inj ho
                              exact gstep_val (mk_move rfl (show a.eval (.tmp 11) = .slice (some ⟨g4, 0, none⟩) n n from hA.other 11 (by decide))) rfl
                            | 1, _ =>
                              obtain rfl := Option.some.inj ho
                              exact gstep_val (mk_move rfl (show a.eval (.tmp 17) = .int .i64 (fi : Int) from hA.other 17 (by decide))) rfl
                            | 2, _ =>
                              obtain rfl := Option.some.inj ho
                              exact gstep_val (mk_idxI0 rfl (hA.fact 0 (hA.dep 0 (by kernel_rfl) (by decide))) (hA.fact 1 (hA.dep 1 (by kernel_rfl) (by decide))) hlt) rfl
                            | 3, _ =>
                              obtain rfl := Option.some.inj ho
                              exact gstep_val (mk_loadI rfl (hA.fact 2 (hA.dep 2 (by kernel_rfl) (by decide))) (hgr.cell HSC.out)) rfl
                            | 4, _ =>
                              obtain rfl := Option.some.inj ho
                              exact gstep_val (mk_move rfl (show a.eval (.tmp 10) = .slice (some ⟨g3, 0, none⟩) n n from hA.other 10 (by decide))) rfl
                            | 5, _ =>
                              obtain rfl := Option.some.inj ho
                              exact gstep_val (mk_move rfl (show a.eval (.tmp 17) = .int .i64 (fi : Int) from hA.other 17 (by decide))) rfl
                            | 6, _ =>
                              obtain rfl := Option.some.inj ho
                              exact gstep_val (mk_idxI0 rfl (hA.fact 4 (hA.dep 4 (by kernel_rfl) (by decide))) (hA.fact 5 (hA.dep 5 (by kernel_rfl) (by decide))) hlt) rfl
                            | 7, _ =>
                              obtain rfl := Option.some.inj ho
                              exact gstep_val (mk_loadI rfl (hA.fact 6 (hA.dep 6 (by kernel_rfl) (by decide))) (hgr.cell HCO1.out)) rfl
                          · intro vs w6 hg5' hv
                            have hg5 := (Gr.refl wb).drew.trans hg5'
                            have v3 : vs 3 = .int .i64 (sj : Int) := hv 3 (by omega)
                            have v7 : vs 7 = .int .i64 (cc : Int) := hv 7 (by omega)
                            clear hv hg5'
                            simp only [putN, List.drop_succ_cons, List.drop_zero, List.getElem?_cons_succ, List.getElem?_cons_zero]
                            generalize vs 3 = z3 at *
                            generalize vs 7 = z7 at *
                            subst v3
                            subst v7
                            have HM2 := Lib.hid (HM1.out.gr' hg5)
                            by_cases hsc : sj = cc
                            · subst hsc
                              have HPK2 : Hid (bst = P.pick t S (fi + 1) ∧ (bst < 0 ∨ so = P.key bst.toNat (S bst.toNat))) := Lib.hid ⟨HPK.out.1.trans (PlanP.pick_no (by rw [← HSJ.out, HPC.out]; exact Nat.lt_irrefl _)).symm, HPK.out.2⟩
                              go_wp2
                              go_roundw
                              case measure => simp [intOf]; omega
                              case rel => exact ⟨fi + 1, _, _, by omega, by go_num, rfl, rfl, HPK2, HM2⟩
                            · have HLC : Hid (sj < cc) := Lib.hid (by have := HLE.out; omega)
                              have hne : ¬ (sj : Int) = (cc : Int) := by omega
                              go_upto_region 27 with fail
                              obtain ⟨d, hd⟩ : ∃ d, d = P.D fi sj := ⟨_, rfl⟩
                              have HDD := Lib.hid hd
                              obtain ⟨b8, off8, cap8, he8, hcell8⟩ := ints_cells (HM2.out.pr fi hlt) (by rw [upTo_len]; have := HLE.out; have := HLC.out; omega)
                              have HD8 := Lib.hid (hcell8.out sj (by rw [upTo_len]; have := HLE.out; have := HLC.out; omega))
                              rw [upTo_getD _ (by have := HLE.out; have := HLC.out; omega), ← hd] at HD8
                              obtain ⟨tt, htt⟩ : ∃ tt, tt = P.tot fi := ⟨_, rfl⟩
                              have HTT := Lib.hid htt
                              have HPV := Lib.hid (HM2.out.pc fi hlt)
                              rw [he8, upTo_len, ← htt] at HPV
                              have QP1 := Lib.hid HM2.out.p1
                              have HSC2 := Lib.hid (hg5.cell HSC.out)
                              clear hd htt he8 hcell8 hg5 hsc
                              refine wp_region_gr (n := 11) [Fg.eq (.pointer (some ⟨pb, 1, none⟩)), Fg.eq (.slice (some ⟨g1, 0, none⟩) n n), Fg.eq (.int .i64 (fi : Int)), Fg.eq (.pointer (some ⟨g1, fi, none⟩)), Fg.eq (.slice (some ⟨b8, off8, none⟩) tt cap8), Fg.eq (.slice (some ⟨g4, 0, none⟩) n n), Fg.eq (.int .i64 (fi : Int)), Fg.eq (.pointer (some ⟨g4, fi, none⟩)), Fg.eq (.int .i64 (sj : Int)), Fg.eq (.pointer (some ⟨b8, off8 + sj, none⟩)), Fg.eq (.int .i64 d)] [112, 113, 114, 115, 116, 117, 118, 119, 120, 121, 122] (by kernel_rfl) (by kernel_rfl) (by kernel_rfl) ?_ ?_
                              · intro L i o a w1 hi ho hA
                                have hgr : Gr w6 w1 := (Gr.refl w6).drew.trans hA.gr
                                match i, hi with
                                | 0, _ =>
                                  obtain rfl := Option.some.inj ho
                                  exact gstep_val (r_fa_sced_Plan_1 rfl (show a.eval (.tmp 9) = .pointer (some ⟨pb, 0, none⟩) from hA.other 9 (by decide))) rfl
                                | 1, _ =>
                                  obtain rfl := Option.some.inj ho
                                  exact gstep_val (mk_loadL rfl (hA.fact 0 (hA.dep 0 (by kernel_rfl) (by decide))) (hgr.cell QP1.out)) rfl
                                | 2, _ =>
                                  obtain rfl := Option.some.inj ho
                                  exact gstep_val (mk_move rfl (show a.eval (.tmp 17) = .int .i64 (fi : Int) from hA.other 17 (by decide))) rfl
                                | 3, _ =>
                                  obtain rfl := Option.some.inj ho
                                  exact gstep_val (mk_idxL0 rfl (hA.fact 1 (hA.dep 1 (by kernel_rfl) (by decide))) (hA.fact 2 (hA.dep 2 (by kernel_rfl) (by decide))) hlt) rfl
                                | 4, _ =>
                                  obtain rfl := Option.some.inj ho
                                  exact gstep_val (mk_loadS rfl (hA.fact 3 (hA.dep 3 (by kernel_rfl) (by decide))) (hgr.cell HPV.out)) rfl
                                | 5, _ =>
                                  obtain rfl := Option.some.inj ho
                                  exact gstep_val (mk_move rfl (show a.eval (.tmp 11) = .slice (some ⟨g4, 0, none⟩) n n from hA.other 11 (by decide))) rfl
                                | 6, _ =>
                                  obtain rfl := Option.some.inj ho
                                  exact gstep_val (mk_move rfl (show a.eval (.tmp 17) = .int .i64 (fi : Int) from hA.other 17 (by decide))) rfl
                                | 7, _ =>
                                  obtain rfl := Option.some.inj ho
                                  exact gstep_val (mk_idxI0 rfl (hA.fact 5 (hA.dep 5 (by kernel_rfl) (by decide))) (hA.fact 6 (hA.dep 6 (by kernel_rfl) (by decide))) hlt) rfl
                                | 8, _ =>
                                  obtain rfl := Option.some.inj ho
                                  exact gstep_val (mk_loadI rfl (hA.fact 7 (hA.dep 7 (by kernel_rfl) (by decide))) (hgr.cell HSC2.out)) rfl
                                | 9, _ =>
                                  obtain rfl := Option.some.inj ho
                                  exact gstep_val (mk_idxI rfl (hA.fact 4 (hA.dep 4 (by kernel_rfl) (by decide))) (hA.fact 8 (hA.dep 8 (by kernel_rfl) (by decide))) (by have := HLE.out; have := HLC.out; have := HTT.out; omega)) rfl
                                | 10, _ =>
                                  obtain rfl := Option.some.inj ho
                                  exact gstep_val (mk_loadI rfl (hA.fact 9 (hA.dep 9 (by kernel_rfl) (by decide))) (hgr.cell HD8.out)) rfl
                              · intro vs w7 hg6' hv
                                have hg6 := (Gr.refl w6).drew.trans hg6'
                                have v10 : vs 10 = .int .i64 d := hv 10 (by omega)
                                clear hv hg6'
                                simp only [putN, List.drop_succ_cons, List.drop_zero, List.getElem?_cons_succ, List.getElem?_cons_zero]
                                generalize vs 10 = z10 at *
                                subst v10
                                have HM3 := Lib.hid (HM2.out.gr' hg6)
                                clear hg6
                                by_cases hd0 : d < 0
                                · have HKEY : Hid (P.key fi (S fi) = (T : Int) + 1) := Lib.hid (by unfold PlanP.key soon; rw [← HSJ.out, ← HDD.out, HPn.out.2.1, if_pos hd0])
                                  by_cases h30 : bst < 0
                                  · have HPK2 : Hid ((fi : Int) = P.pick t S (fi + 1) ∧ ((fi : Int) < 0 ∨ (T : Int) + 1 = P.key (fi : Int).toNat (S (fi : Int).toNat))) := Lib.hid ⟨(PlanP.pick_take (by rw [← HSJ.out, HPC.out]; exact HLC.out) (.inl (by rw [← HPK.out.1]; exact h30))).symm, .inr (by rw [Int.toNat_natCast, HKEY.out])⟩
                                    go_wp2
                                    go_roundw
                                    case measure => simp [intOf]; omega
                                    case rel => exact ⟨fi + 1, _, _, by omega, by go_num, rfl, rfl, HPK2, HM3⟩
                                  · by_cases h31 : (T : Int) + 1 < so
                                    · have HPK2 : Hid ((fi : Int) = P.pick t S (fi + 1) ∧ ((fi : Int) < 0 ∨ (T : Int) + 1 = P.key (fi : Int).toNat (S (fi : Int).toNat))) := Lib.hid ⟨(PlanP.pick_take (by rw [← HSJ.out, HPC.out]; exact HLC.out) (.inr (by rw [HKEY.out, ← HPK.out.1, ← HPK.out.2.resolve_left h30]; exact h31))).symm, .inr (by rw [Int.toNat_natCast, HKEY.out])⟩
                                      go_wp2
                                      go_roundw
                                      case measure => simp [intOf]; omega
                                      case rel => exact ⟨fi + 1, _, _, by omega, by go_num, rfl, rfl, HPK2, HM3⟩
                                    · have HPK2 : Hid (bst = P.pick t S (fi + 1) ∧ (bst < 0 ∨ so = P.key bst.toNat (S bst.toNat))) := Lib.hid ⟨HPK.out.1.trans (PlanP.pick_keep (by rw [← HPK.out.1]; exact h30) (by rw [HKEY.out, ← HPK.out.1, ← HPK.out.2.resolve_left h30]; exact h31)).symm, HPK.out.2⟩
                                      go_wp2
                                      go_roundw
                                      case measure => simp [intOf]; omega
                                      case rel => exact ⟨fi + 1, _, _, by omega, by go_num, rfl, rfl, HPK2, HM3⟩
                                · have HKEY : Hid (P.key fi (S fi) = d) := Lib.hid (by unfold PlanP.key soon; rw [← HSJ.out, ← HDD.out, HPn.out.2.1, if_neg hd0])
                                  by_cases h30 : bst < 0
                                  · have HPK2 : Hid ((fi : Int) = P.pick t S (fi + 1) ∧ ((fi : Int) < 0 ∨ d = P.key (fi : Int).toNat (S (fi : Int).toNat))) := Lib.hid ⟨(PlanP.pick_take (by rw [← HSJ.out, HPC.out]; exact HLC.out) (.inl (by rw [← HPK.out.1]; exact h30))).symm, .inr (by rw [Int.toNat_natCast, HKEY.out])⟩
                                    go_wp2
                                    go_roundw
                                    case measure => simp [intOf]; omega
                                    case rel => exact ⟨fi + 1, _, _, by omega, by go_num, rfl, rfl, HPK2, HM3⟩
                                  · by_cases h31 : d < so
                                    · have HPK2 : Hid ((fi : Int) = P.pick t S (fi + 1) ∧ ((fi : Int) < 0 ∨ d = P.key (fi : Int).toNat (S (fi : Int).toNat))) := Lib.hid ⟨(PlanP.pick_take (by rw [← HSJ.out, HPC.out]; exact HLC.out) (.inr (by rw [HKEY.out, ← HPK.out.1, ← HPK.out.2.resolve_left h30]; exact h31))).symm, .inr (by rw [Int.toNat_natCast, HKEY.out])⟩
                                      go_wp2
                                      go_roundw
                                      case measure => simp [intOf]; omega
                                      case rel => exact ⟨fi + 1, _, _, by omega, by go_num, rfl, rfl, HPK2, HM3⟩
                                    · have HPK2 : Hid (bst = P.pick t S (fi + 1) ∧ (bst < 0 ∨ so = P.key bst.toNat (S bst.toNat))) := Lib.hid ⟨HPK.out.1.trans (PlanP.pick_keep (by rw [← HPK.out.1]; exact h30) (by rw [HKEY.out, ← HPK.out.1, ← HPK.out.2.resolve_left h30]; exact h31)).symm, HPK.out.2⟩
                                      go_wp2
                                      go_roundw
                                      case measure => simp [intOf]; omega
                                      case rel => exact ⟨fi + 1, _, _, by omega, by go_num, rfl, rfl, HPK2, HM3⟩
                      · have j3 : ¬ (t : Int) < (m0 : Int) := by omega
                        have e0 := HD.out.1
                        have HM1 : Hid (MkS w1 wa ⟨pb, g1, g2, g3, g4⟩ M N n pv (fun i => upTo (P.D i) (P.tot i)) sv (upTo P.best t) tv (fun i => upTo ((P.run t).2 i) (S i)) (fun i => if i < fi + 1 then (cumN (F i).cs (t + 1) : Int) else (cumN (F i).cs t : Int)) (fun i => (S i : Int))) := Lib.hid (HMA.out.cong rfl (fun _ _ => rfl) (fun i _ => by
                          rcases Nat.lt_trichotomy i fi with e | e | e
                          · rw [if_pos e, if_pos (by omega)]
                          · subst e
                            rw [if_neg (by omega), if_pos (by omega), ← HCF.out]
                            have y4 : sumTo cs (t + 1) = sumTo cs t + cs.getD t 0 := rfl
                            rw [getD_out (by have := HM0L.out; omega)] at y4
                            unfold cumN
                            rw [y4, Int.add_zero]
                          · rw [if_neg (by omega), if_neg (by omega)]) (fun _ _ => rfl))
                        clear HMA hcc
                        go_upto_region 26 with fail
                        clear e0
                        obtain ⟨sj, hsj⟩ : ∃ sj, sj = S fi := ⟨_, rfl⟩
                        have HSJ := Lib.hid hsj
                        have HSC := Lib.hid (HM1.out.se.cell hlt)
                        rw [← hsj] at HSC
                        have HCO1 : Hid (wa.cell? ⟨g3, fi, none⟩ = some (.int .i64 (cc : Int))) := Lib.hid (by have h := HM1.out.co.cell hlt; rw [if_pos (Nat.lt_succ_self fi), ← HCF.out, ← HCC.out] at h; exact h)
                        have HPC : Hid (P.c fi (t + 1) = cc) := Lib.hid (by rw [HPn.out.2.2.1 fi hlt (t + 1), ← HCF.out, HCC.out])
                        have HLE : Hid (sj ≤ cc ∧ cc ≤ P.tot fi) := Lib.hid (by have h1 := HSI.out.1 fi; have h2 := P.mono fi t; have h3 := HPC.out; have h4 := P.le fi (t + 1); omega)
                        clear hsj
                        refine wp_region_gr (n := 8) [Fg.eq (.slice (some ⟨g4, 0, none⟩) n n), Fg.eq (.int .i64 (fi : Int)), Fg.eq (.pointer (some ⟨g4, fi, none⟩)), Fg.eq (.int .i64 (sj : Int)), Fg.eq (.slice (some ⟨g3, 0, none⟩) n n), Fg.eq (.int .i64 (fi : Int)), Fg.eq (.pointer (some ⟨g3, fi, none⟩)), Fg.eq (.int .i64 (cc : Int))] [103, 104, 105, 106, 107, 108, 109, 110] (by kernel_rfl) (by kernel_rfl) (by kernel_rfl) ?_ ?_
                        · intro L i o a w1 hi ho hA
                          have hgr : Gr wa w1 := (Gr.refl wa).drew.trans hA.gr
                          match i, hi with
                          | 0, _ =>
                            obtain rfl := Option.some.inj ho
                            exact gstep_val (mk_move rfl (show a.eval (.tmp 11) = .slice (some ⟨g4, 0, none⟩) n n from hA.other 11 (by decide))) rfl
                          | 1, _ =>
                            obtain rfl := Option.some.inj ho
                            exact gstep_val (mk_move rfl (show a.eval (.tmp 17) = .int .i64 (fi : Int) from hA.other 17 (by decide))) rfl
                          | 2, _ =>
                            obtain rfl := Option.some.inj ho
                            exact gstep_val (mk_idxI0 rfl (hA.fact 0 (hA.dep 0 (by kernel_rfl) (by decide))) (hA.fact 1 (hA.dep 1 (by kernel_rfl) (by decide))) hlt) rfl
                          | 3, _ =>
                            obtain rfl := Option.some.inj ho
                            exact gstep_val (mk_loadI rfl (hA.fact 2 (hA.dep 2 (by kernel_rfl) (by decide))) (hgr.cell HSC.out)) rfl
                          | 4, _ =>
                            obtain rfl := Option.some.inj ho
                            exact gstep_val (mk_move rfl (show a.eval (.tmp 10) = .slice (some ⟨g3, 0, none⟩) n n from hA.other 10 (by decide))) rfl
                          | 5, _ =>
                            obtain rfl := Option.some.inj ho
                            exact gstep_val (mk_move rfl (show a.eval (.tmp 17) = .int .i64 (fi : Int) from hA.other 17 (by decide))) rfl
                          | 6, _ =>
                            obtain rfl := Option.some.inj ho
                            exact gstep_val (mk_idxI0 rfl (hA.fact 4 (hA.dep 4 (by kernel_rfl) (by decide))) (hA.fact 5 (hA.dep 5 (by kernel_rfl) (by decide))) hlt) rfl
                          | 7, _ =>
                            obtain rfl := Option.some.inj ho
                            exact gstep_val (mk_loadI rfl (hA.fact 6 (hA.dep 6 (by kernel_rfl) (by decide))) (hgr.cell HCO1.out)) rfl
                        · intro vs w6 hg5' hv
                          have hg5 := (Gr.refl wa).drew.trans hg5'
                          have v3 : vs 3 = .int .i64 (sj : Int) := hv 3 (by omega)
                          have v7 : vs 7 = .int .i64 (cc : Int) := hv 7 (by omega)
                          clear hv hg5'
                          simp only [putN, List.drop_succ_cons, List.drop_zero, List.getElem?_cons_succ, List.getElem?_cons_zero]
                          generalize vs 3 = z3 at *
                          generalize vs 7 = z7 at *
                          subst v3
                          subst v7
                          have HM2 := Lib.hid (HM1.out.gr' hg5)
                          by_cases hsc : sj = cc
                          · subst hsc
                            have HPK2 : Hid (bst = P.pick t S (fi + 1) ∧ (bst < 0 ∨ so = P.key bst.toNat (S bst.toNat))) := Lib.hid ⟨HPK.out.1.trans (PlanP.pick_no (by rw [← HSJ.out, HPC.out]; exact Nat.lt_irrefl _)).symm, HPK.out.2⟩
                            go_wp2
                            go_roundw
                            case measure => simp [intOf]; omega
                            case rel => exact ⟨fi + 1, _, _, by omega, by go_num, rfl, rfl, HPK2, HM2⟩
                          · have HLC : Hid (sj < cc) := Lib.hid (by have := HLE.out; omega)
                            have hne : ¬ (sj : Int) = (cc : Int) := by omega
                            go_upto_region 27 with fail
                            obtain ⟨d, hd⟩ : ∃ d, d = P.D fi sj := ⟨_, rfl⟩
                            have HDD := Lib.hid hd
                            obtain ⟨b8, off8, cap8, he8, hcell8⟩ := ints_cells (HM2.out.pr fi hlt) (by rw [upTo_len]; have := HLE.out; have := HLC.out; omega)
                            have HD8 := Lib.hid (hcell8.out sj (by rw [upTo_len]; have := HLE.out; have := HLC.out; omega))
                            rw [upTo_getD _ (by have := HLE.out; have := HLC.out; omega), ← hd] at HD8
                            obtain ⟨tt, htt⟩ : ∃ tt, tt = P.tot fi := ⟨_, rfl⟩
                            have HTT := Lib.hid htt
                            have HPV := Lib.hid (HM2.out.pc fi hlt)
                            rw [he8, upTo_len, ← htt] at HPV
                            have QP1 := Lib.hid HM2.out.p1
                            have HSC2 := Lib.hid (hg5.cell HSC.out)
                            clear hd htt he8 hcell8 hg5 hsc
                            refine wp_region_gr (n := 11) [Fg.eq (.pointer (some ⟨pb, 1, none⟩)), Fg.eq (.slice (some ⟨g1, 0, none⟩) n n), Fg.eq (.int .i64 (fi : Int)), Fg.eq (.pointer (some ⟨g1, fi, none⟩)), Fg.eq (.slice (some ⟨b8, off8, none⟩) tt cap8), Fg.eq (.slice (some ⟨g4, 0, none⟩) n n), Fg.eq (.int .i64 (fi : Int)), Fg.eq (.pointer (some ⟨g4, fi, none⟩)), Fg.eq (.int .i64 (sj : Int)), Fg.eq (.pointer (some ⟨b8, off8 + sj, none⟩)), Fg.eq (.int .i64 d)] [112, 113, 114, 115, 116, 117, 118, 119, 120, 121, 122] (by kernel_rfl) (by kernel_rfl) (by kernel_rfl) ?_ ?_
                            · intro L i o a w1 hi ho hA
                              have hgr : Gr w6 w1 := (Gr.refl w6).drew.trans hA.gr
                              match i, hi with
                              | 0, _ =>
                                obtain rfl := Option.some.inj ho
                                exact gstep_val (r_fa_sced_Plan_1 rfl (show a.eval (.tmp 9) = .pointer (some ⟨pb, 0, none⟩) from hA.other 9 (by decide))) rfl
                              | 1, _ =>
                                obtain rfl := Option.some.inj ho
                                exact gstep_val (mk_loadL rfl (hA.fact 0 (hA.dep 0 (by kernel_rfl) (by decide))) (hgr.cell QP1.out)) rfl
                              | 2, _ =>
                                obtain rfl := Option.some.inj ho
                                exact gstep_val (mk_move rfl (show a.eval (.tmp 17) = .int .i64 (fi : Int) from hA.other 17 (by decide))) rfl
                              | 3, _ =>
                                obtain rfl := Option.some.inj ho
                                exact gstep_val (mk_idxL0 rfl (hA.fact 1 (hA.dep 1 (by kernel_rfl) (by decide))) (hA.fact 2 (hA.dep 2 (by kernel_rfl) (by decide))) hlt) rfl
                              | 4, _ =>
                                obtain rfl := Option.some.inj ho
                                exact gstep_val (mk_loadS rfl (hA.fact 3 (hA.dep 3 (by kernel_rfl) (by decide))) (hgr.cell HPV.out)) rfl
                              | 5, _ =>
                                obtain rfl := Option.some.inj ho
                                exact gstep_val (mk_move rfl (show a.eval (.tmp 11) = .slice (some ⟨g4, 0, none⟩) n n from hA.other 11 (by decide))) rfl
                              | 6, _ =>
                                obtain rfl := Option.some.inj ho
                                exact gstep_val (mk_move rfl (show a.eval (.tmp 17) = .int .i64 (fi : Int) from hA.other 17 (by decide))) rfl
                              | 7, _ =>
                                obtain rfl := Option.some.inj ho
                                exact gstep_val (mk_idxI0 rfl (hA.fact 5 (hA.dep 5 (by kernel_rfl) (by decide))) (hA.fact 6 (hA.dep 6 (by kernel_rfl) (by decide))) hlt) rfl
                              | 8, _ =>
                                obtain rfl := Option.some.inj ho
                                exact gstep_val (mk_loadI rfl (hA.fact 7 (hA.dep 7 (by kernel_rfl) (by decide))) (hgr.cell HSC2.out)) rfl
                              | 9, _ =>
                                obtain rfl := Option.some.inj ho
                                exact gstep_val (mk_idxI rfl (hA.fact 4 (hA.dep 4 (by kernel_rfl) (by decide))) (hA.fact 8 (hA.dep 8 (by kernel_rfl) (by decide))) (by have := HLE.out; have := HLC.out; have := HTT.out; omega)) rfl
                              | 10, _ =>
                                obtain rfl := Option.some.inj ho
                                exact gstep_val (mk_loadI rfl (hA.fact 9 (hA.dep 9 (by kernel_rfl) (by decide))) (hgr.cell HD8.out)) rfl
                            · intro vs w7 hg6' hv
                              have hg6 := (Gr.refl w6).drew.trans hg6'
                              have v10 : vs 10 = .int .i64 d := hv 10 (by omega)
                              clear hv hg6'
                              simp only [putN, List.drop_succ_cons, List.drop_zero, List.getElem?_cons_succ, List.getElem?_cons_zero]
                              generalize vs 10 = z10 at *
                              subst v10
                              have HM3 := Lib.hid (HM2.out.gr' hg6)
                              clear hg6
                              by_cases hd0 : d < 0
                              · have HKEY : Hid (P.key fi (S fi) = (T : Int) + 1) := Lib.hid (by unfold PlanP.key soon; rw [← HSJ.out, ← HDD.out, HPn.out.2.1, if_pos hd0])
                                by_cases h30 : bst < 0
                                · have HPK2 : Hid ((fi : Int) = P.pick t S (fi + 1) ∧ ((fi : Int) < 0 ∨ (T : Int) + 1 = P.key (fi : Int).toNat (S (fi : Int).toNat))) := Lib.hid ⟨(PlanP.pick_take (by rw [← HSJ.out, HPC.out]; exact HLC.out) (.inl (by rw [← HPK.out.1]; exact h30))).symm, .inr (by rw [Int.toNat_natCast, HKEY.out])⟩
                                  go_wp2
                                  go_roundw
                                  case measure => simp [intOf]; omega
                                  case rel => exact ⟨fi + 1, _, _, by omega, by go_num, rfl, rfl, HPK2, HM3⟩
                                · by_cases h31 : (T : Int) + 1 < so
                                  · have HPK2 : Hid ((fi : Int) = P.pick t S (fi + 1) ∧ ((fi : Int) < 0 ∨ (T : Int) + 1 = P.key (fi : Int).toNat (S (fi : Int).toNat))) := Lib.hid ⟨(PlanP.pick_take (by rw [← HSJ.out, HPC.out]; exact HLC.out) (.inr (by rw [HKEY.out, ← HPK.out.1, ← HPK.out.2.resolve_left h30]; exact h31))).symm, .inr (by rw [Int.toNat_natCast, HKEY.out])⟩
                                    go_wp2
                                    go_roundw
                                    case measure => simp [intOf]; omega
                                    case rel => exact ⟨fi + 1, _, _, by omega, by go_num, rfl, rfl, HPK2, HM3⟩
                                  · have HPK2 : Hid (bst = P.pick t S (fi + 1) ∧ (bst < 0 ∨ so = P.key bst.toNat (S bst.toNat))) := Lib.hid ⟨HPK.out.1.trans (PlanP.pick_keep (by rw [← HPK.out.1]; exact h30) (by rw [HKEY.out, ← HPK.out.1, ← HPK.out.2.resolve_left h30]; exact h31)).symm, HPK.out.2⟩
                                    go_wp2
                                    go_roundw
                                    case measure => simp [intOf]; omega
                                    case rel => exact ⟨fi + 1, _, _, by omega, by go_num, rfl, rfl, HPK2, HM3⟩
                              · have HKEY : Hid (P.key fi (S fi) = d) := Lib.hid (by unfold PlanP.key soon; rw [← HSJ.out, ← HDD.out, HPn.out.2.1, if_neg hd0])
                                by_cases h30 : bst < 0
                                · have HPK2 : Hid ((fi : Int) = P.pick t S (fi + 1) ∧ ((fi : Int) < 0 ∨ d = P.key (fi : Int).toNat (S (fi : Int).toNat))) := Lib.hid ⟨(PlanP.pick_take (by rw [← HSJ.out, HPC.out]; exact HLC.out) (.inl (by rw [← HPK.out.1]; exact h30))).symm, .inr (by rw [Int.toNat_natCast, HKEY.out])⟩
                                  go_wp2
                                  go_roundw
                                  case measure => simp [intOf]; omega
                                  case rel => exact ⟨fi + 1, _, _, by omega, by go_num, rfl, rfl, HPK2, HM3⟩
                                · by_cases h31 : d < so
                                  · have HPK2 : Hid ((fi : Int) = P.pick t S (fi + 1) ∧ ((fi : Int) < 0 ∨ d = P.key (fi : Int).toNat (S (fi : Int).toNat))) := Lib.hid ⟨(PlanP.pick_take (by rw [← HSJ.out, HPC.out]; exact HLC.out) (.inr (by rw [HKEY.out, ← HPK.out.1, ← HPK.out.2.resolve_left h30]; exact h31))).symm, .inr (by rw [Int.toNat_natCast, HKEY.out])⟩
                                    go_wp2
                                    go_roundw
                                    case measure => simp [intOf]; omega
                                    case rel => exact ⟨fi + 1, _, _, by omega, by go_num, rfl, rfl, HPK2, HM3⟩
                                  · have HPK2 : Hid (bst = P.pick t S (fi + 1) ∧ (bst < 0 ∨ so = P.key bst.toNat (S bst.toNat))) := Lib.hid ⟨HPK.out.1.trans (PlanP.pick_keep (by rw [← HPK.out.1]; exact h30) (by rw [HKEY.out, ← HPK.out.1, ← HPK.out.2.resolve_left h30]; exact h31)).symm, HPK.out.2⟩
                                    go_wp2
                                    go_roundw
                                    case measure => simp [intOf]; omega
                                    case rel => exact ⟨fi + 1, _, _, by omega, by go_num, rfl, rfl, HPK2, HM3⟩
                    · obtain rfl : n = fi := by omega
                      have j2 : ¬ (n : Int) < (n : Int) := by omega
                      have HB : Hid (bst = P.best t) := Lib.hid (HPK.out.1.trans (by rw [← HPn.out.1]; exact HBE.out))
                      have HM1 : Hid (MkS w1 wr ⟨pb, g1, g2, g3, g4⟩ M N n pv (fun i => upTo (P.D i) (P.tot i)) sv (upTo P.best t) tv (fun i => upTo ((P.run t).2 i) ((P.run t).1 i)) (fun i => (cumN (F i).cs (t + 1) : Int)) (fun i => ((P.run t).1 i : Int))) := Lib.hid (HM.out.cong rfl (fun i _ => by rw [HSS.out]) (fun i hi => if_pos hi) (fun i _ => by rw [HSS.out]))
                      clear HM HPK HBE HSI
                      have HSI := Lib.hid (P.run_inv t)
                      obtain ⟨sa, sc, es⟩ := IntRow.shape HM1.out.row
                      rw [upTo_len] at es
                      subst es
                      have c0 := HM1.out.p0
                      go_upto_region 34 with (at_builtin; refine wpList_append_intR rfl _ _ _ (by rfl) Tryd.underlying28 _ _ bst (by rfl) (HM1.out.row.gr ((Gr.refl _).alloc _)) ⟨wr.heap.size, 0, none⟩ 1 (by rfl) (by simp) (by rw [upTo_len]; have := HTL.out; have := HT200.out; omega) ?_; intro v5 w5 hrow hgr hown; rw [HB.out, upTo_succ] at hrow; obtain ⟨a5, c5, e5⟩ := IntRow.shape hrow; rw [upTo_len] at e5; subst e5; obtain ⟨d0, d1, hm⟩ := (HM1.out.gr' ((Gr.refl _).alloc (.cells #[.int .i64 bst] 3))).tell hrow (.of_grown hgr fun _ h => h) hown; have HM2 := Lib.hid hm; clear hrow hgr hown hm)
                      obtain ⟨wc, hwc⟩ : ∃ u, u = w5.setCell ⟨pb, 0, none⟩ (.slice a5 (t + 1) c5) := ⟨_, rfl⟩
                      rw [← hwc] at HM2
                      rw [← hwc]
                      clear hwc d0 d1 c0 HM1
                      rcases P.best_in t with hneg | ⟨bn, hbn, hbl, hbc⟩
                      · have HN1 := Lib.hid hneg
                        have q0 : bst < 0 := by rw [HB.out]; exact hneg
                        have q1 : ¬ 0 ≤ bst := by omega
                        have HM3 : Hid (MkS w1 wc ⟨pb, g1, g2, g3, g4⟩ M N n pv (fun i => upTo (P.D i) (P.tot i)) (.slice a5 (t + 1) c5) (upTo P.best (t + 1)) tv (fun i => upTo ((P.run (t + 1)).2 i) ((P.run (t + 1)).1 i)) (fun i => (cumN (F i).cs (t + 1) : Int)) (fun i => ((P.run (t + 1)).1 i : Int))) := Lib.hid (HM2.out.cong rfl (fun i _ => by rw [P.run_neg HN1.out]) (fun i hi => rfl) (fun i _ => by rw [P.run_neg HN1.out]))
                        clear hneg
                        go_wp2
                        go_roundw
                        case measure => simp [intOf]; omega
                        case rel => exact ⟨t + 1, _, _, by omega, by go_num, HM3⟩
                      · have hbl2 : bn < n := by rw [← HPn.out.1]; exact hbl
                        have HBL := Lib.hid hbl2
                        have HBN := Lib.hid hbn
                        obtain rfl : bst = (bn : Int) := HB.out.trans hbn
                        have q0 : (0 : Int) ≤ (bn : Int) := by omega
                        have q1 : (bn : Int) < (n : Int) := by omega
                        obtain ⟨sb, hsb⟩ : ∃ sb, sb = (P.run t).1 bn := ⟨_, rfl⟩
                        have HSB := Lib.hid hsb
                        have HSB2 : Hid (sb ≤ 100) := Lib.hid (by
                          have x1 := P.le bn (t + 1)
                          rw [HPn.out.2.2.2.1 bn hbl2] at x1
                          have x2 := (HCM.out bn hbl2).cum (F bn).cs.length
                          have x3 := (HCM.out bn hbl2).sum (F bn).cs.length
                          omega)
                        have q2 : (0 : Int) ≤ (sb : Int) := by omega
                        have q3 : (sb : Int) ≤ 100 := by have := HSB2.out; omega
                        have c1 := HM2.out.se.cell hbl2
                        have c2 := HM2.out.se.free bn
                        rw [← hsb] at c1
                        clear hsb hbn hbl hbc
                        go_upto_region 36 with fail
                        clear c1 c2
                        have HM3 : Hid (MkS w1 (wc.setCell ⟨g4, bn, none⟩ (.int .i64 ((sb : Int) + 1))) ⟨pb, g1, g2, g3, g4⟩ M N n pv (fun i => upTo (P.D i) (P.tot i)) (.slice a5 (t + 1) c5) (upTo P.best (t + 1)) tv (fun i => upTo ((P.run t).2 i) ((P.run t).1 i)) (fun i => (cumN (F i).cs (t + 1) : Int)) (upd (fun i => ((P.run t).1 i : Int)) bn (((P.run t).1 bn : Int) + 1))) := Lib.hid (by
                          have h := HM2.out.send bn ((sb : Int) + 1)
                          rw [HSB.out] at h ⊢
                          exact h)
                        obtain ⟨wd, hwd⟩ : ∃ u, u = wc.setCell ⟨g4, bn, none⟩ (.int .i64 ((sb : Int) + 1)) := ⟨_, rfl⟩
                        rw [← hwd] at HM3
                        rw [← hwd]
                        clear hwd HM2
                        obtain ⟨tva, tvc, htv⟩ := IntRow.shape (HM3.out.th.row bn hbl2)
                        rw [upTo_len, ← HSB.out] at htv
                        have HTV := Lib.hid htv
                        have HP2 : Hid (wd.cell? ⟨pb, 2, none⟩ = some (.slice (some ⟨g2, 0, none⟩) n n) ∧ ¬ (Value.slice tva sb tvc).ownBlock = some pb) := Lib.hid ⟨HM3.out.p2, fun e => by have x1 := HM3.out.th.own bn pb hbl2 (by rw [htv]; exact e); have x2 := HM3.out.inn.1.2; have x3 := HM3.out.MN.1; change pb < M at x2; omega⟩
                        have HPT : Hid (wd.cell? ⟨g2, bn, none⟩ = some (.slice tva sb tvc) ∧ ¬ (Value.slice tva sb tvc).ownBlock = some g2) := Lib.hid ⟨by rw [← htv]; exact HM3.out.th.cell bn hbl2, fun e => by have x1 := HM3.out.th.own bn g2 hbl2 (by rw [htv]; exact e); have x2 := HM3.out.th.gb; change g2 < N at x2; omega⟩
                        have HTR : Hid (IntRow wd (.slice tva sb tvc) (upTo ((P.run t).2 bn) ((P.run t).1 bn))) := Lib.hid (by rw [← htv]; exact HM3.out.th.row bn hbl2)
                        have HTO : Hid (∀ q, (Value.slice tva sb tvc).ownBlock = some q → q < wd.heap.size) := Lib.hid (fun q e => Row.lt HTR.out e)
                        have HWT : Hid (IntKind.i64.wrap ((t : Int) + 1) = (t : Int) + 1) := Lib.hid (by rw [IntKind.wrap_i64]; have := HTL.out; have := HT200.out; omega)
                        clear htv
                        refine wp_region_k (n := 13) (fun u => Sav (fun g => (Value.slice tva sb tvc).ownBlock = some g) wd u ∧ IntRow u (Value.slice tva sb tvc) (upTo ((P.run t).2 bn) ((P.run t).1 bn))) [Fg.eq (.pointer (some ⟨pb, 2, none⟩)), Fg.eq (.slice (some ⟨g2, 0, none⟩) n n), Fg.eq (.int .i64 (bn : Int)), Fg.eq (.pointer (some ⟨pb, 2, none⟩)), Fg.eq (.slice (some ⟨g2, 0, none⟩) n n), Fg.eq (.int .i64 (bn : Int)), Fg.eq (.pointer (some ⟨g2, bn, none⟩)), Fg.eq (.slice tva sb tvc), Fg.eq (.int .i64 (t : Int)), Fg.eq (.int .i64 ((t : Int) + 1)), Fg.one wd.heap.size ((t : Int) + 1), Fg.irowA wd.heap.size (Value.slice tva sb tvc) (upTo ((P.run t).2 bn) ((P.run t).1 bn) ++ [(t : Int) + 1]), Fg.eq (.pointer (some ⟨g2, bn, none⟩))] [151, 152, 153, 154, 155, 156, 157, 158, 159, 160, 161, 162, 163] (⟨.of_gr (Gr.refl wd).drew, HTR.out.gr (Gr.refl wd).drew⟩) (by kernel_rfl) (by kernel_rfl) (by kernel_rfl) ?_ ?_
                        · intro L i o a w1 hi ho hA
                          have hI := hA.gr
                          match i, hi with
                          | 0, _ =>
                            obtain rfl := Option.some.inj ho
                            exact kstep_val hA (r_fa_sced_Plan_2 rfl (show a.eval (.tmp 9) = .pointer (some ⟨pb, 0, none⟩) from hA.other 9 (by decide))) rfl
                          | 1, _ =>
                            obtain rfl := Option.some.inj ho
                            exact kstep_val hA (mk_loadL rfl (hA.fact 0 (hA.dep 0 (by kernel_rfl) (by decide))) (hI.1.cell HP2.out.1 HP2.out.2)) rfl
                          | 2, _ =>
                            obtain rfl := Option.some.inj ho
                            exact kstep_val hA (mk_move rfl (show a.eval (.tmp 15) = .int .i64 (bn : Int) from hA.other 15 (by decide))) rfl
                          | 3, _ =>
                            obtain rfl := Option.some.inj ho
                            exact kstep_val hA (r_fa_sced_Plan_2 rfl (show a.eval (.tmp 9) = .pointer (some ⟨pb, 0, none⟩) from hA.other 9 (by decide))) rfl
                          | 4, _ =>
                            obtain rfl := Option.some.inj ho
                            exact kstep_val hA (mk_loadL rfl (hA.fact 3 (hA.dep 3 (by kernel_rfl) (by decide))) (hI.1.cell HP2.out.1 HP2.out.2)) rfl
                          | 5, _ =>
                            obtain rfl := Option.some.inj ho
                            exact kstep_val hA (mk_move rfl (show a.eval (.tmp 15) = .int .i64 (bn : Int) from hA.other 15 (by decide))) rfl
                          | 6, _ =>
                            obtain rfl := Option.some.inj ho
                            exact kstep_val hA (mk_idxL0 rfl (hA.fact 4 (hA.dep 4 (by kernel_rfl) (by decide))) (hA.fact 5 (hA.dep 5 (by kernel_rfl) (by decide))) hbl2) rfl
                          | 7, _ =>
                            obtain rfl := Option.some.inj ho
                            exact kstep_val hA (mk_loadS rfl (hA.fact 6 (hA.dep 6 (by kernel_rfl) (by decide))) (hI.1.cell HPT.out.1 HPT.out.2)) rfl
                          | 8, _ =>
                            obtain rfl := Option.some.inj ho
                            exact kstep_val hA (mk_move rfl (show a.eval (.tmp 14) = .int .i64 (t : Int) from hA.other 14 (by decide))) rfl
                          | 9, _ =>
                            obtain rfl := Option.some.inj ho
                            exact kstep_val hA (mk_add rfl (hA.fact 8 (hA.dep 8 (by kernel_rfl) (by decide))) rfl HWT.out) rfl
                          | 10, _ =>
                            obtain rfl := Option.some.inj ho
                            exact kstep_gr hA (mk_slice1 rfl (hA.fact 9 (hA.dep 9 (by kernel_rfl) (by decide)))) ((Gr.refl _).alloc _) ⟨hI.1.then (.of_gr ((Gr.refl _).alloc _)), hI.2.gr ((Gr.refl _).alloc _)⟩ ⟨_, rfl, hI.1.size, by simp⟩
                          | 11, _ =>
                            obtain rfl := Option.some.inj ho
                            obtain ⟨g, hv, hge, hcg⟩ := (hA.fact 10 (hA.dep 10 (by kernel_rfl) (by decide)))
                            obtain ⟨v', w', hr, hrow, hgrow, hown, hold⟩ := hI.2.app (g := g) (c := 1) hcg (by rw [upTo_len, ← HSB.out]; have := HSB2.out; omega)
                            have sv : Sav (fun g => (Value.slice tva sb tvc).ownBlock = some g) w1 w' := .of_grown hgrow fun _ h => h
                            refine kstep_keep hA (mk_app rfl (hA.fact 7 (hA.dep 7 (by kernel_rfl) (by decide))) hv hr) ⟨hI.1.then sv, hold⟩ ⟨hrow, fun q hq => (hown q hq).imp id (Nat.le_trans hI.1.size)⟩ ?_
                            intro i hi u hu
                            match i, hi, hu with
                            | 0, _, hu => exact hu
                            | 1, _, hu => exact hu
                            | 2, _, hu => exact hu
                            | 3, _, hu => exact hu
                            | 4, _, hu => exact hu
                            | 5, _, hu => exact hu
                            | 6, _, hu => exact hu
                            | 7, _, hu => exact hu
                            | 8, _, hu => exact hu
                            | 9, _, hu => exact hu
                            | 12, _, hu => exact hu
                            | 10, _, hu => obtain ⟨g', h0, h1, h2⟩ := hu; exact ⟨g', h0, h1, sv.cell h2 (fun e => by have := HTO.out g' e; omega)⟩
                            | 11, hi, _ => exact absurd rfl hi
                            | i + 13, _, hu => trivial
                          | 12, _ =>
                            obtain rfl := Option.some.inj ho
                            exact kstep_val hA (mk_idxL0 rfl (hA.fact 1 (hA.dep 1 (by kernel_rfl) (by decide))) (hA.fact 2 (hA.dep 2 (by kernel_rfl) (by decide))) hbl2) rfl
                        · intro vs w8 hI hv
                          obtain ⟨hrow, hown⟩ := hv 11 (by omega)
                          have hrow' : IntRow w8 (vs 11) (upTo ((P.run t).2 bn) ((P.run t).1 bn) ++ [(t : Int) + 1]) := hrow
                          have hown' : ∀ g, (vs 11).ownBlock = some g → (Value.slice tva sb tvc).ownBlock = some g ∨ wd.heap.size ≤ g := hown
                          have vlast : vs 12 = .pointer (some ⟨g2, bn, none⟩) := hv 12 (by omega)
                          have hsv := hI.1
                          clear hv hrow hown hI
                          simp only [putN, List.drop_succ_cons, List.drop_zero, List.getElem?_cons_succ, List.getElem?_cons_zero]
                          generalize vs 11 = z8 at *
                          generalize vs 12 = z9 at *
                          subst vlast
                          obtain ⟨ra, rc, er⟩ := IntRow.shape hrow'
                          rw [show (upTo ((P.run t).2 bn) ((P.run t).1 bn) ++ [(t : Int) + 1]).length = sb + 1 from by rw [List.length_append, upTo_len, ← HSB.out]; rfl] at er
                          subst er
                          obtain ⟨d0, d1, hm⟩ := HM3.out.thru hbl2 hrow' (by rw [HTV.out]; exact hsv) (by rw [HTV.out]; exact hown')
                          rw [HTV.out] at d0
                          have HM4 : Hid (MkS w1 (w8.setCell ⟨g2, bn, none⟩ (.slice ra (sb + 1) rc)) ⟨pb, g1, g2, g3, g4⟩ M N n pv (fun i => upTo (P.D i) (P.tot i)) (.slice a5 (t + 1) c5) (upTo P.best (t + 1)) (updA tv bn (.slice ra (sb + 1) rc)) (fun i => upTo ((P.run (t + 1)).2 i) ((P.run (t + 1)).1 i)) (fun i => (cumN (F i).cs (t + 1) : Int)) (fun i => ((P.run (t + 1)).1 i : Int))) := Lib.hid (hm.cong rfl (fun i _ => (P.thru_succ HBN.out i).symm) (fun _ _ => rfl) (fun i _ => (P.sent_succ HBN.out i).symm))
                          clear hrow' hown' hsv hm
                          go_wp2
                          go_roundw
                          case measure => simp [intOf]; omega
                          case rel => exact ⟨t + 1, _, _, by omega, by go_num, HM4⟩
                · have hTt : T = t := by omega
                  subst hTt
                  have k1 : ¬ (T : Int) < (T : Int) := by omega
                  have HSI := Lib.hid (P.run_inv T)
                  go_wp2
                  go_loopw [167] (fun s wr => ∃ (fi : Nat) (tv : Nat → Value), fi ≤ n ∧ s = .int .i64 (fi : Int) ∧ Hid (MkS w1 wr ⟨pb, g1, g2, g3, g4⟩ M N n pv (fun i => upTo (P.D i) (P.tot i)) sv (upTo P.best T) tv (fun i => if i < fi then upTo ((P.run T).2 i) (P.tot i) else upTo ((P.run T).2 i) ((P.run T).1 i)) (fun i => (cumN (F i).cs T : Int)) (fun i => ((P.run T).1 i : Int)))) (fun s _ => n - (intOf s).toNat)
                  case atStart => exact ⟨0, tv, Nat.zero_le _, rfl, Lib.hid (HM.out.cong rfl (fun i _ => by rw [if_neg (by omega)]) (fun _ _ => rfl) (fun _ _ => rfl))⟩
                  case round =>
                    clear HM
                    obtain ⟨fi, tv2, hi, rfl, HM2⟩ := hrel
                    by_cases hlt : fi < n
                    · have j0 : (0 : Int) ≤ (fi : Int) := by omega
                      have j2 : (fi : Int) < (n : Int) := by omega
                      have HLT := Lib.hid hlt
                      have HTOP : Hid ((P.run T).1 fi ≤ P.tot fi) := Lib.hid (Nat.le_trans (HSI.out.1 fi) (P.le fi T))
                      have HTT0 : Hid (P.tot fi ≤ 100) := Lib.hid (by
                        rw [HPn.out.2.2.2.1 fi hlt]
                        have x2 := (HCM.out fi hlt).cum (F fi).cs.length
                        have x3 := (HCM.out fi hlt).sum (F fi).cs.length
                        omega)
                      go_wp2
                      go_loopw [182] (fun _ wr => ∃ (k : Nat) (tv3 : Nat → Value), (k ≤ P.tot fi ∧ (P.run T).1 fi ≤ k) ∧ Hid (MkS w1 wr ⟨pb, g1, g2, g3, g4⟩ M N n pv (fun i => upTo (P.D i) (P.tot i)) sv (upTo P.best T) tv3 (fun i => if i < fi then upTo ((P.run T).2 i) (P.tot i) else if i = fi then upTo ((P.run T).2 i) k else upTo ((P.run T).2 i) ((P.run T).1 i)) (fun i => (cumN (F i).cs T : Int)) (fun i => ((P.run T).1 i : Int)))) (fun _ wr => P.tot fi - cellLen wr ⟨g2, fi, none⟩)
                      case atStart => exact ⟨(P.run T).1 fi, tv2, ⟨HTOP.out, Nat.le_refl _⟩, Lib.hid (HM2.out.cong rfl (fun i _ => by
                        by_cases e : i < fi
                        · rw [if_pos e, if_pos e]
                        · rw [if_neg e, if_neg e]
                          by_cases e2 : i = fi
                          · rw [if_pos e2, e2]
                          · rw [if_neg e2]) (fun _ _ => rfl) (fun _ _ => rfl))⟩
                      case round =>
                        clear HM2
                        obtain ⟨k, tv3, ⟨hk, hks⟩, HM3⟩ := hrel
                        obtain ⟨tva, tvc, htv⟩ := IntRow.shape (HM3.out.th.row fi hlt)
                        rw [if_neg (Nat.lt_irrefl _), if_pos rfl, upTo_len] at htv
                        obtain ⟨pva, pvc, hpv⟩ := ints_shape (HM3.out.pr fi hlt)
                        rw [upTo_len] at hpv
                        obtain ⟨tt, htt⟩ : ∃ tt, tt = P.tot fi := ⟨_, rfl⟩
                        rw [← htt] at hpv
                        have HTT := Lib.hid htt
                        have HTV := Lib.hid htv
                        have HTT100 : Hid (tt ≤ 100) := Lib.hid (by have := HTT0.out; omega)
                        have HKS := Lib.hid hks
                        have HPT0 : Hid (wr.cell? ⟨g2, fi, none⟩ = some (.slice tva k tvc)) := Lib.hid (by rw [← htv]; exact HM3.out.th.cell fi hlt)
                        have HPV : Hid (wr.cell? ⟨g1, fi, none⟩ = some (.slice pva tt pvc)) := Lib.hid (by rw [← hpv]; exact HM3.out.pc fi hlt)
                        have HQ1 := Lib.hid HM3.out.p1
                        have HQ2 := Lib.hid HM3.out.p2
                        have HTRR : Hid (IntRow wr (.slice tva k tvc) (upTo ((P.run T).2 fi) k)) := Lib.hid (by
                          have h := HM3.out.th.row fi hlt
                          rw [htv, if_neg (Nat.lt_irrefl _), if_pos rfl] at h
                          exact h)
                        have HKK : Hid (k ≤ tt) := Lib.hid (by omega)
                        clear htt htv hpv hk hks
                        go_upto_region 41 with fail
                        refine wp_region_gr (n := 12) [Fg.eq (.pointer (some ⟨pb, 2, none⟩)), Fg.eq (.slice (some ⟨g2, 0, none⟩) n n), Fg.eq (.int .i64 (fi : Int)), Fg.eq (.pointer (some ⟨g2, fi, none⟩)), Fg.eq (.slice tva k tvc), Fg.eq (.int .i64 (k : Int)), Fg.eq (.pointer (some ⟨pb, 1, none⟩)), Fg.eq (.slice (some ⟨g1, 0, none⟩) n n), Fg.eq (.int .i64 (fi : Int)), Fg.eq (.pointer (some ⟨g1, fi, none⟩)), Fg.eq (.slice pva tt pvc), Fg.eq (.int .i64 (tt : Int))] [170, 171, 172, 173, 174, 175, 176, 177, 178, 179, 180, 181] (by kernel_rfl) (by kernel_rfl) (by kernel_rfl) ?_ ?_
                        · intro L i o a w1 hi ho hA
                          have hgr : Gr wr w1 := (Gr.refl wr).drew.trans hA.gr
                          match i, hi with
                          | 0, _ =>
                            obtain rfl := Option.some.inj ho
                            exact gstep_val (r_fa_sced_Plan_2 rfl (show a.eval (.tmp 9) = .pointer (some ⟨pb, 0, none⟩) from hA.other 9 (by decide))) rfl
                          | 1, _ =>
                            obtain rfl := Option.some.inj ho
                            exact gstep_val (mk_loadL rfl (hA.fact 0 (hA.dep 0 (by kernel_rfl) (by decide))) (hgr.cell HQ2.out)) rfl
                          | 2, _ =>
                            obtain rfl := Option.some.inj ho
                            exact gstep_val (mk_move rfl (show a.eval (.tmp 20) = .int .i64 (fi : Int) from hA.other 20 (by decide))) rfl
                          | 3, _ =>
                            obtain rfl := Option.some.inj ho
                            exact gstep_val (mk_idxL0 rfl (hA.fact 1 (hA.dep 1 (by kernel_rfl) (by decide))) (hA.fact 2 (hA.dep 2 (by kernel_rfl) (by decide))) hlt) rfl
                          | 4, _ =>
                            obtain rfl := Option.some.inj ho
                            exact gstep_val (mk_loadS rfl (hA.fact 3 (hA.dep 3 (by kernel_rfl) (by decide))) (hgr.cell HPT0.out)) rfl
                          | 5, _ =>
                            obtain rfl := Option.some.inj ho
                            exact gstep_val (q_len rfl ⟨_, Tryd.underlying28⟩ (hA.fact 4 (hA.dep 4 (by kernel_rfl) (by decide)))) rfl
                          | 6, _ =>
                            obtain rfl := Option.some.inj ho
                            exact gstep_val (r_fa_sced_Plan_1 rfl (show a.eval (.tmp 9) = .pointer (some ⟨pb, 0, none⟩) from hA.other 9 (by decide))) rfl
                          | 7, _ =>
                            obtain rfl := Option.some.inj ho
                            exact gstep_val (mk_loadL rfl (hA.fact 6 (hA.dep 6 (by kernel_rfl) (by decide))) (hgr.cell HQ1.out)) rfl
                          | 8, _ =>
                            obtain rfl := Option.some.inj ho
                            exact gstep_val (mk_move rfl (show a.eval (.tmp 20) = .int .i64 (fi : Int) from hA.other 20 (by decide))) rfl
                          | 9, _ =>
                            obtain rfl := Option.some.inj ho
                            exact gstep_val (mk_idxL0 rfl (hA.fact 7 (hA.dep 7 (by kernel_rfl) (by decide))) (hA.fact 8 (hA.dep 8 (by kernel_rfl) (by decide))) hlt) rfl
                          | 10, _ =>
                            obtain rfl := Option.some.inj ho
                            exact gstep_val (mk_loadS rfl (hA.fact 9 (hA.dep 9 (by kernel_rfl) (by decide))) (hgr.cell HPV.out)) rfl
                          | 11, _ =>
                            obtain rfl := Option.some.inj ho
                            exact gstep_val (q_len rfl ⟨_, Tryd.underlying28⟩ (hA.fact 10 (hA.dep 10 (by kernel_rfl) (by decide)))) rfl
                        · intro vs w6 hg5' hv
                          have hg5 := (Gr.refl wr).drew.trans hg5'
                          have v5 : vs 5 = .int .i64 (k : Int) := hv 5 (by omega)
                          have v11 : vs 11 = .int .i64 (tt : Int) := hv 11 (by omega)
                          clear hv hg5'
                          simp only [putN, List.drop_succ_cons, List.drop_zero, List.getElem?_cons_succ, List.getElem?_cons_zero]
                          generalize vs 5 = z5 at *
                          generalize vs 11 = z11 at *
                          subst v5
                          subst v11
                          have HM4 := Lib.hid (HM3.out.gr' hg5)
                          by_cases hkt : k < tt
                          · have HKT := Lib.hid hkt
                            have j3 : (k : Int) < (tt : Int) := by omega
                            have HTR := Lib.hid (HTRR.out.gr hg5)
                            have HP2 : Hid (w6.cell? ⟨pb, 2, none⟩ = some (.slice (some ⟨g2, 0, none⟩) n n) ∧ ¬ (Value.slice tva k tvc).ownBlock = some pb) := Lib.hid ⟨HM4.out.p2, fun e => by have x1 := HM4.out.th.own fi pb hlt (by rw [HTV.out]; exact e); have x2 := HM4.out.inn.1.2; have x3 := HM4.out.MN.1; change pb < M at x2; omega⟩
                            have HPT : Hid (w6.cell? ⟨g2, fi, none⟩ = some (.slice tva k tvc) ∧ ¬ (Value.slice tva k tvc).ownBlock = some g2) := Lib.hid ⟨hg5.cell HPT0.out, fun e => by have x1 := HM4.out.th.own fi g2 hlt (by rw [HTV.out]; exact e); have x2 := HM4.out.th.gb; change g2 < N at x2; omega⟩
                            have HTO : Hid (∀ q, (Value.slice tva k tvc).ownBlock = some q → q < w6.heap.size) := Lib.hid (fun q e => Row.lt HTR.out e)
                            have HCL0 := Lib.hid (cellLen_at HPT0.out)
                            clear hkt hg5
                            go_upto_region 42 with fail
                            refine wp_region_k (n := 11) (fun u => Sav (fun g => (Value.slice tva k tvc).ownBlock = some g) w6 u ∧ IntRow u (Value.slice tva k tvc) (upTo ((P.run T).2 fi) k)) [Fg.eq (.pointer (some ⟨pb, 2, none⟩)), Fg.eq (.slice (some ⟨g2, 0, none⟩) n n), Fg.eq (.int .i64 (fi : Int)), Fg.eq (.pointer (some ⟨pb, 2, none⟩)), Fg.eq (.slice (some ⟨g2, 0, none⟩) n n), Fg.eq (.int .i64 (fi : Int)), Fg.eq (.pointer (some ⟨g2, fi, none⟩)), Fg.eq (.slice tva k tvc), Fg.one w6.heap.size (-1), Fg.irowA w6.heap.size (Value.slice tva k tvc) (upTo ((P.run T).2 fi) k ++ [(-1 : Int)]), Fg.eq (.pointer (some ⟨g2, fi, none⟩))] [183, 184, 185, 186, 187, 188, 189, 190, 191, 192, 193] (⟨.of_gr (Gr.refl w6).drew, HTR.out.gr (Gr.refl w6).drew⟩) (by kernel_rfl) (by kernel_rfl) (by kernel_rfl) ?_ ?_
                            · intro L i o a w1 hi ho hA
                              have hI := hA.gr
                              match i, hi with
                              | 0, _ =>
                                obtain rfl := Option.some.inj ho
                                exact kstep_val hA (r_fa_sced_Plan_2 rfl (show a.eval (.tmp 9) = .pointer (some ⟨pb, 0, none⟩) from hA.other 9 (by decide))) rfl
                              | 1, _ =>
                                obtain rfl := Option.some.inj ho
                                exact kstep_val hA (mk_loadL rfl (hA.fact 0 (hA.dep 0 (by kernel_rfl) (by decide))) (hI.1.cell HP2.out.1 HP2.out.2)) rfl
                              | 2, _ =>
                                obtain rfl := Option.some.inj ho
                                exact kstep_val hA (mk_move rfl (show a.eval (.tmp 20) = .int .i64 (fi : Int) from hA.other 20 (by decide))) rfl
                              | 3, _ =>
                                obtain rfl := Option.some.inj ho
                                exact kstep_val hA (r_fa_sced_Plan_2 rfl (show a.eval (.tmp 9) = .pointer (some ⟨pb, 0, none⟩) from hA.other 9 (by decide))) rfl
                              | 4, _ =>
                                obtain rfl := Option.some.inj ho
                                exact kstep_val hA (mk_loadL rfl (hA.fact 3 (hA.dep 3 (by kernel_rfl) (by decide))) (hI.1.cell HP2.out.1 HP2.out.2)) rfl
                              | 5, _ =>
                                obtain rfl := Option.some.inj ho
                                exact kstep_val hA (mk_move rfl (show a.eval (.tmp 20) = .int .i64 (fi : Int) from hA.other 20 (by decide))) rfl
                              | 6, _ =>
                                obtain rfl := Option.some.inj ho
                                exact kstep_val hA (mk_idxL0 rfl (hA.fact 4 (hA.dep 4 (by kernel_rfl) (by decide))) (hA.fact 5 (hA.dep 5 (by kernel_rfl) (by decide))) hlt) rfl
                              | 7, _ =>
                                obtain rfl := Option.some.inj ho
                                exact kstep_val hA (mk_loadS rfl (hA.fact 6 (hA.dep 6 (by kernel_rfl) (by decide))) (hI.1.cell HPT.out.1 HPT.out.2)) rfl
                              | 8, _ =>
                                obtain rfl := Option.some.inj ho
                                exact kstep_gr hA (mk_slice1 rfl rfl) ((Gr.refl _).alloc _) ⟨hI.1.then (.of_gr ((Gr.refl _).alloc _)), hI.2.gr ((Gr.refl _).alloc _)⟩ ⟨_, rfl, hI.1.size, by simp⟩
                              | 9, _ =>
                                obtain rfl := Option.some.inj ho
                                obtain ⟨g, hv, hge, hcg⟩ := (hA.fact 8 (hA.dep 8 (by kernel_rfl) (by decide)))
                                obtain ⟨v', w', hr, hrow, hgrow, hown, hold⟩ := hI.2.app (g := g) (c := 1) hcg (by rw [upTo_len]; have := HKT.out; have := HTT100.out; omega)
                                have sv : Sav (fun g => (Value.slice tva k tvc).ownBlock = some g) w1 w' := .of_grown hgrow fun _ h => h
                                refine kstep_keep hA (mk_app rfl (hA.fact 7 (hA.dep 7 (by kernel_rfl) (by decide))) hv hr) ⟨hI.1.then sv, hold⟩ ⟨hrow, fun q hq => (hown q hq).imp id (Nat.le_trans hI.1.size)⟩ ?_
                                intro i hi u hu
                                match i, hi, hu with
                                | 0, _, hu => exact hu
                                | 1, _, hu => exact hu
                                | 2, _, hu => exact hu
                                | 3, _, hu => exact hu
                                | 4, _, hu => exact hu
                                | 5, _, hu => exact hu
                                | 6, _, hu => exact hu
                                | 7, _, hu => exact hu
                                | 10, _, hu => exact hu
                                | 8, _, hu => obtain ⟨g', h0, h1, h2⟩ := hu; exact ⟨g', h0, h1, sv.cell h2 (fun e => by have := HTO.out g' e; omega)⟩
                                | 9, hi, _ => exact absurd rfl hi
                                | i + 11, _, hu => trivial
                              | 10, _ =>
                                obtain rfl := Option.some.inj ho
                                exact kstep_val hA (mk_idxL0 rfl (hA.fact 1 (hA.dep 1 (by kernel_rfl) (by decide))) (hA.fact 2 (hA.dep 2 (by kernel_rfl) (by decide))) hlt) rfl
                            · intro vs w8 hI hv
                              obtain ⟨hrow, hown⟩ := hv 9 (by omega)
                              have hrow' : IntRow w8 (vs 9) (upTo ((P.run T).2 fi) k ++ [(-1 : Int)]) := hrow
                              have hown' : ∀ g, (vs 9).ownBlock = some g → (Value.slice tva k tvc).ownBlock = some g ∨ w6.heap.size ≤ g := hown
                              have vlast : vs 10 = .pointer (some ⟨g2, fi, none⟩) := hv 10 (by omega)
                              have hsv := hI.1
                              clear hv hrow hown hI
                              simp only [putN, List.drop_succ_cons, List.drop_zero, List.getElem?_cons_succ, List.getElem?_cons_zero]
                              generalize vs 9 = z8 at *
                              generalize vs 10 = z9 at *
                              subst vlast
                              obtain ⟨ra, rc, er⟩ := IntRow.shape hrow'
                              rw [show (upTo ((P.run T).2 fi) k ++ [(-1 : Int)]).length = k + 1 from by rw [List.length_append, upTo_len]; rfl] at er
                              subst er
                              obtain ⟨d0, d1, hm⟩ := HM4.out.thru hlt hrow' (by rw [HTV.out]; exact hsv) (by rw [HTV.out]; exact hown')
                              rw [HTV.out] at d0
                              have HCL : Hid (cellLen (w8.setCell ⟨g2, fi, none⟩ (.slice ra (k + 1) rc)) ⟨g2, fi, none⟩ = k + 1) := Lib.hid (cellLen_at (World.cell?_setCell_same _ _ _ d0))
                              have HM5 : Hid (MkS w1 (w8.setCell ⟨g2, fi, none⟩ (.slice ra (k + 1) rc)) ⟨pb, g1, g2, g3, g4⟩ M N n pv (fun i => upTo (P.D i) (P.tot i)) sv (upTo P.best T) (updA tv3 fi (.slice ra (k + 1) rc)) (fun i => if i < fi then upTo ((P.run T).2 i) (P.tot i) else if i = fi then upTo ((P.run T).2 i) (k + 1) else upTo ((P.run T).2 i) ((P.run T).1 i)) (fun i => (cumN (F i).cs T : Int)) (fun i => ((P.run T).1 i : Int))) := Lib.hid (hm.cong rfl (fun i _ => by
                                by_cases e : i = fi
                                · subst e
                                  rw [updA_at, if_neg (Nat.lt_irrefl _), if_pos rfl, ← upTo_succ, (HSI.out.2 i k).2 HKS.out]
                                · rw [updA_ne _ _ e, if_neg e, if_neg e]) (fun _ _ => rfl) (fun _ _ => rfl))
                              clear hrow' hown' hsv hm
                              go_wp2
                              go_roundw
                              case measure => rw [HCL.out, HCL0.out]; have := HKT.out; have := HTT.out; omega
                              case rel => exact ⟨k + 1, _, ⟨by have := HKT.out; have := HTT.out; omega, by have := HKS.out; omega⟩, HM5⟩
                          · have j3 : ¬ (k : Int) < (tt : Int) := by omega
                            have HM5 : Hid (MkS w1 w6 ⟨pb, g1, g2, g3, g4⟩ M N n pv (fun i => upTo (P.D i) (P.tot i)) sv (upTo P.best T) tv3 (fun i => if i < fi + 1 then upTo ((P.run T).2 i) (P.tot i) else upTo ((P.run T).2 i) ((P.run T).1 i)) (fun i => (cumN (F i).cs T : Int)) (fun i => ((P.run T).1 i : Int))) := Lib.hid (HM4.out.cong rfl (fun i _ => by
                              rcases Nat.lt_trichotomy i fi with e | e | e
                              · rw [if_pos e, if_pos (by omega)]
                              · subst e
                                rw [if_neg (Nat.lt_irrefl _), if_pos rfl, if_pos (by omega), ← HTT.out, show k = tt from by have := HKK.out; omega]
                              · rw [if_neg (by omega), if_neg (by omega), if_neg (by omega)]) (fun _ _ => rfl) (fun _ _ => rfl))
                            clear hkt hg5
                            go_wp2
                            go_roundw
                            case measure => simp [intOf]; omega
                            case rel => exact ⟨fi + 1, tv3, by omega, by go_num, HM5⟩
                    · obtain rfl : n = fi := by omega
                      have j2 : ¬ (n : Int) < (n : Int) := by omega
                      obtain ⟨sa, sc, es⟩ := IntRow.shape HM2.out.row
                      rw [upTo_len] at es
                      subst es
                      have HRX := Lib.hid (HRB.out.1.gr HM2.out.gr)
                      have c0 := HM2.out.p0
                      have c1 := HM2.out.p1
                      have c2 := HM2.out.p2
                      have r0 := HRX.out.2.1 0 (by omega)
                      have r1 := HRX.out.2.1 1 (by omega)
                      have r2 := HRX.out.2.1 2 (by omega)
                      have f0 := HRX.out.2.2 0 (by omega)
                      have f1 := HRX.out.2.2 1 (by omega)
                      have f2 := HRX.out.2.2 2 (by omega)
                      go_wp2
                      have hrl : rb < w1.heap.size := HRB.out.1.1.lt
                      have hM := HM2.out.inn.1
                      change w1.heap.size ≤ pb ∧ pb < M at hM
                      have hMN := HM2.out.MN
                      have hk : Sav (fun q => q = rb) wr (((wr.setCell ⟨rb, 0, none⟩ (.slice sa T sc)).setCell ⟨rb, 1, none⟩ (.slice (some ⟨g1, 0, none⟩) n n)).setCell ⟨rb, 2, none⟩ (.slice (some ⟨g2, 0, none⟩) n n)) := ((Sav.set rb 0 _).then (.set rb 1 _)).then (.set rb 2 _)
                      have hin := HM2.out.inn
                      refine bodyPost_ret (v := .tuple #[.agg #[.slice sa T sc, .slice (some ⟨g1, 0, none⟩) n n, .slice (some ⟨g2, 0, none⟩) n n], .nilIface]) (by simp [results, Tryd.results7, go_sem, r0, r1, r2]) rfl ?_
                      refine ⟨.slice sa T sc, g1, g2, pv, tv2, by rw [HPn.out.1], by rw [HPn.out.2.1]; exact Row.sav HM2.out.row hk (fun g e e2 => by have := (HM2.out.ro g e).1; omega), fun i hi => ?_, fun i hi => ?_, Sav.gr (HGW.out.trans HM2.out.gr) hk (fun q e => by have := HRB.out.2; omega)⟩
                      · rw [HPn.out.1] at hi
                        exact ⟨hk.cell (HM2.out.pc i hi) (fun e => by have := hin.2.1.1; change w1.heap.size ≤ g1 at this; change g1 = rb at e; omega), (HM2.out.pr i hi).sav hk (fun g e e2 => by have := HM2.out.po i g hi e; omega)⟩
                      · rw [HPn.out.1] at hi
                        have hr := HM2.out.th.row i hi
                        rw [if_pos hi] at hr
                        rw [HPn.out.2.1]
                        exact ⟨hk.cell (HM2.out.th.cell i hi) (fun e => by have := hin.2.2.1.1; change w1.heap.size ≤ g2 at this; change g2 = rb at e; omega), hr.ints.sav hk (fun g e e2 => by have := HM2.out.th.own i g hi e; omega)⟩
end Go.Proofs.YtfdmmfjheiiiiaaDoor

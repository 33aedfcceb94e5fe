/-
  The reference's Meant, walked.
-/
import Derived.Test.YthkccohigoejgaaDoorFltMC
import Derived.Test.YthkccohigoejgaaDoorFltRH
import Derived.LoopTactic
namespace Go.Proofs.YthkccohigoejgaaDoor
open Go Go.RowKit

/-- What a filter's block says of it. -/
def RK (S : Nat → Prop) (d : Nat) (w : World) (k : ByteArray) (i : Nat) (lo hi : Int) (kv : Value) : Flt → Prop
  | .any => k = kAny
  | .test j a c => k = kTest ∧ i = j ∧ lo = a ∧ hi = c
  | .has j a => k = kHas ∧ i = j ∧ lo = a ∧ 0 ≤ a ∧ a ≤ 1000000000
  | .not g => k = kNot ∧ ∃ u, PtRow w kv [u] ∧ RFl S d w u g
  | .many l o => k = andOr o ∧ ∃ vs, PtRow w kv vs ∧ vs.length = l.length ∧ 0 < l.length ∧ l.length ≤ 2001 ∧ ∀ i, i < l.length → RFl S d w (vs.getD i (.pointer none)) (l.getD i .any)
theorem RFl.head {S : Nat → Prop} {d : Nat} {w : World} {v : Value} {f : Flt} (h : RFl S (d + 1) w v f) : ∃ b k i lo hi kv, v = .pointer (some ⟨b, 0, none⟩) ∧ i < 5 ∧ RB w b k (i : Nat) lo hi kv ∧ RK S d w k i lo hi kv f := by
  obtain ⟨b, h1, h2, h3, h4⟩ := h
  cases f with
  | any => exact ⟨b, _, 0, _, _, _, h1, by decide, h4, rfl⟩
  | test i lo hi => exact ⟨b, _, i, _, _, _, h1, h4.2.1, h4.1, rfl, rfl, rfl, rfl⟩
  | has i lo => exact ⟨b, _, i, _, _, _, h1, h4.2.1, h4.1, rfl, rfl, rfl, h4.2.2⟩
  | not g =>
    obtain ⟨s, u, k1, k2, k3, k4⟩ := h4
    exact ⟨b, _, 0, _, _, _, h1, by decide, k1, rfl, u, k2, k4⟩
  | many l o =>
    obtain ⟨s, vs, k1, k2, k3, k4, k5, k6, k7⟩ := h4
    exact ⟨b, _, 0, _, _, _, h1, by decide, k1, rfl, vs, k2, k4, k5, k6, k7⟩
def Fg.five (x : Itm) : Fg := ⟨fun v u => ∃ g, v = .slice (some ⟨g, 0, none⟩) 5 5 ∧ HB u g #[.int .i64 x.t, .int .i64 x.len, .int .i64 x.flow, .int .i64 x.band, .int .i64 x.mark] 3, fun _ _ _ ⟨g, h1, h2⟩ k => ⟨g, h1, h2.gr k⟩⟩
def Fg.fiveA (x : Itm) (i : Nat) : Fg := ⟨fun v u => ∃ g, v = .pointer (some ⟨g, i, none⟩) ∧ HB u g #[.int .i64 x.t, .int .i64 x.len, .int .i64 x.flow, .int .i64 x.band, .int .i64 x.mark] 3, fun _ _ _ ⟨g, h1, h2⟩ k => ⟨g, h1, h2.gr k⟩⟩
theorem five_at (x : Itm) {i : Nat} (h : i < 5) : (#[.int .i64 x.t, .int .i64 x.len, .int .i64 x.flow, .int .i64 x.band, .int .i64 x.mark] : Array Value)[i]? = some (.int .i64 (x.fld i)) := by
  match i, h with
  | 0, _ => rfl
  | 1, _ => rfl
  | 2, _ => rfl
  | 3, _ => rfl
  | 4, _ => rfl
section
variable {ev : Operand → Value} {o : Oper} {w : World} {x y : Operand} {u : Value}
theorem n_fi0 {q : Nat} (ho : o.op = .fieldAddr 23 x 0) (h : ev x = .pointer (some ⟨q, 0, none⟩)) : (execOp ev o).run Tryd.prog w = .ok (.value (.pointer (some ⟨q, 0, none⟩))) w := by simp [execOp, ho, h, go_sem]
theorem n_fi1 {q : Nat} (ho : o.op = .fieldAddr 23 x 1) (h : ev x = .pointer (some ⟨q, 0, none⟩)) : (execOp ev o).run Tryd.prog w = .ok (.value (.pointer (some ⟨q, 1, none⟩))) w := by simp [execOp, ho, h, go_sem]
theorem n_fi2 {q : Nat} (ho : o.op = .fieldAddr 23 x 2) (h : ev x = .pointer (some ⟨q, 0, none⟩)) : (execOp ev o).run Tryd.prog w = .ok (.value (.pointer (some ⟨q, 2, none⟩))) w := by simp [execOp, ho, h, go_sem]
theorem n_fi3 {q : Nat} (ho : o.op = .fieldAddr 23 x 3) (h : ev x = .pointer (some ⟨q, 0, none⟩)) : (execOp ev o).run Tryd.prog w = .ok (.value (.pointer (some ⟨q, 3, none⟩))) w := by simp [execOp, ho, h, go_sem]
theorem n_fi4 {q : Nat} (ho : o.op = .fieldAddr 23 x 4) (h : ev x = .pointer (some ⟨q, 0, none⟩)) : (execOp ev o).run Tryd.prog w = .ok (.value (.pointer (some ⟨q, 4, none⟩))) w := by simp [execOp, ho, h, go_sem]
theorem n_nil {ad : Addr} (ho : o.op = .nilCheck x) (h : ev x = .pointer (some ad)) : (execOp ev o).run Tryd.prog w = .ok (.value (.pointer (some ad))) w := by simp [execOp, ho, h, go_sem]
theorem n_loadI {ad : Addr} {n : Int} (ho : o.op = .load 3 x) (h : ev x = .pointer (some ad)) (hc : w.cell? ad = some (.int .i64 n)) : (execOp ev o).run Tryd.prog w = .ok (.value (.int .i64 n)) w := by simp [execOp, ho, h, hc, go_sem]
theorem n_build {x0 x1 x2 x3 x4 : Operand} {a b c d e : Int} (ho : o.op = .buildSlice 55 5 #[(0, x0), (1, x1), (2, x2), (3, x3), (4, x4)]) (h0 : ev x0 = .int .i64 a) (h1 : ev x1 = .int .i64 b) (h2 : ev x2 = .int .i64 c) (h3 : ev x3 = .int .i64 d) (h4 : ev x4 = .int .i64 e) :
    (execOp ev o).run Tryd.prog w = .ok (.value (.slice (some ⟨w.heap.size, 0, none⟩) 5 5)) (w.alloc (.cells #[.int .i64 a, .int .i64 b, .int .i64 c, .int .i64 d, .int .i64 e] 3)) := by simp [execOp, ho, h0, h1, h2, h3, h4, go_sem]
theorem n_fa1 {q : Nat} (ho : o.op = .fieldAddr 62 x 1) (h : ev x = .pointer (some ⟨q, 0, none⟩)) : (execOp ev o).run Tryd.prog w = .ok (.value (.pointer (some ⟨q, 1, none⟩))) w := by simp [execOp, ho, h, go_sem]
theorem n_fa4 {q : Nat} (ho : o.op = .fieldAddr 62 x 4) (h : ev x = .pointer (some ⟨q, 0, none⟩)) : (execOp ev o).run Tryd.prog w = .ok (.value (.pointer (some ⟨q, 4, none⟩))) w := by simp [execOp, ho, h, go_sem]
theorem n_idx {g n c i : Nat} (ho : o.op = .indexAddr 55 x y) (h : ev x = .slice (some ⟨g, 0, none⟩) n c) (k : ev y = .int .i64 (i : Int)) (hi : i < n) : (execOp ev o).run Tryd.prog w = .ok (.value (.pointer (some ⟨g, i, none⟩))) w := by
  have h0 : (0 : Int) ≤ (i : Int) := by omega
  have h1 : (i : Int) < (n : Int) := by omega
  simp [execOp, ho, h, k, h0, h1, go_sem]
theorem n_loadK {ad : Addr} {a : Option Addr} {n c : Nat} (ho : o.op = .load 60 x) (h : ev x = .pointer (some ad)) (hc : w.cell? ad = some (.slice a n c)) : (execOp ev o).run Tryd.prog w = .ok (.value (.slice a n c)) w := by simp [execOp, ho, h, hc, go_sem]
theorem n_idxK {g off n c : Nat} (ho : o.op = .indexAddr 60 x y) (h : ev x = .slice (some ⟨g, off, none⟩) (n + 1) c) (k : ev y = .int .i64 0) : (execOp ev o).run Tryd.prog w = .ok (.value (.pointer (some ⟨g, off, none⟩))) w := by
  have h1 : (0 : Int) < (n : Int) + 1 := by omega
  simp [execOp, ho, h, k, h1, go_sem]
theorem n_loadP {ad : Addr} {v : Option Addr} (ho : o.op = .load 24 x) (h : ev x = .pointer (some ad)) (hc : w.cell? ad = some (.pointer v)) : (execOp ev o).run Tryd.prog w = .ok (.value (.pointer v)) w := by simp [execOp, ho, h, hc, go_sem]
theorem n_call {v u : Value} (ho : o.op = .call { callee := .value (.func 8), args := #[x, y], argTypes := #[24, 23] }) (hf : ev (.func 8) = .func (.func 8) #[] #[]) (h : ev x = v) (k : ev y = u) : (execOp ev o).run Tryd.prog w = .ok (.enter 8 #[v, u]) w := by
  simp [execOp, ho, hf, h, k, resolve, invoke, go_sem]
end
set_option maxRecDepth 100000 in
set_option maxHeartbeats 8000000 in
theorem rmean_succ (x : Itm) {S : Nat → Prop} {d : Nat} {w : World} {v : Value} {f : Flt}
    (IH : ∀ {v : Value} {f : Flt}, RFl S d w v f → ∀ w', Gr w w' → Calls Tryd.prog 8 #[v, .agg #[.int .i64 x.t, .int .i64 x.len, .int .i64 x.flow, .int .i64 x.band, .int .i64 x.mark]] w' fun E w2 => E = .returned (.bool (meantF x d f)) ∧ Gr w' w2)
    (h : RFl S (d + 1) w v f) (w' : World) (hw : Gr w w') : Calls Tryd.prog 8 #[v, .agg #[.int .i64 x.t, .int .i64 x.len, .int .i64 x.flow, .int .i64 x.band, .int .i64 x.mark]] w' fun E w2 => E = .returned (.bool (meantF x (d + 1) f)) ∧ Gr w' w2 := by
  obtain ⟨b, k, i, lo, hi, kv, rfl, hi5, hrb, hrk⟩ := h.head
  have HRB := Lib.hid (hrb.gr hw)
  have HRK := Lib.hid hrk
  have HI5 := Lib.hid hi5
  have HW := Lib.hid hw
  clear h hrb hrk hi5 hw
  go_enter Tryd.func8, Tryd.ntmps8
  go_upto_region 1 with fail
  obtain ⟨q, hq⟩ : ∃ q, q = w'.heap.size := ⟨_, rfl⟩
  obtain ⟨w1, hw1⟩ : ∃ w1, w1 = w'.alloc (.cells #[.int .i64 x.t, .int .i64 x.len, .int .i64 x.flow, .int .i64 x.band, .int .i64 x.mark] 23) := ⟨_, rfl⟩
  have HW1 : Hid (HB w1 q #[.int .i64 x.t, .int .i64 x.len, .int .i64 x.flow, .int .i64 x.band, .int .i64 x.mark] 23 ∧ Gr w' w1) := Lib.hid (by
    rw [hw1, hq]
    exact ⟨HB.new _ _ _, (Gr.refl w').alloc _⟩)
  rw [← hw1, ← hq]
  clear hw1 hq
  refine wp_region_gr (n := 17) [Fg.eq (.pointer (some ⟨q, 0, none⟩)), Fg.eq (.int .i64 x.t), Fg.eq (.pointer (some ⟨q, 1, none⟩)), Fg.eq (.int .i64 x.len), Fg.eq (.pointer (some ⟨q, 2, none⟩)), Fg.eq (.int .i64 x.flow), Fg.eq (.pointer (some ⟨q, 3, none⟩)), Fg.eq (.int .i64 x.band), Fg.eq (.pointer (some ⟨q, 4, none⟩)), Fg.eq (.int .i64 x.mark), Fg.five x, Fg.eq (.pointer (some ⟨b, 0, none⟩)), Fg.eq (.pointer (some ⟨b, 0, none⟩)), Fg.eq (.pointer (some ⟨b, 1, none⟩)), Fg.eq (.int .i64 (i : Int)), Fg.fiveA x i, Fg.eq (.int .i64 (x.fld i))] [10, 11, 12, 13, 14, 15, 16, 17, 18, 19, 20, 21, 22, 23, 24, 25, 26] (by kernel_rfl) (by kernel_rfl) (by kernel_rfl) ?_ ?_
  · intro L i' o' ac w1' hi' ho hA
    have hgr : Gr w1 w1' := (Gr.refl w1).drew.trans hA.gr
    match i', hi' with
    | 0, _ =>
      obtain rfl := Option.some.inj ho
      exact gstep_val (n_fi0 rfl (show ac.eval (.tmp 3) = .pointer (some ⟨q, 0, none⟩) from hA.other 3 (by decide))) rfl
    | 1, _ =>
      obtain rfl := Option.some.inj ho
      exact gstep_val (n_loadI rfl (hA.fact 0 (hA.dep 0 (by kernel_rfl) (by decide))) ((HW1.out.1.gr hgr).c 0 rfl)) rfl
    | 2, _ =>
      obtain rfl := Option.some.inj ho
      exact gstep_val (n_fi1 rfl (show ac.eval (.tmp 3) = .pointer (some ⟨q, 0, none⟩) from hA.other 3 (by decide))) rfl
    | 3, _ =>
      obtain rfl := Option.some.inj ho
      exact gstep_val (n_loadI rfl (hA.fact 2 (hA.dep 2 (by kernel_rfl) (by decide))) ((HW1.out.1.gr hgr).c 1 rfl)) rfl
    | 4, _ =>
      obtain rfl := Option.some.inj ho
      exact gstep_val (n_fi2 rfl (show ac.eval (.tmp 3) = .pointer (some ⟨q, 0, none⟩) from hA.other 3 (by decide))) rfl
    | 5, _ =>
      obtain rfl := Option.some.inj ho
      exact gstep_val (n_loadI rfl (hA.fact 4 (hA.dep 4 (by kernel_rfl) (by decide))) ((HW1.out.1.gr hgr).c 2 rfl)) rfl
    | 6, _ =>
      obtain rfl := Option.some.inj ho
      exact gstep_val (n_fi3 rfl (show ac.eval (.tmp 3) = .pointer (some ⟨q, 0, none⟩) from hA.other 3 (by decide))) rfl
    | 7, _ =>
      obtain rfl := Option.some.inj ho
      exact gstep_val (n_loadI rfl (hA.fact 6 (hA.dep 6 (by kernel_rfl) (by decide))) ((HW1.out.1.gr hgr).c 3 rfl)) rfl
    | 8, _ =>
      obtain rfl := Option.some.inj ho
      exact gstep_val (n_fi4 rfl (show ac.eval (.tmp 3) = .pointer (some ⟨q, 0, none⟩) from hA.other 3 (by decide))) rfl
    | 9, _ =>
      obtain rfl := Option.some.inj ho
      exact gstep_val (n_loadI rfl (hA.fact 8 (hA.dep 8 (by kernel_rfl) (by decide))) ((HW1.out.1.gr hgr).c 4 rfl)) rfl
    | 10, _ =>
      obtain rfl := Option.some.inj ho
      exact gstep_new (n_build rfl (hA.fact 1 (hA.dep 1 (by kernel_rfl) (by decide))) (hA.fact 3 (hA.dep 3 (by kernel_rfl) (by decide))) (hA.fact 5 (hA.dep 5 (by kernel_rfl) (by decide))) (hA.fact 7 (hA.dep 7 (by kernel_rfl) (by decide))) (hA.fact 9 (hA.dep 9 (by kernel_rfl) (by decide)))) ((Gr.refl _).alloc _) ⟨_, rfl, HB.new _ _ _⟩
    | 11, _ =>
      obtain rfl := Option.some.inj ho
      exact gstep_val (m_move rfl (show ac.eval (.tmp 0) = .pointer (some ⟨b, 0, none⟩) from hA.other 0 (by decide))) rfl
    | 12, _ =>
      obtain rfl := Option.some.inj ho
      exact gstep_val (n_nil rfl (hA.fact 11 (hA.dep 11 (by kernel_rfl) (by decide)))) rfl
    | 13, _ =>
      obtain rfl := Option.some.inj ho
      exact gstep_val (n_fa1 rfl (hA.fact 12 (hA.dep 12 (by kernel_rfl) (by decide)))) rfl
    | 14, _ =>
      obtain rfl := Option.some.inj ho
      exact gstep_val (n_loadI rfl (hA.fact 13 (hA.dep 13 (by kernel_rfl) (by decide))) (((HRB.out.gr HW1.out.2).gr hgr).c1)) rfl
    | 15, _ =>
      obtain rfl := Option.some.inj ho
      obtain ⟨gz, hz1, hz2⟩ := (hA.fact 10 (hA.dep 10 (by kernel_rfl) (by decide)))
      exact gstep_val (n_idx rfl hz1 (hA.fact 14 (hA.dep 14 (by kernel_rfl) (by decide))) HI5.out) ⟨gz, rfl, hz2⟩
    | 16, _ =>
      obtain rfl := Option.some.inj ho
      obtain ⟨gz, hz1, hz2⟩ := (hA.fact 15 (hA.dep 15 (by kernel_rfl) (by decide)))
      exact gstep_val (n_loadI rfl hz1 (hz2.c i (five_at x HI5.out))) rfl
    | k + 17, hk => exact absurd (show k + 17 < 17 from hk) (by omega)
  · intro vs5 w5 hg5 hv
    have HG5 := Lib.hid ((Gr.refl w1).drew.trans hg5)
    have v16 : vs5 16 = .int .i64 (x.fld i) := hv 16 (by omega)
    clear hv hg5
    simp only [putN, List.drop_succ_cons, List.drop_zero, List.getElem?_cons_succ, List.getElem?_cons_zero, v16]
    clear v16
    generalize vs5 0 = z0
    generalize vs5 1 = z1
    generalize vs5 2 = z2
    generalize vs5 3 = z3
    generalize vs5 4 = z4
    generalize vs5 5 = z5
    generalize vs5 6 = z6
    generalize vs5 7 = z7
    generalize vs5 8 = z8
    generalize vs5 9 = z9
    generalize vs5 10 = z10
    generalize vs5 11 = z11
    generalize vs5 12 = z12
    generalize vs5 13 = z13
    generalize vs5 14 = z14
    generalize vs5 15 = z15
    have HGA := Lib.hid (HW1.out.2.trans HG5.out)
    have HRB5 := Lib.hid (HRB.out.gr HGA.out)
    have k0 := HRB5.out.c0
    have k2 := HRB5.out.c2
    have k3 := HRB5.out.c3
    have k4 := HRB5.out.c4
    obtain ⟨v, hv⟩ : ∃ v, v = x.fld i := ⟨_, rfl⟩
    rw [← hv]
    have HV := Lib.hid hv
    clear hv
    cases f with
    | any =>
      obtain rfl : k = ⟨#[97, 110, 121]⟩ := HRK.out
      go_wp2
      go_ret
      exact ⟨rfl, HGA.out⟩
    | test j a c =>
      obtain ⟨rfl, rfl, rfl, rfl⟩ := HRK.out
      rw [show kTest = ⟨#[116, 101, 115, 116]⟩ from rfl] at k0
      have HMT : Hid (meantF x (d + 1) (.test i lo hi) = (decide (lo ≤ v) && decide (v ≤ hi))) := Lib.hid (by rw [HV.out]; rfl)
      by_cases h1 : lo ≤ v
      · by_cases h2 : v ≤ hi
        · go_wp2
          go_ret
          exact ⟨by rw [HMT.out]; simp [h1, h2] <;> omega, HGA.out⟩
        · go_wp2
          go_ret
          exact ⟨by rw [HMT.out]; simp [h1, h2] <;> omega, HGA.out⟩
      · go_wp2
        go_ret
        exact ⟨by rw [HMT.out]; simp <;> omega, HGA.out⟩
    | has j a =>
      obtain ⟨rfl, rfl, rfl, ha0, ha1⟩ := HRK.out
      rw [show kHas = ⟨#[104, 97, 115]⟩ from rfl] at k0
      obtain ⟨M, rfl⟩ : ∃ M : Nat, lo = (M : Int) := ⟨lo.toNat, by omega⟩
      have HMT : Hid (meantF x (d + 1) (.has i (M : Int)) = hasB v (M : Int)) := Lib.hid (by rw [HV.out]; rfl)
      have HM : Hid (M < 2147483648) := Lib.hid (by omega)
      clear ha0
      go_wp2
      go_loopw [6] (fun s6 wr => ∃ k : Nat, Hid (k ≤ 31) ∧ s6 = .int .i64 ((2 ^ k : Nat) : Int) ∧ Hid (BitsTo v M k) ∧ Hid (Gr w5 wr)) (fun s _ => 4294967296 - (intOf s).toNat)
      case atStart => exact ⟨0, Lib.hid (by decide), rfl, Lib.hid (BitsTo.zero v M), Lib.hid (Gr.refl _)⟩
      case round =>
        obtain ⟨k, hk, rfl, HB1, HG6⟩ := hrel
        have k2' := HG6.out.cell k2
        obtain ⟨P, hP⟩ : ∃ P : Nat, P = 2 ^ k := ⟨_, rfl⟩
        have hP1 : 1 ≤ P := by rw [hP]; exact Nat.one_le_two_pow
        have hP2 : P ≤ 2147483648 := by rw [hP]; exact Nat.pow_le_pow_right (by decide) hk.out
        rw [← hP]
        have HP := Lib.hid hP
        clear hP
        have p1 : (1 : Int) ≤ (P : Int) := by omega
        have p2 : (P : Int) ≤ 2147483648 := by omega
        by_cases hlt : P ≤ M
        · have hlt' : (P : Int) ≤ (M : Int) := by omega
          have HPM := Lib.hid hlt
          have hq : (M : Int).tdiv (P : Int) = ((M / P : Nat) : Int) := rfl
          obtain ⟨Z, hZ⟩ : ∃ Z, Z = M / P := ⟨_, rfl⟩
          rw [← hZ] at hq
          have hz0 : (0 : Int) ≤ (Z : Int) := by omega
          have hz2 : Z ≤ M := by rw [hZ]; exact Nat.div_le_self _ _
          have hz1 : (Z : Int) ≤ 1000000000 := by omega
          have hr : (Z : Int).tmod 2 = ((Z % 2 : Nat) : Int) := rfl
          have HZ := Lib.hid hZ
          clear hZ
          have hK31 : Hid (k + 1 ≤ 31) := Lib.hid (by
            rcases Nat.lt_or_ge k 31 with h | h
            · omega
            · have h9 := HP.out; have h8 := Nat.pow_le_pow_right (n := 2) (by decide) h; have := HM.out; rw [← h9] at h8; omega)
          have HP2 : Hid (P * 2 = 2 ^ (k + 1)) := Lib.hid (by rw [HP.out, Nat.pow_succ])
          by_cases hz : Z % 2 = 1
          · rw [hz] at hr
            have HZ1 : Hid (M / 2 ^ k % 2 = 1) := Lib.hid (by rw [← HP.out, ← HZ.out]; exact hz)
            clear hz hlt
            obtain ⟨c, hc⟩ : ∃ c, c = bits BinOp.and IntKind.i64 v (P : Int) := ⟨_, rfl⟩
            have hc' := hc.symm
            by_cases hc0 : c = 0
            · have HBZ : Hid (hasB v (M : Int) = false) := Lib.hid (has_not HZ1.out (by rw [← HP.out, ← hc, hc0]) HM.out)
              rw [hc0] at hc'
              clear hc hc0
              go_wp2
              go_ret
              exact ⟨by rw [HMT.out, HBZ.out]; rfl, HGA.out.trans HG6.out⟩
            · have HBN : Hid (BitsTo v M (k + 1)) := Lib.hid (HB1.out.next (.inr (by rw [← HP.out, ← hc]; exact hc0)) (by rw [← HP.out]; have := HPM.out; have := HM.out; omega))
              clear hc
              go_wp2
              go_roundw
              case rel => exact ⟨k + 1, hK31, by rw [← HP2.out]; go_num, HBN, HG6⟩
              case measure => simp [intOf]; omega
          · have hz' : Z % 2 = 0 := by omega
            have HBN : Hid (BitsTo v M (k + 1)) := Lib.hid (HB1.out.next (.inl (by rw [← HP.out, ← HZ.out]; exact hz)) (by rw [← HP.out]; have := HPM.out; have := HM.out; omega))
            rw [hz'] at hr
            clear hz hz' hlt
            go_wp2
            go_roundw
            case rel => exact ⟨k + 1, hK31, by rw [← HP2.out]; go_num, HBN, HG6⟩
            case measure => simp [intOf]; omega
        · have hlt' : ¬ (P : Int) ≤ (M : Int) := by omega
          have HBD : Hid (hasB v (M : Int) = true) := Lib.hid (HB1.out.done (by rw [← HP.out]; omega) HM.out)
          go_wp2
          go_ret
          exact ⟨by rw [HMT.out, HBD.out]; rfl, HGA.out.trans HG6.out⟩
    | not g =>
      obtain ⟨rfl, u, hrow, hkid⟩ := HRK.out
      rw [show kNot = ⟨#[110, 111, 116]⟩ from rfl] at k0
      obtain ⟨g0, off, cap, rfl, _, _, hcell⟩ := Row.cells hrow (by simp)
      obtain ⟨ku, rfl⟩ := hkid.ptr
      have HCL : Hid (w.cell? ⟨g0, off, none⟩ = some (.pointer (some ⟨ku, 0, none⟩))) := Lib.hid (hcell 0 _ rfl)
      have HKID := Lib.hid hkid
      clear hrow hkid hcell
      go_upto_region 15 with fail
      refine wp_region_gr (n := 9) [Fg.eq (.pointer (some ⟨b, 0, none⟩)), Fg.eq (.pointer (some ⟨b, 0, none⟩)), Fg.eq (.pointer (some ⟨b, 4, none⟩)), Fg.eq (.slice (some ⟨g0, off, none⟩) ([Value.pointer (some ⟨ku, 0, none⟩)]).length cap), Fg.eq (.pointer (some ⟨g0, off, none⟩)), Fg.eq (.pointer (some ⟨ku, 0, none⟩)), Fg.eq (.agg #[.int .i64 x.t, .int .i64 x.len, .int .i64 x.flow, .int .i64 x.band, .int .i64 x.mark]), Fg.eq (.bool (meantF x d g)), Fg.eq (.bool (!meantF x d g))] [75, 76, 77, 78, 79, 80, 81, 82, 83] (by kernel_rfl) (by kernel_rfl) (by kernel_rfl) ?_ ?_
      · intro L i' o' ac w1' hi' ho hA
        have hgr : Gr w5 w1' := (Gr.refl w5).drew.trans hA.gr
        match i', hi' with
        | 0, _ =>
          obtain rfl := Option.some.inj ho
          exact gstep_val (m_move rfl (show ac.eval (.tmp 0) = .pointer (some ⟨b, 0, none⟩) from hA.other 0 (by decide))) rfl
        | 1, _ =>
          obtain rfl := Option.some.inj ho
          exact gstep_val (n_nil rfl (hA.fact 0 (hA.dep 0 (by kernel_rfl) (by decide)))) rfl
        | 2, _ =>
          obtain rfl := Option.some.inj ho
          exact gstep_val (n_fa4 rfl (hA.fact 1 (hA.dep 1 (by kernel_rfl) (by decide)))) rfl
        | 3, _ =>
          obtain rfl := Option.some.inj ho
          exact gstep_val (n_loadK rfl (hA.fact 2 (hA.dep 2 (by kernel_rfl) (by decide))) (hgr.cell HRB5.out.c4)) rfl
        | 4, _ =>
          obtain rfl := Option.some.inj ho
          exact gstep_val (n_idxK rfl (hA.fact 3 (hA.dep 3 (by kernel_rfl) (by decide))) rfl) rfl
        | 5, _ =>
          obtain rfl := Option.some.inj ho
          exact gstep_val (n_loadP rfl (hA.fact 4 (hA.dep 4 (by kernel_rfl) (by decide))) (hgr.cell (HGA.out.cell (HW.out.cell HCL.out)))) rfl
        | 6, _ =>
          obtain rfl := Option.some.inj ho
          exact gstep_val (m_item rfl (show ac.eval (.tmp 3) = .pointer (some ⟨q, 0, none⟩) from hA.other 3 (by decide)) ((HW1.out.1.gr HG5.out).gr hgr)) rfl
        | 7, _ =>
          obtain rfl := Option.some.inj ho
          exact gstep_call (n_call rfl rfl (hA.fact 5 (hA.dep 5 (by kernel_rfl) (by decide))) (hA.fact 6 (hA.dep 6 (by kernel_rfl) (by decide)))) ((IH HKID.out _ ((HW.out.trans HGA.out).trans hgr)).mono (fun e w2 ⟨h1, h2⟩ => ⟨_, h1, h2, rfl⟩))
        | 8, _ =>
          obtain rfl := Option.some.inj ho
          exact gstep_val (m_notB rfl (hA.fact 7 (hA.dep 7 (by kernel_rfl) (by decide)))) rfl
        | k + 9, hk => exact absurd (show k + 9 < 9 from hk) (by omega)
      · intro vs6 w6 hg6 hv
        have HG6 := Lib.hid ((Gr.refl w5).drew.trans hg6)
        have v8 : vs6 8 = .bool (!meantF x d g) := hv 8 (by omega)
        clear hv hg6
        simp only [putN, List.drop_succ_cons, List.drop_zero, List.getElem?_cons_succ, List.getElem?_cons_zero, v8]
        clear v8
        generalize vs6 0 = y0
        generalize vs6 1 = y1
        generalize vs6 2 = y2
        generalize vs6 3 = y3
        generalize vs6 4 = y4
        generalize vs6 5 = y5
        generalize vs6 6 = y6
        generalize vs6 7 = y7
        have HGN := Lib.hid (HGA.out.trans HG6.out)
        go_wp2
        go_ret
        exact ⟨rfl, HGN.out⟩
    | many l o =>
      obtain ⟨rfl, vs, hrow, hlen, hl0, hl1, hkid⟩ := HRK.out
      obtain ⟨n, hn⟩ : ∃ n, n = l.length := ⟨_, rfl⟩
      obtain ⟨g0, off, cap, rfl, hc1, hc2, hcell⟩ := Row.cells hrow (by rw [hlen]; exact hl0)
      rw [hlen, ← hn] at k4 hc1
      rw [← hn] at hl0 hl1 hkid
      have HN := Lib.hid hn
      have HKID : Hid (∀ j, j < n → ∃ kb, vs.getD j (.pointer none) = .pointer (some ⟨kb, 0, none⟩) ∧ w.cell? ⟨g0, off + j, none⟩ = some (.pointer (some ⟨kb, 0, none⟩)) ∧ RFl S d w (.pointer (some ⟨kb, 0, none⟩)) (l.getD j .any)) := Lib.hid (fun j hj => by
        obtain ⟨kb, hkb⟩ := (hkid j hj).ptr
        have h9 := hcell j (vs.getD j (.pointer none)) (by rw [List.getD_eq_getElem?_getD, List.getElem?_eq_getElem (by rw [hlen, ← hn]; exact hj)]; rfl)
        have h8 := hkid j hj
        rw [hkb] at h9 h8
        exact ⟨kb, hkb, h9, h8⟩)
      clear hkid hcell hrow hlen hn
      have n0 : (0 : Int) < (n : Int) := by omega
      have n1 : (n : Int) ≤ 2001 := by omega
      cases o
      · have k0' : w5.cell? ⟨b, 0, none⟩ = some (.string ⟨#[97, 110, 100]⟩) := k0
        clear k0
        go_wp2
        go_loopw [89, 7] (fun s89 s7 wr => ∃ j : Nat, j ≤ n ∧ s89 = .int .i64 (j : Int) ∧ s7 = .int .i64 ((cntF x d l j : Nat) : Int) ∧ Hid (Gr w5 wr)) (fun s _ _ => n - (intOf s).toNat)
        case atStart => exact ⟨0, Nat.zero_le _, rfl, rfl, Lib.hid (Gr.refl _)⟩
        case round =>
          obtain ⟨j, hj, rfl, rfl, HG6⟩ := hrel
          have j0 : (0 : Int) ≤ (j : Int) := by omega
          obtain ⟨c, hc⟩ : ∃ c, c = cntF x d l j := ⟨_, rfl⟩
          have hcj : c ≤ j := by rw [hc]; exact cntF_le _ _ _ _
          rw [← hc]
          have HCN := Lib.hid hc
          clear hc
          have c0 : (0 : Int) ≤ (c : Int) := by omega
          have c1 : (c : Int) ≤ 2001 := by omega
          by_cases hlt : j < n
          · have j1 : (j : Int) < (n : Int) := by omega
            obtain ⟨kb, hv, hce, hfl⟩ := HKID.out j hlt
            have hce' : wr.cell? ⟨g0, off + j, none⟩ = some (.pointer (some ⟨kb, 0, none⟩)) := HG6.out.cell (HGA.out.cell (HW.out.cell hce))
            have HFL := Lib.hid hfl
            clear hv hce hfl
            have d0 : wr.cell? ⟨q, 0, none⟩ = some (.int .i64 x.t) := ((HW1.out.1.gr HG5.out).gr HG6.out).c 0 rfl
            have d1 : wr.cell? ⟨q, 1, none⟩ = some (.int .i64 x.len) := ((HW1.out.1.gr HG5.out).gr HG6.out).c 1 rfl
            have d2 : wr.cell? ⟨q, 2, none⟩ = some (.int .i64 x.flow) := ((HW1.out.1.gr HG5.out).gr HG6.out).c 2 rfl
            have d3 : wr.cell? ⟨q, 3, none⟩ = some (.int .i64 x.band) := ((HW1.out.1.gr HG5.out).gr HG6.out).c 3 rfl
            have d4 : wr.cell? ⟨q, 4, none⟩ = some (.int .i64 x.mark) := ((HW1.out.1.gr HG5.out).gr HG6.out).c 4 rfl
            have HCX : Hid (cntF x d l (j + 1) = c + if meantF x d (l.getD j .any) = true then 1 else 0) := Lib.hid (by rw [HCN.out]; exact cntF_next (by rw [← HN.out]; exact hlt))
            have HCALL := Lib.hid (IH HFL.out wr ((HW.out.trans HGA.out).trans HG6.out))
            obtain ⟨bb, hbb⟩ : ∃ bb, bb = meantF x d (l.getD j .any) := ⟨_, rfl⟩
            rw [← hbb] at HCALL HCX
            clear hbb
            cases bb with
            | true =>
              have HC2 : Hid (cntF x d l (j + 1) = c + 1) := Lib.hid HCX.out
              go_wp2_with (go_at_call 8; refine HCALL.out.mono ?_; rintro E w9 ⟨rfl, hg9⟩; have HG9 := Lib.hid (HG6.out.trans hg9); clear hg9)
              go_roundw
              case rel => exact ⟨j + 1, by omega, by go_num, (by rw [HC2.out]; go_num), HG9⟩
              case measure => simp [intOf]; omega
            | false =>
              have HC2 : Hid (cntF x d l (j + 1) = c) := Lib.hid HCX.out
              go_wp2_with (go_at_call 8; refine HCALL.out.mono ?_; rintro E w9 ⟨rfl, hg9⟩; have HG9 := Lib.hid (HG6.out.trans hg9); clear hg9)
              go_roundw
              case rel => exact ⟨j + 1, by omega, by go_num, (by rw [HC2.out]), HG9⟩
              case measure => simp [intOf]; omega
          · obtain rfl : j = n := by omega
            have k0 := HG6.out.cell k0'
            have k4' := HG6.out.cell k4
            have HE : Hid (meantF x (d + 1) (.many l false) = ((c : Int) == (j : Int))) := Lib.hid (by rw [show meantF x (d + 1) (.many l false) = l.all (meantF x d) from rfl, cntF_all, ← HN.out, ← HCN.out, Bool.eq_iff_iff, decide_eq_true_eq, beq_iff_eq]; omega)
            go_wp2
            go_ret
            exact ⟨by rw [HE.out]; rfl, HGA.out.trans HG6.out⟩
      · have k0' : w5.cell? ⟨b, 0, none⟩ = some (.string ⟨#[111, 114]⟩) := k0
        clear k0
        go_wp2
        go_loopw [89, 7] (fun s89 s7 wr => ∃ j : Nat, j ≤ n ∧ s89 = .int .i64 (j : Int) ∧ s7 = .int .i64 ((cntF x d l j : Nat) : Int) ∧ Hid (Gr w5 wr)) (fun s _ _ => n - (intOf s).toNat)
        case atStart => exact ⟨0, Nat.zero_le _, rfl, rfl, Lib.hid (Gr.refl _)⟩
        case round =>
          obtain ⟨j, hj, rfl, rfl, HG6⟩ := hrel
          have j0 : (0 : Int) ≤ (j : Int) := by omega
          obtain ⟨c, hc⟩ : ∃ c, c = cntF x d l j := ⟨_, rfl⟩
          have hcj : c ≤ j := by rw [hc]; exact cntF_le _ _ _ _
          rw [← hc]
          have HCN := Lib.hid hc
          clear hc
          have c0 : (0 : Int) ≤ (c : Int) := by omega
          have c1 : (c : Int) ≤ 2001 := by omega
          by_cases hlt : j < n
          · have j1 : (j : Int) < (n : Int) := by omega
            obtain ⟨kb, hv, hce, hfl⟩ := HKID.out j hlt
            have hce' : wr.cell? ⟨g0, off + j, none⟩ = some (.pointer (some ⟨kb, 0, none⟩)) := HG6.out.cell (HGA.out.cell (HW.out.cell hce))
            have HFL := Lib.hid hfl
            clear hv hce hfl
            have d0 : wr.cell? ⟨q, 0, none⟩ = some (.int .i64 x.t) := ((HW1.out.1.gr HG5.out).gr HG6.out).c 0 rfl
            have d1 : wr.cell? ⟨q, 1, none⟩ = some (.int .i64 x.len) := ((HW1.out.1.gr HG5.out).gr HG6.out).c 1 rfl
            have d2 : wr.cell? ⟨q, 2, none⟩ = some (.int .i64 x.flow) := ((HW1.out.1.gr HG5.out).gr HG6.out).c 2 rfl
            have d3 : wr.cell? ⟨q, 3, none⟩ = some (.int .i64 x.band) := ((HW1.out.1.gr HG5.out).gr HG6.out).c 3 rfl
            have d4 : wr.cell? ⟨q, 4, none⟩ = some (.int .i64 x.mark) := ((HW1.out.1.gr HG5.out).gr HG6.out).c 4 rfl
            have HCX : Hid (cntF x d l (j + 1) = c + if meantF x d (l.getD j .any) = true then 1 else 0) := Lib.hid (by rw [HCN.out]; exact cntF_next (by rw [← HN.out]; exact hlt))
            have HCALL := Lib.hid (IH HFL.out wr ((HW.out.trans HGA.out).trans HG6.out))
            obtain ⟨bb, hbb⟩ : ∃ bb, bb = meantF x d (l.getD j .any) := ⟨_, rfl⟩
            rw [← hbb] at HCALL HCX
            clear hbb
            cases bb with
            | true =>
              have HC2 : Hid (cntF x d l (j + 1) = c + 1) := Lib.hid HCX.out
              go_wp2_with (go_at_call 8; refine HCALL.out.mono ?_; rintro E w9 ⟨rfl, hg9⟩; have HG9 := Lib.hid (HG6.out.trans hg9); clear hg9)
              go_roundw
              case rel => exact ⟨j + 1, by omega, by go_num, (by rw [HC2.out]; go_num), HG9⟩
              case measure => simp [intOf]; omega
            | false =>
              have HC2 : Hid (cntF x d l (j + 1) = c) := Lib.hid HCX.out
              go_wp2_with (go_at_call 8; refine HCALL.out.mono ?_; rintro E w9 ⟨rfl, hg9⟩; have HG9 := Lib.hid (HG6.out.trans hg9); clear hg9)
              go_roundw
              case rel => exact ⟨j + 1, by omega, by go_num, (by rw [HC2.out]), HG9⟩
              case measure => simp [intOf]; omega
          · obtain rfl : j = n := by omega
            have k0 := HG6.out.cell k0'
            have k4' := HG6.out.cell k4
            have HE : Hid (meantF x (d + 1) (.many l true) = decide (0 < c)) := Lib.hid (by rw [show meantF x (d + 1) (.many l true) = l.any (meantF x d) from rfl, cntF_any, ← HN.out, ← HCN.out])
            go_wp2
            go_ret
            exact ⟨by rw [HE.out]; rfl, HGA.out.trans HG6.out⟩
theorem rmean_any (x : Itm) {S : Nat → Prop} {w : World} : ∀ {d : Nat} {v : Value} {f : Flt}, RFl S d w v f → ∀ w', Gr w w' → Calls Tryd.prog 8 #[v, .agg #[.int .i64 x.t, .int .i64 x.len, .int .i64 x.flow, .int .i64 x.band, .int .i64 x.mark]] w' fun E w2 => E = .returned (.bool (meantF x d f)) ∧ Gr w' w2
  | 0, _, _, h, _, _ => h.elim
  | _ + 1, _, _, h, w', hw => rmean_succ x (fun h' => rmean_any x h') h w' hw
end Go.Proofs.YthkccohigoejgaaDoor

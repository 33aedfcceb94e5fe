/-
  Flows: slices of records of two slices of ints; millracelaw.flows.
-/
import Derived.Test.YtfdmmfjheiiiiaaDoorApp
import Derived.Test.YtfdmmfjheiiiiaaDoorCurveA
import Derived.BigGuardPart
namespace Go.Proofs.YtfdmmfjheiiiiaaDoor
open Go.RowKit Go.Extern.Stop Go.Stop Go.Extern

/-- A flow as its two values and what they hold. -/
structure Flw where
  come : Value
  promise : Value
  cs : List Int
  ps : List Int
def Flw.zero : Flw := ⟨.slice none 0 0, .slice none 0 0, [], []⟩
instance : Inhabited Flw := ⟨Flw.zero⟩
/-- .. and that they hold it. -/
def Flw.at (w : World) (x : Flw) : Prop := Ints w x.come x.cs ∧ Ints w x.promise x.ps
theorem Flw.at.gr {w w' : World} {x : Flw} (h : x.at w) (g : Gr w w') : x.at w' := ⟨h.1.gr g, h.2.gr g⟩

/-- v is a slice of the n flows F. -/
def Flows (w : World) (v : Value) (n : Nat) (F : Nat → Flw) : Prop :=
  ∃ a cap, v = .slice a n cap ∧ n ≤ 9223372036854775807 ∧ (∀ i, i < n → (F i).at w) ∧
    (0 < n → ∃ b off, a = some ⟨b, off, none⟩ ∧ ∀ i, i < n → w.cell? ⟨b, off + i * 2, none⟩ = some (F i).come ∧ w.cell? ⟨b, off + i * 2 + 1, none⟩ = some (F i).promise)
theorem Flows.gr {w w' : World} {v : Value} {n : Nat} {F : Nat → Flw} (h : Flows w v n F) (g : Gr w w') : Flows w' v n F := by
  obtain ⟨a, cap, h1, h2, h3, h4⟩ := h
  refine ⟨a, cap, h1, h2, fun i hi => (h3 i hi).gr g, fun h0 => ?_⟩
  obtain ⟨b, off, h5, h6⟩ := h4 h0
  exact ⟨b, off, h5, fun i hi => ⟨g.cell (h6 i hi).1, g.cell (h6 i hi).2⟩⟩

/-- append(v, record), as one step of a region that draws its order. -/
theorem step_append_rec {ops : Array Oper} {o : Oper} {a : Act} {w : World} {K : Act → World → Prop} {Q : Exit → Act → World → Prop} {E : Prop} {T : TypeId} {z : Value} {m bytes : Nat}
    (hinfo : (Tryd.prog.info? T).map (fun i => (i.zero, i.size, i.bytes)) = some (some z, m, bytes)) (hzc : z.cells.size = m) (hm : 0 < m)
    (hgd : o.guard = none) (s x : Operand) (t : TypeId) (ho : o.op = .call { callee := .builtin .append, args := #[s, x], argTypes := #[t, t] }) (ht : Tryd.prog.underlying t = some (.slice T))
    (base : Nat) (v : Value) (n : Nat) (xs ys : List Value) (hs : a.eval s = v) (hown : w.ownsRow base T m v n xs) (ad : Addr) (c : Nat) (hx : a.eval x = .slice (some ad) 1 c)
    (hys : ys.length = m) (hone : ∀ u ∈ ys, u.oneCell' = true) (hy : ∀ j u, ys[j]? = some u → w.cell? (ad.add j) = some u) (hlen : n + 1 ≤ maxLen) (hbytes : (n + 1) * bytes ≤ 140737488355328) (hbase : base ≤ w.heap.size)
    (h : ∀ v' w', w'.ownsRow base T m v' (n + 1) (xs ++ ys) → Wrote base w w' → K (a.put o.dst v') w') :
    if Region.wanted o (yielded ops a.tmps) = true then Oper.wp Tryd.prog o a w K Q else E := by
  have hw : Region.wanted o (yielded ops a.tmps) = true := by simp [Region.wanted, hgd]
  rw [if_pos hw]
  obtain ⟨i0, hi, hz0, hz1, hz2⟩ := info_parts hinfo
  refine wp_append_own w s x t ho base T i0 z m bytes ht hi hz0 hz1 hz2 hzc hm v n xs hs hown ad 1 c ys hx (by omega) hy hone (by omega) (by omega) hbase ?_
  intro v' w' hown' hg _
  refine h v' w' hown' ?_
  intro u hu hb
  exact hu.grown hg (fun k hk => Nat.le_trans hb (World.ownsRow.lt hown k hk).1)

def IsBool (v : Value) : Prop := ∃ b, v = .bool b
theorem info_flow : (Tryd.prog.info? 30).map (fun i => (i.zero, i.size, i.bytes)) = some (some (.agg #[.slice none 0 0, .slice none 0 0]), 2, 48) := by kernel_rfl

/-- the cells of the first k flows -/
def flc (F : Nat → Flw) (k : Nat) : List Value := (List.range k).flatMap fun i => [(F i).come, (F i).promise]
theorem flc_succ (F : Nat → Flw) (k : Nat) : flc F k ++ [(F k).come, (F k).promise] = flc F (k + 1) := by simp [flc, List.range_succ]
theorem flc_len (F : Nat → Flw) (k : Nat) : (flc F k).length = k * 2 := by
  induction k with
  | zero => rfl
  | succ k ih => rw [← flc_succ, List.length_append, ih]; simp; omega
theorem flc_get (F : Nat → Flw) {k i : Nat} (h : i < k) : (flc F k)[i * 2]? = some (F i).come ∧ (flc F k)[i * 2 + 1]? = some (F i).promise := by
  induction k with
  | zero => omega
  | succ k ih =>
    rw [← flc_succ]
    rcases Nat.lt_or_ge i k with h1 | h1
    · have := ih h1
      rw [List.getElem?_append_left (by rw [flc_len]; omega), List.getElem?_append_left (by rw [flc_len]; omega)]
      exact this
    · obtain rfl : i = k := by omega
      rw [List.getElem?_append_right (by rw [flc_len]; omega), List.getElem?_append_right (by rw [flc_len]; omega), flc_len]
      simp
def OwnFlows (w : World) (base : Nat) (v : Value) (k : Nat) (F : Nat → Flw) : Prop := w.ownsRow base 30 2 v k (flc F k)
theorem OwnFlows.nil (w : World) (base : Nat) (F : Nat → Flw) : OwnFlows w base (.slice none 0 0) 0 F := World.ownsRow_nil w base _ 2
theorem OwnFlows.alloc {w : World} {base k : Nat} {v : Value} {F : Nat → Flw} (h : OwnFlows w base v k F) (o : Obj) : OwnFlows (w.alloc o) base v k F := World.ownsRow.alloc h o
theorem OwnFlows.drew {w : World} {base k : Nat} {v : Value} {F : Nat → Flw} (h : OwnFlows w base v k F) : OwnFlows w.drew base v k F := h
theorem OwnFlows.drewN {w : World} {base k : Nat} {v : Value} {F : Nat → Flw} (h : OwnFlows w base v k F) (n : Nat) : OwnFlows (w.drewN n) base v k F := h
theorem OwnFlows.flows {w : World} {base k : Nat} {v : Value} {F : Nat → Flw} (h : OwnFlows w base v k F) (hk : k ≤ 9223372036854775807) (hF : ∀ i, i < k → (F i).at w) : Flows w v k F := by
  have hh := h
  obtain ⟨_, h2⟩ := h
  rcases h2 with ⟨rfl, h0⟩ | ⟨g, cap, cur, rfl, _⟩
  · exact ⟨none, 0, by rw [h0], hk, hF, fun h => absurd h (by omega)⟩
  · refine ⟨_, _, rfl, hk, hF, fun _ => ⟨g, 0, rfl, fun i hi => ?_⟩⟩
    have g0 := flc_get F hi
    have c0 := World.ownsRow.cells (w := w) hh (g := g) rfl (i * 2) _ g0.1
    have c1 := World.ownsRow.cells (w := w) hh (g := g) rfl (i * 2 + 1) _ g0.2
    have e2 : ∀ j, Addr.add ⟨g, 0, none⟩ j = ⟨g, 0 + j, none⟩ := fun j => by unfold Addr.add; split <;> simp_all
    rw [e2] at c0 c1
    exact ⟨c0, by rw [← Nat.add_assoc] at c1; exact c1⟩

set_option maxRecDepth 100000 in
set_option maxHeartbeats 4000000 in
theorem flows_any {v : Value} {n : Nat} {F : Nat → Flw} (w : World) (hF : Flows w v n F) (hn : n * 48 ≤ 140737488351232) :
    Calls Tryd.prog 4 #[v] w fun e w' => ∃ r b, e = .returned (.tuple #[r, b]) ∧ IsBool b ∧ Flows w' r n F ∧ Gr w w' := by
  obtain ⟨a, cap, rfl, hl, hat, hA⟩ := hF
  have HA := Lib.hid hA
  have HT := Lib.hid hat
  clear hA hat
  go_enter Tryd.func4, Tryd.ntmps4
  go_wp2
  go_loopw [4, 5, 6] (fun r s i wr => ∃ k : Nat, k ≤ n ∧ i = .int .i64 k ∧ (∃ x : Int, s = .int .i64 x) ∧ Hid (OwnFlows wr w.heap.size r k F) ∧ Hid (Gr w wr)) (fun _ _ i _ => n - (intOf i).toNat)
  case atStart => exact ⟨0, Nat.zero_le _, rfl, ⟨_, rfl⟩, OwnFlows.nil _ _ _, Gr.refl _⟩
  case round =>
    obtain ⟨k, hk, rfl, ⟨x, rfl⟩, HO, HG⟩ := hrel
    by_cases hlt : k < n
    · obtain ⟨b, off, rfl, hA2⟩ := HA.out (by omega)
      have D := Lib.hid (hA2 k hlt)
      have c0 := HG.out.cell D.out.1
      have c1 := HG.out.cell D.out.2
      have HS := Lib.hid (flc_succ F k)
      have s0 := ints_shape (HT.out k hlt).1
      have s1 := ints_shape (HT.out k hlt).2
      obtain ⟨a0, q0, e0⟩ := s0
      obtain ⟨a1, q1, e1⟩ := s1
      rw [e0, e1] at D HS
      rw [e0] at c0
      rw [e1] at c1
      clear e0 e1 hA2
      generalize (F k).cs.length = l0 at *
      generalize (F k).ps.length = l1 at *
      have i0 : (0 : Int) ≤ (k : Int) := by omega
      have i1 : (k : Int) < (n : Int) := by omega
      go_wp2
      go_region_held3 (fun w' => w'.cell? ⟨b, off + k * 2, none⟩ = some (.slice a0 l0 q0) ∧ w'.cell? ⟨b, off + k * 2 + 1, none⟩ = some (.slice a1 l1 q1))
          (first
            | go_keep
            | exact ⟨(hwr1 w (HG.out.alloc _).drew (Nat.le_refl _)).cell D.out.1, (hwr1 w (HG.out.alloc _).drew (Nat.le_refl _)).cell D.out.2⟩)
          ((refine step_append_rec info_flow (by rfl) (by omega) (by rfl) _ _ _ (by rfl) (by kernel_rfl) w.heap.size _ k (flc F k) [.slice a0 l0 q0, .slice a1 l1 q1] (by rfl) ((HO.out.alloc _).drew) ⟨wr.heap.size, 0, none⟩ 1 (by rfl) (by rfl) (by simp [Value.oneCell']) (fun j u hj => by
            match j, hj with
            | 0, hj => simp at hj; subst hj; simp [Addr.add]
            | 1, hj => simp at hj; subst hj; simp [Addr.add]
            | j + 2, hj => simp at hj) (by unfold maxLen; omega) (by omega) (by have := HG.out.size; simp; omega) ?_; intro r' w1 hown1 hwr1))
      have HG1 := Lib.hid (hwr1 w (HG.out.alloc _).drew (Nat.le_refl _))
      have HO1 : Hid (OwnFlows w1 w.heap.size r' (k + 1) F) := Lib.hid (by unfold OwnFlows; rw [← HS.out]; exact hown1)
      have d0 := HG1.out.cell D.out.1
      have d1 := HG1.out.cell D.out.2
      clear hown1 hwr1 c0 c1
      go_wp2
      go_quiet (fail)
      go_wp2
      go_roundw
      case rel => exact ⟨k + 1, by omega, by go_num, ⟨_, rfl⟩, HO1.out.drewN _, HG1.out.drewN _⟩
      case measure => simp [intOf]; omega
    · obtain rfl : k = n := by omega
      go_wp2
      all_goals
        go_ret2
        exact ⟨_, _, rfl, ⟨_, rfl⟩, HO.out.flows hl (fun i hi => (HT.out i hi).gr HG.out), HG.out⟩
end Go.Proofs.YtfdmmfjheiiiiaaDoor

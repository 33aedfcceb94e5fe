/-
  Regions that draw their order and make Ints: what each operation leaves. What single operations yield.
-/
import Derived.Test.YtgifghbnpdanhaaGreatDoorReg
import Derived.Test.YtgifghbnpdanhaaGreatDoorBigI
import Derived.Test.YtgifghbnpdanhaaGreatDoorBigR
namespace Go.Proofs.YtgifghbnpdanhaaGreatDoor
open Go.RowKit

/-- What an operation leaves: a value; a new Int's place; an Int. Tags tell the new ones apart. -/
inductive Fk where
  | val (v : Value)
  | new (t : Nat)
  | int (t : Nat) (a : Int)
def Fk.tag : Fk → Option Nat
  | .val _ => none
  | .new t => some t
  | .int t _ => some t
def Fk.isInt (k : Fk) (t : Nat) : Bool := match k with
  | .int t' _ => decide (t' = t)
  | _ => false
def Sat (base : Nat) (v : Value) (w : World) : Fk → Prop
  | .val u => v = u
  | .new _ => ∃ g, v = .pointer (some ⟨g, 0, none⟩) ∧ base ≤ g ∧ Slot w g 0
  | .int _ a => ∃ g, v = .pointer (some ⟨g, 0, none⟩) ∧ base ≤ g ∧ Holds w g 0 a
theorem Sat.gr {base : Nat} {v : Value} {w w' : World} {k : Fk} (h : Sat base v w k) (hg : Gr w w') : Sat base v w' k := by
  cases k with
  | val u => exact h
  | new t => obtain ⟨g, h1, h2, h3⟩ := h; exact ⟨g, h1, h2, h3.gr hg⟩
  | int t a => obtain ⟨g, h1, h2, h3⟩ := h; exact ⟨g, h1, h2, h3.gr hg⟩
def tagsApart (ks : Nat → Fk) (i j : Nat) : Bool := match (ks i).tag, (ks j).tag with | some a, some b => decide (a ≠ b) | _, _ => false
theorem tagsApart_sym {ks : Nat → Fk} (i j : Nat) (h : tagsApart ks i j = true) : tagsApart ks j i = true := by
  unfold tagsApart at *
  split at h
  · rename_i a b ha hb
    rw [ha, hb]
    simp only [decide_eq_true_eq] at h ⊢
    exact fun e => h e.symm
  · cases h
theorem tagsApart_irr {ks : Nat → Fk} (i : Nat) : tagsApart ks i i = false := by
  unfold tagsApart
  split
  · rename_i a b ha hb
    rw [ha] at hb
    obtain rfl := Option.some.inj hb
    simp
  · rfl

section
variable {ops : Array Oper} {n : Nat} {ks : Nat → Fk} {a0 : Act} {w0 : World} {L : Nat → Prop} {i : Nat} {o : Oper} {a : Act} {w : World} {Q : Exit → Act → World → Prop}
/-- What a step must show. -/
def StepTo (ops : Array Oper) (ks : Nat → Fk) (w0 : World) (L : Nat → Prop) (i : Nat) (a : Act) (w : World) (v : Value) (w' : World) : Prop :=
  Gr w0 w' ∧ Sat w0.heap.size v w' (ks i) ∧ (∀ j, L j → Sat w0.heap.size (valOf ops a j) w (ks j) → Sat w0.heap.size (valOf ops a j) w' (ks j)) ∧ ∀ j, L j → tagsApart ks i j = true → v ≠ valOf ops a j
abbrev IntsAt (ops : Array Oper) (n : Nat) (ks : Nat → Fk) (a0 : Act) (w0 : World) (L : Nat → Prop) (i : Nat) (a : Act) (w : World) : Prop :=
  HeadAt ops n (fun j v w => Sat w0.heap.size v w (ks j)) (tagsApart ks) a0 (Gr w0) L i a w
abbrev IntsPost (ops : Array Oper) (ks : Nat → Fk) (w0 : World) (L : Nat → Prop) (i : Nat) (o : Oper) (a : Act) (w : World) (a' : Act) (w' : World) : Prop :=
  ∃ v, a' = a.put o.dst v ∧ Gr w0 w' ∧ Sat w0.heap.size v w' (ks i) ∧ (∀ j, L j → Sat w0.heap.size (valOf ops a j) w (ks j) → Sat w0.heap.size (valOf ops a j) w' (ks j)) ∧ ∀ j, L j → tagsApart ks i j = true → v ≠ valOf ops a j

theorem step_val {u : Value} (hA : IntsAt ops n ks a0 w0 L i a w) (hk : ks i = .val u) (hr : (execOp a.eval o).run Tryz.prog w = .ok (.value u) w) : Oper.wp Tryz.prog o a w (IntsPost ops ks w0 L i o a w) Q := by
  unfold Oper.wp
  rw [hr]
  refine ⟨u, rfl, hA.gr, by rw [hk]; rfl, fun _ _ h => h, fun j _ hc => ?_⟩
  unfold tagsApart at hc
  rw [hk] at hc
  cases hc
theorem step_alloc {t : Nat} (hA : IntsAt ops n ks a0 w0 L i a w) (hk : ks i = .new t) (hr : (execOp a.eval o).run Tryz.prog w = .ok (.value (.pointer (some ⟨w.heap.size, 0, none⟩))) (w.alloc (.cells #[.bool false, .slice none 0 0] 140))) : Oper.wp Tryz.prog o a w (IntsPost ops ks w0 L i o a w) Q := by
  unfold Oper.wp
  rw [hr]
  refine ⟨_, rfl, hA.gr.alloc _, by rw [hk]; exact ⟨_, rfl, hA.gr.size, slot_new w rfl⟩, fun j _ h => h.gr ((Gr.refl w).alloc _), fun j hj hc => ?_⟩
  have hf := hA.fact j hj
  intro e
  rw [← e] at hf
  unfold tagsApart at hc
  rw [hk] at hc
  cases hkj : ks j with
  | val u => rw [hkj] at hc; cases hc
  | new t' =>
    simp only [hkj] at hf
    obtain ⟨g, h1, _, h3⟩ := hf
    have := h3.lt
    simp at h1 <;> omega
  | int t' x =>
    simp only [hkj] at hf
    obtain ⟨g, h1, _, h3⟩ := hf
    have := h3.slot.lt
    simp at h1 <;> omega
theorem step_call {f : FuncId} {args : Array Value} (hr : (execOp a.eval o).run Tryz.prog w = .ok (.enter f args) w) (hc : Calls Tryz.prog f args w (fun e w' => ∃ v, e = .returned v ∧ StepTo ops ks w0 L i a w v w')) : Oper.wp Tryz.prog o a w (IntsPost ops ks w0 L i o a w) Q := by
  unfold Oper.wp
  rw [hr]
  show Calls Tryz.prog f args w _
  refine hc.mono ?_
  rintro e w' ⟨v, rfl, h⟩
  exact ⟨v, rfl, h⟩
theorem to_val {u : Value} (hA : IntsAt ops n ks a0 w0 L i a w) (hk : ks i = .val u) : StepTo ops ks w0 L i a w u w := by
  refine ⟨hA.gr, by rw [hk]; rfl, fun _ _ h => h, fun j _ hc => ?_⟩
  unfold tagsApart at hc
  rw [hk] at hc
  cases hc
/-- An Int method's step: the new place d holds x now. -/
theorem to_int {t d g : Nat} {x : Int} {w' : World} (hA : IntsAt ops n ks a0 w0 L i a w) (hk : ks i = .int t x) (hkd : ks d = .new t) (hd : L d) (hv : valOf ops a d = .pointer (some ⟨g, 0, none⟩)) (hone : ∀ j y, ks j = .int t y → j = i)
    (h : Gave g 0 x w (.returned (.pointer (some ⟨g, 0, none⟩))) w') (hb : w0.heap.size ≤ g) (hs : Slot w g 0) : StepTo ops ks w0 L i a w (.pointer (some ⟨g, 0, none⟩)) w' := by
  obtain ⟨_, hh, ho⟩ := h
  refine ⟨ho.gr _ hA.gr hb, by rw [hk]; exact ⟨g, rfl, hb, hh⟩, fun j hj hf => ?_, fun j hj hc => ?_⟩
  · cases hkj : ks j with
    | val u => rw [hkj] at hf; exact hf
    | new t' =>
      rw [hkj] at hf
      obtain ⟨g', h1, h2, h3⟩ := hf
      by_cases e : g' = g
      · subst e; exact ⟨g', h1, h2, hh.slot⟩
      · exact ⟨g', h1, h2, h3.only ho (.inl e)⟩
    | int t' y =>
      rw [hkj] at hf
      obtain ⟨g', h1, h2, h3⟩ := hf
      have e : g' ≠ g := by
        rintro rfl
        by_cases et : t' = t
        · subst et
          have := hone j y hkj
          subst this
          exact hA.self hj
        · have := hA.apart j d hj hd (by unfold tagsApart; rw [hkj, hkd]; simpa [Fk.tag] using et)
          exact this (h1.trans hv.symm)
      exact ⟨g', h1, h2, h3.only hs ho (.inl e)⟩
  · have := hA.apart d j hd hj (by unfold tagsApart at hc ⊢; rw [hk] at hc; rw [hkd]; exact hc)
    rw [hv] at this
    exact this
end

section
variable {ev : Operand → Value} {o : Oper} {w : World} {x : Operand} {u : Value}
theorem r_move (ho : o.op = .move x) (h : ev x = u) : (execOp ev o).run Tryz.prog w = .ok (.value u) w := by
  simp [execOp, ho, h, go_sem]
theorem r_nil {ad : Addr} (ho : o.op = .nilCheck x) (h : ev x = .pointer (some ad)) : (execOp ev o).run Tryz.prog w = .ok (.value (.pointer (some ad))) w := by
  simp [execOp, ho, h, go_sem]
theorem r_rat0 {p : Nat} (ho : o.op = .fieldAddr 142 x 0) (h : ev x = .pointer (some ⟨p, 0, none⟩)) : (execOp ev o).run Tryz.prog w = .ok (.value (.pointer (some ⟨p, 0, none⟩))) w := by
  simp [execOp, ho, h, go_sem]
theorem r_rat1 {p : Nat} (ho : o.op = .fieldAddr 142 x 1) (h : ev x = .pointer (some ⟨p, 0, none⟩)) : (execOp ev o).run Tryz.prog w = .ok (.value (.pointer (some ⟨p, 2, none⟩))) w := by
  simp [execOp, ho, h, go_sem]
theorem r_int0 {p o' : Nat} (ho : o.op = .fieldAddr 140 x 0) (h : ev x = .pointer (some ⟨p, o', none⟩)) : (execOp ev o).run Tryz.prog w = .ok (.value (.pointer (some ⟨p, o', none⟩))) w := by
  simp [execOp, ho, h, go_sem]
theorem r_int1 {p o' : Nat} (ho : o.op = .fieldAddr 140 x 1) (h : ev x = .pointer (some ⟨p, o', none⟩)) : (execOp ev o).run Tryz.prog w = .ok (.value (.pointer (some ⟨p, o' + 1, none⟩))) w := by
  simp [execOp, ho, h, go_sem]
theorem r_loadB {ad : Addr} {b : Bool} (ho : o.op = .load 4 x) (h : ev x = .pointer (some ad)) (hc : w.cell? ad = some (.bool b)) : (execOp ev o).run Tryz.prog w = .ok (.value (.bool b)) w := by
  simp [execOp, ho, h, hc, go_sem]
theorem r_loadS {ad : Addr} {a : Option Addr} {n c : Nat} (ho : o.op = .load 138 x) (h : ev x = .pointer (some ad)) (hc : w.cell? ad = some (.slice a n c)) : (execOp ev o).run Tryz.prog w = .ok (.value (.slice a n c)) w := by
  simp [execOp, ho, h, hc, go_sem]
theorem r_not {b : Bool} (ho : o.op = .unOp .not 4 x) (h : ev x = .bool b) : (execOp ev o).run Tryz.prog w = .ok (.value (.bool (!b))) w := by
  simp [execOp, ho, h, go_sem]
theorem r_call4 {f : FuncId} {t1 t2 t3 t4 : TypeId} {y1 y2 y3 y4 : Operand} {v1 v2 v3 v4 : Value} (ho : o.op = .call { callee := .value (.func f), args := #[y1, y2, y3, y4], argTypes := #[t1, t2, t3, t4] }) (hf : ev (.func f) = .func (.func f) #[] #[]) (hcf : ∀ args w, (callFunc f args).run Tryz.prog w = .ok (.enter f args) w) (h1 : ev y1 = v1) (h2 : ev y2 = v2) (h3 : ev y3 = v3) (h4 : ev y4 = v4) : (execOp ev o).run Tryz.prog w = .ok (.enter f #[v1, v2, v3, v4]) w := by
  simp [execOp, ho, h1, h2, h3, h4, hf, hcf, go_sem]
theorem r_call2 {f : FuncId} {t1 t2 : TypeId} {y1 y2 : Operand} {v1 v2 : Value} (ho : o.op = .call { callee := .value (.func f), args := #[y1, y2], argTypes := #[t1, t2] }) (hf : ev (.func f) = .func (.func f) #[] #[]) (hcf : ∀ args w, (callFunc f args).run Tryz.prog w = .ok (.enter f args) w) (h1 : ev y1 = v1) (h2 : ev y2 = v2) : (execOp ev o).run Tryz.prog w = .ok (.enter f #[v1, v2]) w := by
  simp [execOp, ho, h1, h2, hf, hcf, go_sem]
theorem r_ext0 {a b : Value} (ho : o.op = .extract x 0) (h : ev x = .tuple #[a, b]) : (execOp ev o).run Tryz.prog w = .ok (.value a) w := by
  simp [execOp, ho, h, go_sem]
theorem r_ext1 {a b : Value} (ho : o.op = .extract x 1) (h : ev x = .tuple #[a, b]) : (execOp ev o).run Tryz.prog w = .ok (.value b) w := by
  simp [execOp, ho, h, go_sem]
theorem r_alloc (ho : o.op = .alloc 140) : (execOp ev o).run Tryz.prog w = .ok (.value (.pointer (some ⟨w.heap.size, 0, none⟩))) (w.alloc (.cells #[.bool false, .slice none 0 0] 140)) := by
  simp [execOp, ho, go_sem]
theorem r_call1 {f : FuncId} {a : TypeId} {y : Operand} {v1 : Value} (ho : o.op = .call { callee := .value (.func f), args := #[y], argTypes := #[a] }) (hf : ev (.func f) = .func (.func f) #[] #[]) (hcf : ∀ args w, (callFunc f args).run Tryz.prog w = .ok (.enter f args) w) (h1 : ev y = v1) : (execOp ev o).run Tryz.prog w = .ok (.enter f #[v1]) w := by
  simp [execOp, ho, h1, hf, hcf, go_sem]
theorem r_call3 {f : FuncId} {t1 t2 t3 : TypeId} {y1 y2 y3 : Operand} {v1 v2 v3 : Value} (ho : o.op = .call { callee := .value (.func f), args := #[y1, y2, y3], argTypes := #[t1, t2, t3] }) (hf : ev (.func f) = .func (.func f) #[] #[]) (hcf : ∀ args w, (callFunc f args).run Tryz.prog w = .ok (.enter f args) w) (h1 : ev y1 = v1) (h2 : ev y2 = v2) (h3 : ev y3 = v3) : (execOp ev o).run Tryz.prog w = .ok (.enter f #[v1, v2, v3]) w := by
  simp [execOp, ho, h1, h2, h3, hf, hcf, go_sem]
end
theorem cf_den (args : Array Value) (w : World) : (callFunc 116 args).run Tryz.prog w = .ok (.enter 116 args) w := by kernel_rfl
theorem cf_mul (args : Array Value) (w : World) : (callFunc 118 args).run Tryz.prog w = .ok (.enter 118 args) w := by kernel_rfl
theorem cf_sum (args : Array Value) (w : World) : (callFunc 134 args).run Tryz.prog w = .ok (.enter 134 args) w := by kernel_rfl
def Fg.num (N : Nat) : Fg := ⟨fun v w => Num w v N, fun _ _ _ h g => h.gr g⟩
def Fg.sum (b : Bool) (N : Nat) : Fg := ⟨fun v w => ∃ r, v = .tuple #[.bool b, r] ∧ Num w r N, fun _ _ _ ⟨r, h1, h2⟩ g => ⟨r, h1, h2.gr g⟩⟩
end Go.Proofs.YtgifghbnpdanhaaGreatDoor

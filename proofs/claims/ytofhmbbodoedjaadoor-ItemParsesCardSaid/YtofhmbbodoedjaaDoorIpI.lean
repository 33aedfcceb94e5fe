/-
  The ground of item.Parse: what lies between two lines.
-/
import Derived.Test.YtofhmbbodoedjaaDoorIpH
import Derived.Test.YtofhmbbodoedjaaDoorIpB
namespace Go.Proofs.YtofhmbbodoedjaaDoor
open Go Go.RowKit Go.Shelf
attribute [local go_sem] Oper.semAt_some

/-- Between two lines. -/
structure PI (t : ByteArray) (w : World) (b : Nat) (L : List ByteArray) (W : World) (out : List Itm) (P : Nat) (v : Value) : Prop where
  go : ipGo L out (P : Int) = ipAll t
  sum : (L.map fun x => x.size + 1).sum + P = t.size + 1
  r0 : Bx W b (.slice none 0 0) 22
  r1 : Bx W (b + 1) .nilIface 29
  ob : Bx W (b + 1 + 1) v 22
  ab : Bx W (b + 1 + 1 + 1) (.int .i64 (P : Int)) 3
  row : IRow W v out
  own : ∀ g, v.ownBlock = some g → b + 8 < g
  few : out.length ≤ 100
  gr : Gr w W
/-- A fault has been told. -/
def PX (t : ByteArray) (w : World) (b : Nat) (W : World) : Prop := ∃ c p g, ipAll t = .err c p ∧ Bx W b (.slice none 0 0) 22 ∧ Bx W (b + 1) (.iface 50 (.pointer (some ⟨g, 0, none⟩))) 29 ∧ W.cell? ⟨g, 0, none⟩ = some (.int .i64 c) ∧ W.cell? ⟨g, 1, none⟩ = some (.int .i64 p) ∧ b + 8 < g ∧ Gr w W
section
variable {t : ByteArray} {w W W' w5 w7 : World} {b P : Nat} {L : List ByteArray} {out : List Itm} {v v' : Value} {D : Nat → Prop} {x : ByteArray}
theorem PI.sav (h : PI t w b L W out P v) (hw : w.heap.size = b) (k : Sav D W W') (hD : ∀ q, D q → b + 4 ≤ q ∧ q ≤ b + 8) : PI t w b L W' out P v := by
  have hb : ∀ q, q < b + 4 → W'.heap[q]? = W.heap[q]? := fun q hq => k.block q (by have := h.ab.lt; omega) fun hd => by have := hD q hd; omega
  exact ⟨h.go, h.sum, h.r0.to (hb _ (by omega)), h.r1.to (hb _ (by omega)), h.ob.to (hb _ (by omega)), h.ab.to (hb _ (by omega)), Row.sav h.row k fun g hg hd => by have := h.own g hg; have := hD g hd; omega, h.own, h.few, k.gr h.gr fun q hq => by have := hD q hq; omega⟩
theorem PI.on (h : PI t w b L W out P v) (g : Gr W W') : PI t w b L W' out P v :=
  ⟨h.go, h.sum, h.r0.gr g, h.r1.gr g, h.ob.gr g, h.ab.gr g, h.row.gr g, h.own, h.few, h.gr.trans g⟩
theorem PI.savo (h : PI t w b L W out P v) (hw : w.heap.size = b) (k : Sav (fun q => v.ownBlock = some q) W W') (hr : IRow W' v out) : PI t w b L W' out P v := by
  have hb : ∀ q, q < b + 4 → W'.heap[q]? = W.heap[q]? := fun q hq => k.block q (by have := h.ab.lt; omega) fun hd => by have := h.own q hd; omega
  exact ⟨h.go, h.sum, h.r0.to (hb _ (by omega)), h.r1.to (hb _ (by omega)), h.ob.to (hb _ (by omega)), h.ab.to (hb _ (by omega)), hr, h.own, h.few, k.gr h.gr fun q hq => by have := h.own q hq; omega⟩
theorem PX.sav (h : PX t w b W) (hw : w.heap.size = b) (k : Sav D W W') (hD : ∀ q, D q → b + 4 ≤ q ∧ q ≤ b + 8) : PX t w b W' := by
  obtain ⟨c, p, g, h1, h2, h3, h4, h5, h6, h7⟩ := h
  have hl := h3.lt
  exact ⟨c, p, g, h1, h2.to (k.block _ h2.lt fun hd => by have := hD _ hd; omega), h3.to (k.block _ hl fun hd => by have := hD _ hd; omega), k.cell h4 (fun hd => by have := hD _ hd; simp only at this; omega), k.cell h5 (fun hd => by have := hD _ hd; simp only at this; omega), h6, k.gr h7 fun q hq => by have := hD q hq; omega⟩
theorem PI.lt (h : PI t w b L W out P v) : b + 3 < W.heap.size := h.ab.lt
theorem keepP {D : Nat → Prop} (k : Sav D W W') (hl : b + 8 < W.heap.size) (hm : 2 < b) (hD : ∀ q, D q → b ≤ q ∧ (q < b + 4 ∨ b + 8 < q)) : Keep (b + 7) (b + 4 + 1) (b + 4) (b + 4 + 2) W W' := by
  have hb : ∀ q, q < W.heap.size → (q < b ∨ (b + 4 ≤ q ∧ q ≤ b + 8)) → W'.heap[q]? = W.heap[q]? := fun q hq h => k.block q hq fun hd => by have := hD q hd; omega
  exact ⟨k.size, hb _ (by omega) (by omega), hb _ (by omega) (by omega), hb _ (by omega) (by omega), hb _ (by omega) (by omega), hb _ (by omega) (by omega), hb _ (by omega) (by omega)⟩
/-- An empty line. -/
theorem PI.skip (h : PI t w b (x :: L) W out P v) (hw : w.heap.size = b) (hx : x.size = 0) (hlt : b + 8 < W.heap.size) (hm : 2 < b) :
    Keep (b + 7) (b + 4 + 1) (b + 4) (b + 4 + 2) W (W.setCell ⟨b + 1 + 1 + 1, 0, none⟩ (.int .i64 ((P + 1 : Nat) : Int))) ∧ PI t w b L (W.setCell ⟨b + 1 + 1 + 1, 0, none⟩ (.int .i64 ((P + 1 : Nat) : Int))) out (P + 1) v := by
  have k := Sav.set (w := W) (b + 1 + 1 + 1) 0 (.int .i64 ((P + 1 : Nat) : Int))
  refine ⟨keepP k hlt hm fun q hq => by omega, ?_, ?_, h.r0.to (k.block _ h.r0.lt (by omega)), h.r1.to (k.block _ h.r1.lt (by omega)), h.ob.to (k.block _ h.ob.lt (by omega)), h.ab.set _, Row.sav h.row k fun g hg e => by have := h.own g hg; omega, h.own, h.few, k.gr h.gr fun q hq => by omega⟩
  · rw [← h.go, ipGo_empty hx]
    rfl
  · have := h.sum
    rw [List.map_cons, List.sum_cons, hx] at this
    omega
/-- One more packet. -/
theorem PI.more {y : Itm} (h : PI t w b (x :: L) W out P v) (hw : w.heap.size = b) (h5 : PI t w b (x :: L) w5 out P v) (k5 : Sav (fun q => v.ownBlock = some q ∨ W.heap.size ≤ q) W w5) (hx : x.size ≠ 0) (hy : lineR x = some y) (hc : listCode (out ++ [y]) = 0) (hlt : b + 8 < W.heap.size) (hm : 2 < b) {o : Obj}
    (hrow : IRow w7 v' (out ++ [y])) (hgr : (w5.alloc o).grownBy w7 v.ownBlock) (hown : ∀ g, v'.ownBlock = some g → v.ownBlock = some g ∨ (w5.alloc o).heap.size ≤ g)
    (hW : W' = (w7.setCell ⟨b + 1 + 1, 0, none⟩ v').setCell ⟨b + 1 + 1 + 1, 0, none⟩ (.int .i64 ((P + x.size + 1 : Nat) : Int))) :
    Keep (b + 7) (b + 4 + 1) (b + 4) (b + 4 + 2) W W' ∧ PI t w b L W' (out ++ [y]) (P + x.size + 1) v' := by
  have hs5 : W.heap.size ≤ w5.heap.size := k5.size
  have k7 : Sav (fun q => v.ownBlock = some q) w5 w7 := (Sav.of_gr ((Gr.refl w5).alloc o)).then (Sav.of_grown hgr fun q e => e)
  have k8 : Sav (fun q => v.ownBlock = some q ∨ q = b + 1 + 1 ∨ q = b + 1 + 1 + 1) w5 W' := by
    rw [hW]
    exact ((k7.mono fun _ h => .inl h).then ((Sav.set (b + 1 + 1) 0 _).mono fun _ h => .inr (.inl h))).then ((Sav.set (b + 1 + 1 + 1) 0 _).mono fun _ h => .inr (.inr h))
  have k9 : Sav (fun q => v.ownBlock = some q ∨ q = b + 1 + 1 ∨ q = b + 1 + 1 + 1 ∨ W.heap.size ≤ q) W W' := (k5.mono fun q h => h.elim .inl fun e => .inr (.inr (.inr e))).then (k8.mono fun q h => h.elim .inl fun e => .inr (e.elim .inl fun e => .inr (.inl e)))
  have hsz : (w5.alloc o).heap.size = w5.heap.size + 1 := by simp
  have ow : ∀ g, v'.ownBlock = some g → b + 8 < g := fun q hq => by
    rcases hown q hq with e | e
    · exact h.own q e
    · omega
  have hb : ∀ q, q < b + 2 → W'.heap[q]? = w5.heap[q]? := fun q hq => k8.block q (by have := h5.lt; omega) fun hd => by
    rcases hd with hd | hd
    · have := h.own q hd; omega
    · omega
  refine ⟨keepP k9 hlt hm fun q hq => ?_, ?_, ?_, h5.r0.to (hb _ (by omega)), h5.r1.to (hb _ (by omega)), ?_, ?_, ?_, ow, listCode_few hc, k8.gr h5.gr fun q hq => ?_⟩
  · rcases hq with hq | hq
    · have := h.own q hq; omega
    · omega
  · rw [← h.go, ipGo_more hx hy hc]
    rfl
  · have := h.sum
    rw [List.map_cons, List.sum_cons] at this
    omega
  · have e1 : Bx w7 (b + 1 + 1) v 22 := h5.ob.to (k7.block _ h5.ob.lt fun hd => by have := h.own _ hd; omega)
    have e2 := e1.set v'
    rw [hW]
    exact e2.to (set_other _ _ (by omega))
  · have e1 : Bx w7 (b + 1 + 1 + 1) (.int .i64 (P : Int)) 3 := h5.ab.to (k7.block _ h5.ab.lt fun hd => by have := h.own _ hd; omega)
    rw [hW]
    exact (e1.to (set_other _ _ (by omega))).set _
  · rw [hW]
    exact Row.setCell (Row.setCell hrow _ fun e => by have := ow _ e; simp only at this; omega) _ fun e => by have := ow _ e; simp only at this; omega
  · rcases hq with hq | hq
    · have := h.own q hq; omega
    · omega
/-- A fault is told here. -/
theorem PI.tell {c : Int} {g : Nat} (h : PI t w b (x :: L) W out P v) (hw : w.heap.size = b) (h5 : PI t w b (x :: L) w5 out P v) (k5 : Sav (fun q => v.ownBlock = some q ∨ q = b ∨ W.heap.size ≤ q) W w5) (hgo : ipGo (x :: L) out (P : Int) = .err c (P : Int)) (hlt : b + 8 < W.heap.size) (hm : 2 < b)
    (hg : W.heap.size ≤ g) (c0 : w5.cell? ⟨g, 0, none⟩ = some (.int .i64 c)) (c1 : w5.cell? ⟨g, 1, none⟩ = some (.int .i64 (P : Int)))
    (hW : W' = w5.setCell ⟨b + 1, 0, none⟩ (.iface 50 (.pointer (some ⟨g, 0, none⟩)))) :
    Keep (b + 7) (b + 4 + 1) (b + 4) (b + 4 + 2) W W' ∧ PX t w b W' := by
  have k8 : Sav (fun q => q = b + 1) w5 W' := by
    rw [hW]
    exact Sav.set (b + 1) 0 _
  have k9 : Sav (fun q => v.ownBlock = some q ∨ q = b ∨ q = b + 1 ∨ W.heap.size ≤ q) W W' := (k5.mono fun q h => h.elim .inl fun e => .inr (e.elim .inl fun e => .inr (.inr e))).then (k8.mono fun q h => .inr (.inr (.inl h)))
  refine ⟨keepP k9 hlt hm fun q hq => ?_, c, (P : Int), g, by rw [← h.go, hgo], ?_, ?_, k8.cell c0 (by simp only; omega), k8.cell c1 (by simp only; omega), by omega, k8.gr h5.gr fun q hq => by omega⟩
  · rcases hq with hq | hq
    · have := h.own q hq; omega
    · omega
  · rw [hW]
    exact h5.r0.to (set_other _ _ (by omega))
  · rw [hW]
    exact h5.r1.set _
theorem PI.savb (h : PI t w b L W out P v) (hw : w.heap.size = b) (k : Sav (fun q => q = b) W W') (hb : Bx W' b (.slice none 0 0) 22) : PI t w b L W' out P v := by
  have hb' : ∀ q, q < b + 4 → q ≠ b → W'.heap[q]? = W.heap[q]? := fun q hq h2 => k.block q (by have := h.ab.lt; omega) h2
  exact ⟨h.go, h.sum, hb, h.r1.to (hb' _ (by omega) (by omega)), h.ob.to (hb' _ (by omega) (by omega)), h.ab.to (hb' _ (by omega) (by omega)), Row.sav h.row k fun g hg e => by have := h.own g hg; omega, h.own, h.few, k.gr h.gr fun q hq => by omega⟩
theorem ErrIs.savb {e u : Value} {c p : Int} {ty : TypeId} (h : ErrIs W e c p) (hx : Bx W b u ty) (k : Sav (fun q => q = b) W W') : ErrIs W' e c p := by
  rcases h with h | h | ⟨q, o, h1, h2, h3⟩
  · exact .inl h
  · exact .inr (.inl h)
  · have hne : q ≠ b := fun e => by
      subst e
      rw [cell_of_row W q (o + 1) _ _ _ hx] at h3
      simp at h3
    exact .inr (.inr ⟨q, o, h1, k.cell h2 hne, k.cell h3 hne⟩)
end
section
variable {ev : Operand → Value} {o : Oper} {w : World} {x y z : Operand} {u : Value}
theorem i_store0 {ad : Addr} (ho : o.op = .store 22 x (.const (.slice none 0 0))) (h : ev x = .pointer (some ad)) (hc : w.cell? ad = some u) (hf : w.frozen? ad = false) (hk : ev (.const (.slice none 0 0)) = .slice none 0 0) : (execOp ev o).run Tryd.prog w = .ok .skip (w.setCell ad (.slice none 0 0)) := by
  simp [execOp, ho, h, hk, hc, hf, go_sem]
theorem i_move (ho : o.op = .move x) (h : ev x = u) : (execOp ev o).run Tryd.prog w = .ok (.value u) w := by simp [execOp, ho, h, go_sem]
theorem i_load {ad : Addr} {a : Option Addr} {n c : Nat} (ho : o.op = .load 22 x) (h : ev x = .pointer (some ad)) (hc : w.cell? ad = some (.slice a n c)) : (execOp ev o).run Tryd.prog w = .ok (.value (.slice a n c)) w := by simp [execOp, ho, h, hc, go_sem]
theorem i_len {a : Option Addr} {n c : Nat} (ho : o.op = .call { callee := .builtin .len, args := #[x], argTypes := #[22] }) (h : ev x = .slice a n c) (hn : n ≤ 100) : (execOp ev o).run Tryd.prog w = .ok (.value (.int .i64 (n : Int))) w := by
  have h1 : (n : Int) ≤ 100 := by omega
  simp [execOp, ho, resolve, invoke, builtin, h, go_sem]
theorem i_shut {a : Option Addr} {n c : Nat} (ho : o.op = .slice 22 x none (some y) (some z)) (h : ev x = .slice a n c) (hy : ev y = .int .i64 (n : Int)) (hz : ev z = .int .i64 (n : Int)) (hc : n ≤ c) (ha : a = none → n = 0 ∧ c = 0) : (execOp ev o).run Tryd.prog w = .ok (.value (.slice a n n)) w := by
  have h0 : (0 : Int) ≤ (n : Int) := by omega
  have h1 : (n : Int) ≤ (c : Int) := by omega
  cases a with
  | none =>
    obtain ⟨rfl, rfl⟩ := ha rfl
    simp [execOp, ho, h, hy, hz, go_sem]
  | some ad => simp [execOp, ho, h, hy, hz, h0, h1, go_sem]
theorem i_item {q : Nat} {X : Itm} (ho : o.op = .load 42 x) (h : ev x = .pointer (some ⟨q, 0, none⟩)) (hb : ItemAt w q 0 X) : (execOp ev o).run Tryd.prog w = .ok (.value (.agg #[.int .i64 X.t, .int .i64 X.len, .int .i64 X.flow, .int .i64 X.band, .int .i64 X.mark])) w := by
  obtain ⟨d0, d1, d2, d3, d4⟩ := hb
  simp at d0 d1 d2 d3 d4
  simp [execOp, ho, h, d0, d1, d2, d3, d4, go_sem]
theorem i_build {X : Itm} (ho : o.op = .buildSlice 22 1 #[(0, y)]) (h : ev y = .agg #[.int .i64 X.t, .int .i64 X.len, .int .i64 X.flow, .int .i64 X.band, .int .i64 X.mark]) : (execOp ev o).run Tryd.prog w = .ok (.value (.slice (some ⟨w.heap.size, 0, none⟩) 1 1)) (w.alloc (.cells #[.int .i64 X.t, .int .i64 X.len, .int .i64 X.flow, .int .i64 X.band, .int .i64 X.mark] 42)) := by simp [execOp, ho, h, go_sem]
theorem i_app {v v2 v' : Value} {w' : World} {t : TypeId} (ho : o.op = .call { callee := .builtin .append, args := #[x, y], argTypes := #[t, t] }) (h : ev x = v) (k : ev y = v2) (hr : (Builtin.append_ #[t, t] o.type #[v, v2]).run Tryd.prog w = .ok v' w') : (execOp ev o).run Tryd.prog w = .ok (.value v') w' := by
  simp [execOp, ho, resolve, invoke, builtin, h, k, hr, Result.andThen]
theorem i_list {v : Value} (ho : o.op = .call { callee := .value (.func 14), args := #[x], argTypes := #[22] }) (hf : ev (.func 14) = .func (.func 14) #[] #[]) (h : ev x = v) : (execOp ev o).run Tryd.prog w = .ok (.enter 14 #[v]) w := by
  simp [execOp, ho, hf, h, resolve, invoke, go_sem]
theorem i_tell {v : Value} (ho : o.op = .call { callee := .value (.func 15), args := #[x], argTypes := #[29] }) (hf : ev (.func 15) = .func (.func 15) #[] #[]) (h : ev x = v) : (execOp ev o).run Tryd.prog w = .ok (.enter 15 #[v]) w := by
  simp [execOp, ho, hf, h, resolve, invoke, go_sem]
theorem i_at {c p : Int} (ho : o.op = .build 52 #[(0, x), (1, y)]) (h : ev x = .int .i64 c) (k : ev y = .int .i64 p) : (execOp ev o).run Tryd.prog w = .ok (.value (.agg #[.int .i64 c, .int .i64 p])) w := by simp [execOp, ho, h, k, go_sem]
theorem i_box {c p : Int} (ho : o.op = .box 52 x) (h : ev x = .agg #[.int .i64 c, .int .i64 p]) : (execOp ev o).run Tryd.prog w = .ok (.value (.pointer (some ⟨w.heap.size, 0, none⟩))) (w.alloc (.cells #[.int .i64 c, .int .i64 p] 52)) := by simp [execOp, ho, h, go_sem]
theorem i_iface {v : Value} (ho : o.op = .makeInterface 50 x) (h : ev x = v) : (execOp ev o).run Tryd.prog w = .ok (.value (.iface 50 v)) w := by simp [execOp, ho, h, go_sem]
end
theorem item_new (w : World) (X : Itm) : ItemAt (w.alloc (.cells #[.int .i64 X.t, .int .i64 X.len, .int .i64 X.flow, .int .i64 X.band, .int .i64 X.mark] 42)) w.heap.size 0 X :=
  ⟨cell_of_row _ _ 0 _ _ _ (heap_alloc_new w _), cell_of_row _ _ 1 _ _ _ (heap_alloc_new w _), cell_of_row _ _ 2 _ _ _ (heap_alloc_new w _), cell_of_row _ _ 3 _ _ _ (heap_alloc_new w _), cell_of_row _ _ 4 _ _ _ (heap_alloc_new w _)⟩
theorem ItemAt.sav {D : Nat → Prop} {w w' : World} {b o : Nat} {x : Itm} (h : ItemAt w b o x) (k : Sav D w w') (hb : ¬ D b) : ItemAt w' b o x := ⟨k.cell h.c0 hb, k.cell h.c1 hb, k.cell h.c2 hb, k.cell h.c3 hb, k.cell h.c4 hb⟩
def Fg.nItem (N : Nat) (x : Itm) : Fg := ⟨fun u w => ∃ g, u = .slice (some ⟨g, 0, none⟩) 1 1 ∧ N ≤ g ∧ ItemAt w g 0 x, fun _ _ _ ⟨g, h1, h2, h3⟩ k => ⟨g, h1, h2, h3.gr k⟩⟩
def Fg.iRow (L : List Itm) : Fg := ⟨fun u w => IRow w u L, fun _ _ _ h k => h.gr k⟩
def Fg.errI (c p : Int) : Fg := ⟨fun u w => (∃ t x, u = .iface t x) ∧ ErrIs w u c p, fun _ _ _ ⟨h1, h2⟩ k => ⟨h1, h2.gr k⟩⟩
def Fg.nAt (N : Nat) (c p : Int) : Fg := ⟨fun u w => ∃ g, u = .pointer (some ⟨g, 0, none⟩) ∧ N ≤ g ∧ w.cell? ⟨g, 0, none⟩ = some (.int .i64 c) ∧ w.cell? ⟨g, 1, none⟩ = some (.int .i64 p), fun _ _ _ ⟨g, h1, h2, h3, h4⟩ k => ⟨g, h1, h2, k.cell h3, k.cell h4⟩⟩
def Fg.fAt (N : Nat) (c p : Int) : Fg := ⟨fun u w => ∃ g, u = .iface 50 (.pointer (some ⟨g, 0, none⟩)) ∧ N ≤ g ∧ w.cell? ⟨g, 0, none⟩ = some (.int .i64 c) ∧ w.cell? ⟨g, 1, none⟩ = some (.int .i64 p), fun _ _ _ ⟨g, h1, h2, h3, h4⟩ k => ⟨g, h1, h2, k.cell h3, k.cell h4⟩⟩
/-- One more, where there is no room: the old rows stand. -/
theorem IRow.full {w : World} {a : Option Addr} {n g c : Nat} {x : Itm} {L : List Itm} (h : IRow w (.slice a n n) L) (h0 : ItemAt w g 0 x) (hn : L.length ≤ 100) :
    ∃ v' w', (Builtin.append_ #[22, 22] 22 #[.slice a n n, .slice (some ⟨g, 0, none⟩) 1 c]).run Tryd.prog w = .ok v' w' ∧ IRow w' v' (L ++ [x]) ∧ Gr w w' := by
  obtain ⟨v', w', hr, hrow, _⟩ := h.app (c := c) h0 (by omega)
  obtain ⟨i0, hi, hz0, hz1, hz2⟩ := info_parts itInfo
  have key : ∃ v2 w2, (Builtin.append_ #[22, 22] 22 #[.slice a n n, .slice (some ⟨g, 0, none⟩) 1 c]).run Tryd.prog w = .ok v2 w2 ∧ Gr w w2 := by
    have hl1 : (icells x).length = 1 * i0.size := by rw [hz1]; rfl
    obtain ⟨hl, h1⟩ := h
    rcases h1 with ⟨e, hn0⟩ | ⟨q, off, cap, cur, e, hh, k1, k2, k3, k4, k5⟩
    · injection e with e1 e2 e3
      subst e1 e2
      exact ⟨_, _, run_append_nil w _ _ 42 i0 _ Tryd.underlying22 hi hz0 ⟨g, 0, none⟩ 1 c (icells x) hl1 (inew h0) (by omega) (by omega) (by omega), ((Gr.refl w).drew).alloc _⟩
    · injection e with e1 e2 e3
      subst e1 e2
      have hnb : (L.length + 1) * i0.bytes ≤ 101 * 40 := by rw [hz2]; exact Nat.mul_le_mul_right _ (by omega)
      exact ⟨_, _, run_append_grow (P := Tryd.prog) w _ _ 42 i0 _ Tryd.underlying22 hi hz0 ⟨q, off, none⟩ L.length L.length (iflat L) (by rw [hl, hz1]) (fun j u hj => by
        have hj' : j < L.length * 5 := by rw [← hl]; exact (List.getElem?_eq_some_iff.1 hj).1
        rw [Addr.add_lit, cell_of_row w q _ cur _ (0, 0) hh, k5 j hj']
        exact hj) ⟨g, 0, none⟩ 1 c (icells x) hl1 (inew h0) (by omega) (by omega) (growslice_fits (by omega) (by omega)), ((Gr.refl w).drew).alloc _⟩
  obtain ⟨v2, w2, h2, hg⟩ := key
  rw [h2] at hr
  injection hr with e1 e2
  subst e1 e2
  exact ⟨_, _, h2, hrow, hg⟩
theorem IRow.capf {w : World} {a : Option Addr} {n c : Nat} {L : List Itm} (h : IRow w (.slice a n c) L) : n ≤ c ∧ (a = none → n = 0 ∧ c = 0) := by
  obtain ⟨hl, h1⟩ := h
  rcases h1 with ⟨e, hn0⟩ | ⟨q, off, cap, cur, e, hh, k1, k2, k3, k4, k5⟩
  · injection e with e1 e2 e3
    subst e1 e2 e3
    exact ⟨Nat.le_refl _, fun _ => ⟨rfl, rfl⟩⟩
  · injection e with e1 e2 e3
    subst e1 e2 e3
    exact ⟨k1, fun h => by cases h⟩
/-- How Parse answers. -/
def IpAns (t : ByteArray) (w : World) (E : Ending) (W : World) : Prop := Gr w W ∧ match ipAll t with
  | .ok l => ∃ v, E = .returned (.tuple #[v, .nilIface]) ∧ Items W v l
  | .err c p => ∃ e, E = .returned (.tuple #[.slice none 0 0, e]) ∧ (∃ t x, e = .iface t x) ∧ ErrIs W e c p
end Go.Proofs.YtofhmbbodoedjaaDoor

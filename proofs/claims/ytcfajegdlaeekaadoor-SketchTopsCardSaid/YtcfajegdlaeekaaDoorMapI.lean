/-
  A map of ints to ints that the call made, as a function: what stands at each key, which keys stand there, and how many at most.
-/
import Derived.Test.YtcfajegdlaeekaaDoorRowN
import Derived.Maps.OwnOps
import Derived.Maps.OwnSet
namespace Go.Proofs.YtcfajegdlaeekaaDoor
open Go.RowKit Go.Maps

theorem int_under : Tryd.prog.underlying 3 = some (.int .i64) := by kernel_rfl
theorem map_under : Tryd.prog.underlying 23 = some (.map 3 3) := by kernel_rfl
theorem int_zeroV (w : World) : (zeroValue 3).run Tryd.prog w = .ok (.int .i64 0) w := by kernel_rfl
theorem int_key : Keyed Tryd.prog 3 := int_keyed int_under
theorem lit_wf {x : Int} (h : Bd x) : (Lit.int .i64 x).wf = true := by
  unfold Bd at h
  show (decide (IntKind.i64.min ≤ x) && decide (x ≤ IntKind.i64.max)) = true
  rw [show IntKind.i64.min = -9223372036854775808 from by decide, show IntKind.i64.max = 9223372036854775807 from by decide, decide_eq_true h.1, decide_eq_true h.2]
  rfl
theorem lit_isKey (x : Int) : WideAt.IsKeyLit (.int .i64 x) := by simp [WideAt.IsKeyLit]
def fI {β : Type} (f : Int → β) (k : Int) (x : β) : Int → β := fun j => if j = k then x else f j
theorem fI_at {β : Type} (f : Int → β) (k : Int) (x : β) : fI f k x k = x := by simp [fI]
theorem fI_ne {β : Type} (f : Int → β) {j k : Int} (x : β) (h : j ≠ k) : fI f k x j = f j := by simp [fI, h]
/-- Block b is a map of ints to ints: f tells what stands at a key, g which keys stand there, n how many at most. -/
def MapI (w : World) (b n : Nat) (f : Int → Int) (g : Int → Bool) : Prop :=
  ∃ D : DataW Unit, w.ownsMap Tryd.prog 3 (plainElem Tryd.prog 3) b n D ∧ (∀ k, D.atKey (.int .i64 k) (.lit (.int .i64 0)) = .lit (.int .i64 (f k))) ∧ ∀ k, has D (.int .i64 k) = g k
section
variable {w w' : World} {b n : Nat} {f : Int → Int} {g : Int → Bool}
theorem MapI.made (w : World) : MapI (w.alloc (.map #[] 0)) w.heap.size 0 (fun _ => 0) (fun _ => false) :=
  ⟨.map [], World.ownsMap_made w _ _ _, fun _ => rfl, fun _ => rfl⟩
theorem MapI.lt (h : MapI w b n f g) : b < w.heap.size := by
  obtain ⟨D, h, _⟩ := h
  exact h.lt
theorem MapI.block (h : MapI w b n f g) (e : w'.heap[b]? = w.heap[b]?) : MapI w' b n f g := by
  obtain ⟨D, ⟨es, clock, hb, r⟩, h2⟩ := h
  exact ⟨D, ⟨es, clock, e.trans hb, r⟩, h2⟩
theorem MapI.sav {B : Nat → Prop} (h : MapI w b n f g) (s : Sav B w w') (hb : ¬ B b) : MapI w' b n f g := h.block (s.block b h.lt hb)
theorem MapI.gr (h : MapI w b n f g) (s : Gr w w') : MapI w' b n f g := h.block (s.block h.lt)
theorem MapI.mono {n' : Nat} (h : MapI w b n f g) (hn : n ≤ n') : MapI w b n' f g := by
  obtain ⟨D, h1, h2⟩ := h
  exact ⟨D, h1.mono hn, h2⟩
theorem MapI.congr {f' : Int → Int} {g' : Int → Bool} (h : MapI w b n f g) (e : f = f') (e2 : g = g') : MapI w b n f' g' := by rw [← e, ← e2]; exact h
theorem MapI.notCells (h : MapI w b n f g) {o : Nat} {v : Value} : w.cell? ⟨b, o, none⟩ ≠ some v := by
  obtain ⟨D, ⟨es, clock, hb, _⟩, _⟩ := h
  simp [World.cell?, hb]
/-- m[k] -/
theorem MapI.look (h : MapI w b n f g) {k : Int} (hk : Bd k) : (Instr.lookup 23 (.map (some b)) (.int .i64 k) false).run Tryd.prog w = .ok (.int .i64 (f k)) w := by
  obtain ⟨D, h1, h2, _⟩ := h
  obtain ⟨c, hrun, hat, _⟩ := h1.lookup_int int_key map_under int_under (int_zeroV w) (keyOf_int_mk int_under (lit_wf hk))
  rw [h2 k] at hat
  have e : f k = c := by
    have e1 := DataW.lit.inj hat
    exact (Lit.int.inj e1).2
  rw [e]
  exact hrun
/-- m[k] = v -/
theorem MapI.set (h : MapI w b n f g) (hn : n < 1000000) {k v : Int} (hk : Bd k) (hv : Bd v) : ∃ w', (Instr.mapUpdate 23 (.map (some b)) (.int .i64 k) (.int .i64 v)).run Tryd.prog w = .ok () w' ∧ MapI w' b (n + 1) (fI f k v) (fI g k true) ∧ (g k = true → MapI w' b n (fI f k v) (fI g k true)) ∧ Sav (fun q => q = b) w w' := by
  obtain ⟨D, h1, h2, h3⟩ := h
  have htidy := h1.tidy int_key
  obtain ⟨w', hrun, ho, hg⟩ := h1.update int_key map_under (by unfold maxLen; omega) (keyOf_int_mk int_under (lit_wf hk)) (plainElem_int int_under (lit_wf hv))
  have hf : ∀ j, (D.put (.int .i64 k) (.lit (.int .i64 v))).atKey (.int .i64 j) (.lit (.int .i64 0)) = .lit (.int .i64 (fI f k v j)) := fun j => by
    by_cases e : j = k
    · subst e
      rw [fI_at]
      exact atKey_put_same htidy.isMap (lit_isKey j) _ _
    · rw [fI_ne _ _ e, ← h2 j]
      exact atKey_put_other (fun e2 => e (by injection e2)) _ _
  have hh : ∀ j, has (D.put (.int .i64 k) (.lit (.int .i64 v))) (.int .i64 j) = fI g k true j := fun j => by
    by_cases e : j = k
    · subst e
      rw [fI_at]
      exact has_put_same htidy.isMap (lit_isKey j) _
    · rw [fI_ne _ _ e, ← h3 j]
      exact has_put_other (fun e2 => e (by injection e2)) _
  refine ⟨w', hrun, ⟨_, ho, hf, hh⟩, fun hgk => ⟨_, ?_, hf, hh⟩, .of_grown hg fun q e => (Option.some.inj e).symm⟩
  have hs := h1.size_le
  have hp := size_put htidy (k := .int .i64 k) (.lit (.int .i64 v) : DataW Unit)
  rw [h3 k, hgk, if_pos rfl] at hp
  obtain ⟨es, clock, k1, k2, k3, k4⟩ := ho
  refine ⟨es, clock, k1, k2, ?_, k4⟩
  rw [k4] at hp
  rw [size_eq, length_read] at hp
  omega
end
/-- m[k] = v, at the walk. -/
theorem wpList_set_mapI {w : World} {ops : Array Oper} {rest : List Oper} {o : Oper} {a : Act} {Q : Exit → Act → World → Prop} (hg : o.guard = none) (m x y : Operand) (hop : o.op = Op.mapUpdate 23 m x y)
    (b n : Nat) (f : Int → Int) (g : Int → Bool) (hm : a.eval m = .map (some b)) (h : MapI w b n f g) (hn : n < 1000000) (k v : Int) (hx : a.eval x = .int .i64 k) (hy : a.eval y = .int .i64 v) (hk : Bd k) (hv : Bd v)
    (hK : ∀ w', MapI w' b (n + 1) (fI f k v) (fI g k true) → (g k = true → MapI w' b n (fI f k v) (fI g k true)) → Sav (fun q => q = b) w w' → wpList Tryd.prog ops Q rest (a.put o.dst undef) w') :
    wpList Tryd.prog ops Q (o :: rest) a w := by
  refine wpList_plain hg fun K' hK' => ?_
  obtain ⟨w', hrun, r1, r2, r3⟩ := h.set hn hk hv
  unfold Oper.wp
  simp [execOp, hop, hm, hx, hy, hrun, Result.andThen]
  exact hK' _ _ (hK w' r1 r2 r3)
/-- m[k], at the walk. -/
theorem wpList_look_mapI {w : World} {ops : Array Oper} {rest : List Oper} {o : Oper} {a : Act} {Q : Exit → Act → World → Prop} (hg : o.guard = none) (m x : Operand) (hop : o.op = Op.lookup 23 m x false)
    (b n : Nat) (f : Int → Int) (g : Int → Bool) (hm : a.eval m = .map (some b)) (h : MapI w b n f g) (k : Int) (hx : a.eval x = .int .i64 k) (hk : Bd k)
    (hK : wpList Tryd.prog ops Q rest (a.put o.dst (.int .i64 (f k))) w) :
    wpList Tryd.prog ops Q (o :: rest) a w := by
  refine wpList_plain hg fun K' hK' => ?_
  have hrun := h.look hk
  unfold Oper.wp
  simp [execOp, hop, hm, hx, hrun, Result.andThen]
  exact hK' _ _ hK
end Go.Proofs.YtcfajegdlaeekaaDoor

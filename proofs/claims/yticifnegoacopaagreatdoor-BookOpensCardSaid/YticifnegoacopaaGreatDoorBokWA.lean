/-
  BookPlays: its ground.
-/
import Derived.Test.YticifnegoacopaaGreatDoorBokY
import Derived.Test.YticifnegoacopaaGreatDoorRegW
import Derived.Laws.IdiomStrings
namespace Go.Proofs.YticifnegoacopaaGreatDoor
open Go Go.RowKit

/-- string(u) -/
theorem bytes_string {w : World} {u : Value} {x : ByteArray} (h : BytesAt w u x) : (convert 25 9 u).run Tryz.prog w = .ok (.string x) w := by
  obtain ⟨a, c, rfl, h⟩ := h
  have hx : (⟨x.data.toList.toArray⟩ : ByteArray) = x := by cases x; simp
  rcases h with h | ⟨ad, rfl, _, hc⟩
  · have hl : x.data.toList.length = 0 := by rw [Array.length_toList]; exact h
    have hx0 : x = ⟨#[]⟩ := by
      apply ByteArray.ext
      exact Array.eq_empty_of_size_eq_zero h
    subst hx0
    show (convert _ _ (.slice a 0 c)).run _ w = _
    rw [run_convert_bytes_string w _ _ _ a 0 c Tryz.underlying25 Tryz.underlying5 Tryz.underlying9]
    cases a <;> simp [Conv.bytesToString, loadCells, go_sem] <;> rfl
  · have e := run_convert_bytes_back (P := Tryz.prog) w 25 9 5 ad c x.data.toList Tryz.underlying25 Tryz.underlying5 Tryz.underlying9 (fun j hj => hc j _ (by
      unfold Lib.strCells
      rw [List.getElem?_map, List.getElem?_eq_getElem hj]
      rfl))
    rw [hx, Array.length_toList] at e
    exact e
/-- The slice v holds the n bools B. -/
def BoolsAt (W : World) (v : Value) (n : Nat) (B : Nat → Bool) : Prop := ∃ a cap, v = .slice a n cap ∧ (0 < n → ∃ b off, a = some ⟨b, off, none⟩ ∧ ∀ j, j < n → W.cell? ⟨b, off + j, none⟩ = some (.bool (B j)))
/-- The entries behind the first i Adds. -/
def entTo (T : Nat → ByteArray) (F : Nat → Int) : Nat → List Ent
  | 0 => []
  | i + 1 => addL (entTo T F i) (T i) (F i)
theorem entTo_ok (T : Nat → ByteArray) (F : Nat → Int) : ∀ i, EntOk (entTo T F i)
  | 0 => EntOk.nil
  | i + 1 => addL_ok (entTo_ok T F i) _ _
/-- Between two rounds. -/
structure BPI (W : World) (n0 p r : Nat) (L : List Ent) (s : Nat) (wr : World) : Prop where
  b : Bok wr n0 p L s
  r : RBok wr n0 r L
  gr : Gr W wr
  hn : W.heap.size ≤ n0
theorem Bok.gr {w w' : World} {n0 p s : Nat} {L : List Ent} (h : Bok w n0 p L s) (k : Gr w w') : Bok w' n0 p L s := h.elim fun mv h => h.elim fun dv h => ⟨mv, dv, h.gr k⟩
theorem RBok.gr {w w' : World} {n0 r : Nat} {L : List Ent} (h : RBok w n0 r L) (k : Gr w w') : RBok w' n0 r L := h.elim fun v h => ⟨v, h.gr k⟩
theorem Bok.keep {w w' : World} {n0 p s r : Nat} {L M : List Ent} (h : Bok w n0 p L s) (hr : RBok w n0 r M) (k : Kp badR n0 r w w') : Bok w' n0 p L s := by
  obtain ⟨mv, dv, h⟩ := h
  obtain ⟨v, hr⟩ := hr
  exact ⟨mv, dv, h.keep hr k⟩
theorem RBok.keep {w w' : World} {n0 p s r : Nat} {L M : List Ent} (h : RBok w n0 r L) (hp : Bok w n0 p M s) (k : Kp badB n0 p w w') : RBok w' n0 r L := by
  obtain ⟨mv, dv, hp⟩ := hp
  obtain ⟨v, h⟩ := h
  exact ⟨v, h.keep hp k⟩
theorem Bok.low {w : World} {n0 p s : Nat} {L : List Ent} (h : Bok w n0 p L s) : n0 ≤ p := h.elim fun _ h => h.elim fun _ h => h.low
theorem RBok.low {w : World} {n0 r : Nat} {L : List Ent} (h : RBok w n0 r L) : n0 ≤ r := h.elim fun _ h => h.low
theorem Bok.ok {w : World} {n0 p s : Nat} {L : List Ent} (h : Bok w n0 p L s) : EntOk L := h.elim fun _ h => h.elim fun _ h => h.ok
theorem BPI.on {W : World} {n0 p r s : Nat} {L : List Ent} {wr w' : World} (h : BPI W n0 p r L s wr) (k : Gr wr w') : BPI W n0 p r L s w' := ⟨h.b.gr k, h.r.gr k, h.gr.trans k, h.hn⟩
/-- In the midst of the two Adds: which of them is through. -/
structure IAdd (W : World) (n0 p r s : Nat) (L L' : List Ent) (b1 b2 : Bool) (wr : World) : Prop where
  b : Bok wr n0 p (cond b1 L' L) s
  r : RBok wr n0 r (cond b2 L' L)
  gr : Gr W wr
  hn : W.heap.size ≤ n0
theorem IAdd.on {W : World} {n0 p r s : Nat} {L L' : List Ent} {b1 b2 : Bool} {wr w' : World} (h : IAdd W n0 p r s L L' b1 b2 wr) (k : Gr wr w') : IAdd W n0 p r s L L' b1 b2 w' := ⟨h.b.gr k, h.r.gr k, h.gr.trans k, h.hn⟩
/-- The program's Add, whatever it tells. -/
theorem add_any {w : World} {n0 p s : Nat} {L : List Ent} (h : Bok w n0 p L s) (x : ByteArray) (n : Int) (hx : x.size ≤ 3000) (hgl : ∀ u, Kp badB n0 p w u → Tab u) : Calls Tryz.prog 6 #[.pointer (some ⟨p, 0, none⟩), .string x, .int .i64 n] w fun e w' => e = .returned (errV (addC L x n)) ∧ Bok w' n0 p (addL L x n) s ∧ Kp badB n0 p w w' := by
  by_cases ha : addC L x n = 0
  · refine (add_yes h x n hx (hgl w (Kp.refl w)) ha hgl).mono ?_
    rintro e w' ⟨rfl, h1, h2⟩
    exact ⟨by rw [ha]; rfl, by rw [addL_yes ha]; exact h1, h2⟩
  · refine (add_no h x n hx ha).mono ?_
    rintro e w' ⟨rfl, h1, h2⟩
    exact ⟨rfl, by rw [addL_no ha]; exact h1, h2⟩
section
variable {ev : Operand → Value} {o : Oper} {w : World} {x y z : Operand} {u : Value}
theorem s_idxS {g off n c i : Nat} (ho : o.op = .indexAddr 22 x y) (h : ev x = .slice (some ⟨g, off, none⟩) n c) (k : ev y = .int .i64 (i : Int)) (hi : i < n) : (execOp ev o).run Tryz.prog w = .ok (.value (.pointer (some ⟨g, off + i, none⟩))) w := by
  have h0 : (0 : Int) ≤ (i : Int) := by omega
  have h1 : (i : Int) < (n : Int) := by omega
  simp [execOp, ho, h, k, h0, h1, go_sem]
theorem s_idxI {g off n c i : Nat} (ho : o.op = .indexAddr 23 x y) (h : ev x = .slice (some ⟨g, off, none⟩) n c) (k : ev y = .int .i64 (i : Int)) (hi : i < n) : (execOp ev o).run Tryz.prog w = .ok (.value (.pointer (some ⟨g, off + i, none⟩))) w := by
  have h0 : (0 : Int) ≤ (i : Int) := by omega
  have h1 : (i : Int) < (n : Int) := by omega
  simp [execOp, ho, h, k, h0, h1, go_sem]
theorem s_not {b : Bool} (ho : o.op = .unOp .not 4 x) (h : ev x = .bool b) : (execOp ev o).run Tryz.prog w = .ok (.value (.bool (!b))) w := by simp [execOp, ho, h, go_sem]
theorem s_neqB {b : Bool} (ho : o.op = .binOp .neq 4 x y 4) (h : ev x = .bool b) (k : ev y = .bool b) : (execOp ev o).run Tryz.prog w = .ok (.value (.bool false)) w := by cases b <;> simp [execOp, ho, h, k, go_sem]
theorem s_neqI {a : Int} (ho : o.op = .binOp .neq 3 x y 3) (h : ev x = .int .i64 a) (k : ev y = .int .i64 a) : (execOp ev o).run Tryz.prog w = .ok (.value (.bool false)) w := by simp [execOp, ho, h, k, go_sem]
theorem s_pickT {b : Value} (ho : o.op = .pick x (.const (.bool true)) y) (h : ev x = .bool false) (k : ev y = b) : (execOp ev o).run Tryz.prog w = .ok (.value b) w := by simp [execOp, ho, h, k, go_sem]
theorem s_frb {p : Nat} (ho : o.op = .fieldAddr 32 x 0) (h : ev x = .pointer (some ⟨p, 0, none⟩)) : (execOp ev o).run Tryz.prog w = .ok (.value (.pointer (some ⟨p, 0, none⟩))) w := by simp [execOp, ho, h, go_sem]
theorem s_loadE {ad : Addr} {v : Value} (hv : ∃ a n c, v = .slice a n c) (ho : o.op = .load 30 x) (h : ev x = .pointer (some ad)) (hc : w.cell? ad = some v) : (execOp ev o).run Tryz.prog w = .ok (.value v) w := by
  obtain ⟨a, n, c, rfl⟩ := hv
  simp [execOp, ho, h, hc, go_sem]
theorem s_lenE {a : Option Addr} {n c : Nat} (ho : o.op = .call { callee := .builtin .len, args := #[x], argTypes := #[30] }) (h : ev x = .slice a n c) (hn : n ≤ 500) : (execOp ev o).run Tryz.prog w = .ok (.value (.int .i64 (n : Int))) w := by
  have h1 : (n : Int) ≤ 500 := by omega
  simp [execOp, ho, resolve, invoke, builtin, h, go_sem]
theorem s_fn1 {f : FuncId} {T : TypeId} {a : Value} (he : ∀ args w, (callFunc f args).run Tryz.prog w = .ok (.enter f args) w) (ho : o.op = .call { callee := .value (.func f), args := #[x], argTypes := #[T] }) (hf : ev (.func f) = .func (.func f) #[] #[]) (h : ev x = a) : (execOp ev o).run Tryz.prog w = .ok (.enter f #[a]) w := by
  simp [execOp, ho, hf, h, resolve, invoke, he, go_sem]
theorem s_fn2 {f : FuncId} {T U : TypeId} {a b : Value} (he : ∀ args w, (callFunc f args).run Tryz.prog w = .ok (.enter f args) w) (ho : o.op = .call { callee := .value (.func f), args := #[x, y], argTypes := #[T, U] }) (hf : ev (.func f) = .func (.func f) #[] #[]) (h : ev x = a) (k : ev y = b) : (execOp ev o).run Tryz.prog w = .ok (.enter f #[a, b]) w := by
  simp [execOp, ho, hf, h, k, resolve, invoke, he, go_sem]
theorem s_fn3 {f : FuncId} {T U V : TypeId} {a b c : Value} (he : ∀ args w, (callFunc f args).run Tryz.prog w = .ok (.enter f args) w) (ho : o.op = .call { callee := .value (.func f), args := #[x, y, z], argTypes := #[T, U, V] }) (hf : ev (.func f) = .func (.func f) #[] #[]) (h : ev x = a) (k : ev y = b) (l : ev z = c) : (execOp ev o).run Tryz.prog w = .ok (.enter f #[a, b, c]) w := by
  simp [execOp, ho, hf, h, k, l, resolve, invoke, he, go_sem]
end
theorem en_add : ∀ args w, (callFunc 6 args).run Tryz.prog w = .ok (.enter 6 args) w := enters_of Tryz.func6 (by kernel_rfl) rfl
theorem en_radd : ∀ args w, (callFunc 7 args).run Tryz.prog w = .ok (.enter 7 args) w := enters_of Tryz.func7 (by kernel_rfl) rfl
theorem en_bare : ∀ args w, (callFunc 5 args).run Tryz.prog w = .ok (.enter 5 args) w := enters_of Tryz.func5 (by kernel_rfl) rfl
theorem en_name : ∀ args w, (callFunc 8 args).run Tryz.prog w = .ok (.enter 8 args) w := enters_of Tryz.func8 (by kernel_rfl) rfl
theorem en_rname : ∀ args w, (callFunc 9 args).run Tryz.prog w = .ok (.enter 9 args) w := enters_of Tryz.func9 (by kernel_rfl) rfl
theorem en_get : ∀ args w, (callFunc 12 args).run Tryz.prog w = .ok (.enter 12 args) w := enters_of Tryz.func12 (by kernel_rfl) rfl
theorem en_rget : ∀ args w, (callFunc 13 args).run Tryz.prog w = .ok (.enter 13 args) w := enters_of Tryz.func13 (by kernel_rfl) rfl
theorem en_lines : ∀ args w, (callFunc 14 args).run Tryz.prog w = .ok (.enter 14 args) w := enters_of Tryz.func14 (by kernel_rfl) rfl
theorem en_names : ∀ args w, (callFunc 16 args).run Tryz.prog w = .ok (.enter 16 args) w := enters_of Tryz.func16 (by kernel_rfl) rfl
theorem en_rnames : ∀ args w, (callFunc 17 args).run Tryz.prog w = .ok (.enter 17 args) w := enters_of Tryz.func17 (by kernel_rfl) rfl
theorem en_same : ∀ args w, (callFunc 15 args).run Tryz.prog w = .ok (.enter 15 args) w := enters_of Tryz.func15 (by kernel_rfl) rfl
end Go.Proofs.YticifnegoacopaaGreatDoor

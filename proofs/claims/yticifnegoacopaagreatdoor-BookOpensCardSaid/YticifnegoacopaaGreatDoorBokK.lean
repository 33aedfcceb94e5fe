/-
  The reference's Names: its ground: copy of strings by one place, a string put into its place.
-/
import Derived.Test.YticifnegoacopaaGreatDoorBokG
import Derived.Laws.CopyOwn
namespace Go.Proofs.YticifnegoacopaaGreatDoor
open Go Go.RowKit

/-- copy, one cell each. -/
theorem run_copy_row1 {P : Program} (w : World) (dT sT ty elem : TypeId) (g o dLen dCap : Nat) (a : Addr) (sLen sCap : Nat) (cur : Array Value) (t : TypeId) (cs : List Value)
    (hu : P.underlying dT = some (.slice elem)) (hs : (P.info? elem).map (·.size) = some 1)
    (hg : w.heap[g]? = some (.cells cur t (0, 0))) (hn : cs.length = Nat.min sLen dLen)
    (hsrc : ∀ j v, cs[j]? = some v → w.cell? (a.add j) = some v) (hfit : o + cs.length ≤ cur.size) (h1 : ∀ v ∈ cs, v.oneCell' = true) :
    (Builtin.copy_ #[dT, sT] ty #[.slice (some ⟨g, o, none⟩) dLen dCap, .slice (some a) sLen sCap]).run P w =
      .ok (goInt (Nat.min sLen dLen)) (w.setRow g (cur.toList.take o ++ cs ++ cur.toList.drop (o + cs.length)).toArray) := by
  have hl := run_loadCells_list (P := P) w a cs hsrc
  have hst := run_storeCells_at P g o t cs 0 cur w hg (by simpa using hfit) h1
  cases hq : P.info? elem with
  | none => simp [hq] at hs
  | some i =>
    have hi : i.size = 1 := by simpa [hq] using hs
    rw [hn] at hl
    simp [Builtin.copy_, run_underlying hu, Builtin.lenOf, Builtin.firstCells, sizeOf, typeInfo, hq, hi, hl, hst]
theorem run_copy_none1 {P : Program} (w : World) (dT sT ty elem : TypeId) (d : Option Addr) (dCap : Nat) (a : Addr) (sLen sCap : Nat)
    (hu : P.underlying dT = some (.slice elem)) (hs : (P.info? elem).map (·.size) = some 1) :
    (Builtin.copy_ #[dT, sT] ty #[.slice d 0 dCap, .slice (some a) sLen sCap]).run P w = .ok (goInt 0) w := by
  have hl := run_loadCells_list (P := P) w a [] (by simp)
  cases hq : P.info? elem with
  | none => simp [hq] at hs
  | some i =>
    simp at hl
    cases d <;> simp [Builtin.copy_, run_underlying hu, Builtin.lenOf, Builtin.firstCells, sizeOf, typeInfo, hq, hl, storeCells]
abbrev sv (L : List ByteArray) : List Value := L.map fun x => Value.string x
theorem sv_one {L : List ByteArray} {u : Value} (h : u ∈ sv L) : u.oneCell' = true ∧ isStr u := by
  obtain ⟨x, _, rfl⟩ := List.mem_map.1 h
  exact ⟨rfl, x, rfl⟩
theorem info_str1 : (Tryz.prog.info? 9).map (·.size) = some 1 := by kernel_rfl
section
variable {w w' : World} {v : Value} {L L' : List ByteArray} {b off c : Nat} {z x : ByteArray}
/-- 'copy(out[i+1:], out[i:])', one more place at the end. -/
theorem StrRow.shift {T ty : TypeId} {i dl sl : Nat} {d : Option Addr} {s : Addr} {dc sc : Nat} (hu : Tryz.prog.underlying T = some (.slice 9)) (h : StrRow w (.slice (some ⟨b, off, none⟩) (L.length + 1) c) (L ++ [z])) (hi : i ≤ L.length) (hd : i < L.length → d = some ⟨b, off + (i + 1), none⟩) (hsa : s = ⟨b, off + i, none⟩) (hdl : dl = L.length - i) (hsl : sl = L.length + 1 - i) :
    ∃ w', (Builtin.copy_ #[T, T] ty #[.slice d dl dc, .slice (some s) sl sc]).run Tryz.prog w = .ok (goInt dl) w' ∧ StrRow w' (.slice (some ⟨b, off, none⟩) (L.length + 1) c) (L.take i ++ (L ++ [z]).getD i ⟨#[]⟩ :: L.drop i) ∧ Sav (fun q => q = b) w w' := by
  subst hdl hsl hsa
  by_cases h0 : i = L.length
  · subst h0
    rw [Nat.sub_self]
    refine ⟨w, run_copy_none1 w T T ty _ d dc _ _ sc hu info_str1, ?_, Sav.refl _ _⟩
    have e : L.take L.length ++ (L ++ [z]).getD L.length ⟨#[]⟩ :: L.drop L.length = L ++ [z] := by simp
    rw [e]
    exact h
  · have hlt : i < L.length := by omega
    rw [hd hlt]
    obtain ⟨hl, hr⟩ := h
    rcases hr with ⟨e, _⟩ | ⟨g, o, cap, cur, e, hh, h1, h2, h3, h4, h5⟩
    · cases (Value.slice.inj e).1
    · obtain ⟨e1, _, e3⟩ := Value.slice.inj e
      cases e1
      subst e3
      obtain ⟨y, R, hx⟩ : ∃ y R, L.drop i ++ [z] = y :: R := by
        cases hq : L.drop i ++ [z] with
        | nil => simp at hq
        | cons y R => exact ⟨y, R, rfl⟩
      have hsplit : L ++ [z] = L.take i ++ (L.drop i ++ [z]) := by rw [← List.append_assoc, List.take_append_drop]
      have hgx : (L ++ [z]).getD i ⟨#[]⟩ = y := by
        rw [hsplit, hx, List.getD_eq_getElem?_getD, List.getElem?_append_right (by simp; omega)]
        simp [Nat.min_eq_left hi]
      rw [hgx]
      have hla : (sv (L.take i)).length = i := by rw [List.length_map, List.length_take, Nat.min_eq_left hi]
      have hcs : (sv (L.drop i)).length = L.length - i := by rw [List.length_map, List.length_drop]
      have hp1 : sv (L ++ [z]) = sv (L.take i) ++ (sv (L.drop i) ++ [.string z]) := by rw [sv, hsplit, List.map_append, List.map_append]; rfl
      have hp2 : sv (L ++ [z]) = (sv (L.take i) ++ [.string y]) ++ sv R := by rw [sv, hsplit, hx, List.map_append, List.append_assoc]; rfl
      have hp3 : sv (L.take i ++ y :: L.drop i) = (sv (L.take i) ++ [.string y]) ++ sv (L.drop i) := by rw [sv, List.map_append, List.append_assoc]; rfl
      have hpre : (sv (L.take i) ++ [Value.string y]).length = i + 1 := by rw [List.length_append, hla]; rfl
      rw [List.length_append, List.length_singleton] at h1 h5
      rw [Nat.mul_one] at h3 h5
      have hmin : Nat.min (L.length + 1 - i) (L.length - i) = L.length - i := Nat.min_eq_right (by omega)
      have hrun := run_copy_row1 (P := Tryz.prog) w T T ty 9 b (off + (i + 1)) (L.length - i) dc ⟨b, off + i, none⟩ (L.length + 1 - i) sc cur 9 (sv (L.drop i)) hu info_str1 hh (by rw [hcs, hmin]) (fun j v hj => by
        have hjl : j < L.length - i := by rw [← hcs]; exact (List.getElem?_eq_some_iff.1 hj).1
        rw [Addr.add_lit, cell_of_row w b _ cur 9 (0, 0) hh, Nat.add_assoc, h5 _ (by omega)]
        show (sv (L ++ [z]))[i + j]? = some v
        rw [hp1, List.getElem?_append_right (by omega), hla, show i + j - i = j by omega, List.getElem?_append_left (by omega)]
        exact hj) (by rw [hcs]; omega) (fun v hv => (sv_one hv).1)
      rw [hmin] at hrun
      refine ⟨_, hrun, ⟨by show (sv _).length = _; rw [hp3, List.length_append, hpre, hcs]; simp; omega, .inr ⟨b, off, c, _, by simp [Nat.min_eq_left hi]; omega, setRow_heap w b cur _ 9 _ hh, by simp; omega, h2, ?_, fun k u hu => ?_, fun j hj => ?_⟩⟩, ⟨rfl, rfl, rfl, by simp [World.setRow], fun q hq hne => setRow_other w b q _ hne⟩⟩
      · simp [hcs]; omega
      · have hu' := List.mem_of_getElem? (by simpa using hu : ((cur.toList.take (off + (i + 1)) ++ sv (L.drop i) ++ cur.toList.drop (off + (i + 1) + (sv (L.drop i)).length)))[k]? = some u)
        have hcur : ∀ u ∈ cur.toList, isStr u := fun u hu => by
          obtain ⟨m, hm, e⟩ := List.getElem_of_mem hu
          exact h4 m u (by rw [← e]; simp)
        rcases List.mem_append.1 hu' with hu' | hu'
        · rcases List.mem_append.1 hu' with hu' | hu'
          · exact hcur u (List.mem_of_mem_take hu')
          · exact (sv_one hu').2
        · exact hcur u (List.mem_of_mem_drop hu')
      · have hj' : j < L.length + 1 := by simpa [Nat.min_eq_left hi, show i + (L.length - i + 1) = L.length + 1 by omega] using hj
        have hto : (cur.toList.take (off + (i + 1))).length = off + (i + 1) := by simp; omega
        rw [List.getElem?_toArray]
        show _ = (sv (L.take i ++ y :: L.drop i))[j]?
        rw [hp3]
        by_cases hjl : j < i + 1
        · have ea : ∀ Z : List Value, ((sv (L.take i) ++ [Value.string y]) ++ Z)[j]? = (sv (L.take i) ++ [Value.string y])[j]? := fun Z => List.getElem?_append_left (by omega)
          rw [List.append_assoc, List.getElem?_append_left (by omega), List.getElem?_take, if_pos (by omega), Array.getElem?_toList, h5 j hj']
          show (sv (L ++ [z]))[j]? = _
          rw [hp2, ea, ea]
        · rw [List.append_assoc, List.getElem?_append_right (by omega), hto, List.getElem?_append_left (by omega), List.getElem?_append_right (by omega), hpre]
          exact congrArg (fun k => (sv (L.drop i))[k]?) (Nat.add_sub_add_left off j (i + 1))
theorem StrRow.free {n : Nat} (h : StrRow w (.slice (some ⟨b, off, none⟩) n c) L) (k : Nat) : w.frozen? ⟨b, k, none⟩ = false := by
  rcases h.2 with ⟨e, _⟩ | ⟨g, o, cap, cur, e, hh, _⟩
  · cases (Value.slice.inj e).1
  · obtain ⟨e1, _, _⟩ := Value.slice.inj e
    cases e1
    simp [World.frozen?, hh]
/-- out[i] = x -/
theorem StrRow.setAt {A D : List ByteArray} {n : Nat} (h : StrRow w (.slice (some ⟨b, off, none⟩) n c) (A ++ z :: D)) (x : ByteArray) : StrRow (w.setCell ⟨b, off + A.length, none⟩ (.string x)) (.slice (some ⟨b, off, none⟩) n c) (A ++ x :: D) ∧ Sav (fun q => q = b) w (w.setCell ⟨b, off + A.length, none⟩ (.string x)) := by
  refine ⟨?_, Sav.set b _ _⟩
  obtain ⟨hl, hr⟩ := h
  rcases hr with ⟨e, _⟩ | ⟨g, o, cap, cur, e, hh, h1, h2, h3, h4, h5⟩
  · cases (Value.slice.inj e).1
  · obtain ⟨e1, en, e3⟩ := Value.slice.inj e
    cases e1
    subst e3
    have hlen : (A ++ x :: D).length = (A ++ z :: D).length := by simp
    have hAl : A.length < (A ++ z :: D).length := by simp
    rw [Nat.mul_one] at h3 h5
    refine ⟨by simp, .inr ⟨b, off, c, cur.setIfInBounds (off + A.length) (.string x), by rw [en, hlen], ?_, by rw [hlen]; exact h1, h2, by simpa using h3, fun k u hu => ?_, fun j hj => ?_⟩⟩
    · simp [World.setCell, Array.getElem?_modify, hh]
    · rw [Array.getElem?_setIfInBounds] at hu
      split at hu
      · split at hu
        · cases hu; exact ⟨_, rfl⟩
        · cases hu
      · exact h4 k u hu
    · rw [Nat.mul_one, hlen] at hj
      have h5j := h5 j hj
      rw [Array.getElem?_setIfInBounds]
      by_cases e1 : j = A.length
      · subst e1
        rw [if_pos rfl, if_pos (by omega)]
        simp
      · rw [if_neg (by omega), h5j]
        simp only [List.map_append, List.map_cons]
        by_cases e2 : j < A.length
        · rw [List.getElem?_append_left (by simpa using e2), List.getElem?_append_left (by simpa using e2)]
        · obtain ⟨k, rfl⟩ : ∃ k, j = A.length + 1 + k := ⟨j - A.length - 1, by omega⟩
          rw [List.getElem?_append_right (by simp; omega), List.getElem?_append_right (by simp; omega)]
          simp only [List.length_map]
          rw [show A.length + 1 + k - A.length = k + 1 by omega]
          rfl
theorem StrRow.at {i : Nat} (h : StrRow w v L) (hi : i < L.length) : ∃ g off cap, v = .slice (some ⟨g, off, none⟩) L.length cap ∧ g < w.heap.size ∧ L.length ≤ cap ∧ w.cell? ⟨g, off + i, none⟩ = some (.string (L[i]'hi)) := by
  obtain ⟨g, off, cap, rfl, hc, _, hcell⟩ := Row.cells h (by omega)
  exact ⟨g, off, cap, rfl, Row.lt h (g := g) rfl, hc, hcell i _ (by simp [hi])⟩
end
theorem wpStill_val {P : Program} {ops : Array Oper} {w : World} {Q : Act → Prop} {a : Act} {o : Oper} {rest : List Oper} {u : Value} (hg : o.guard = none) (hr : (execOp a.eval o).run P w = .ok (.value u) w) (h : wpStill P ops w Q rest (a.put o.dst u)) : wpStill P ops w Q (o :: rest) a := by
  unfold wpStill
  rw [if_pos (by simp [Region.wanted, hg])]
  unfold Oper.still
  rw [hr]
  exact ⟨rfl, h⟩
theorem sliceS_run {ev : Operand → Value} {o : Oper} {w : World} {x y : Operand} {g off len cap kk : Nat} (ho : o.op = .slice 22 x (some y) none none) (h : ev x = .slice (some ⟨g, off, none⟩) len cap) (k : ev y = .int .i64 (kk : Int)) (hk : kk ≤ len) : (execOp ev o).run Tryz.prog w = .ok (.value (.slice (some (if cap = kk then ⟨g, off, none⟩ else ⟨g, off + kk, none⟩)) (len - kk) (cap - kk))) w := by
  have h0 : (0 : Int) ≤ (kk : Int) := by omega
  have h1 : (kk : Int) ≤ (len : Int) := by omega
  by_cases e : cap = kk
  · simp [execOp, ho, h, k, h0, h1, go_sem, e]
  · simp [execOp, ho, h, k, h0, h1, go_sem, e]
/-- out[k:] -/
theorem wpStill_sliceS {ops : Array Oper} {w : World} {Q : Act → Prop} {a : Act} {o : Oper} {rest : List Oper} (hg : o.guard = none) (x y : Operand) (ho : o.op = .slice 22 x (some y) none none) (g off len cap kk : Nat) (z : Int) (hx : a.eval x = .slice (some ⟨g, off, none⟩) len cap) (hy : a.eval y = .int .i64 z) (hz : z = (kk : Int)) (hk : kk ≤ len)
    (hK : ∀ d : Addr, (kk < cap → d = ⟨g, off + kk, none⟩) → wpStill Tryz.prog ops w Q rest (a.put o.dst (.slice (some d) (len - kk) (cap - kk)))) : wpStill Tryz.prog ops w Q (o :: rest) a := by
  subst hz
  exact wpStill_val hg (sliceS_run ho hx hy hk) (hK _ fun h => by rw [if_neg (by omega)])
theorem wpList_copy_shiftS {T : TypeId} {w : World} {L : List ByteArray} {z : ByteArray} {b off c : Nat} {ops : Array Oper} {rest : List Oper} {o : Oper} {a : Act} {Q : Exit → Act → World → Prop} (hgd : o.guard = none) (x y : Operand)
    (ho : o.op = .call { callee := .builtin .copy, args := #[x, y], argTypes := #[T, T] }) (hu : Tryz.prog.underlying T = some (.slice 9)) (h : StrRow w (.slice (some ⟨b, off, none⟩) (L.length + 1) c) (L ++ [z]))
    {i dl sl dc sc : Nat} {d : Option Addr} {s : Addr} (hx : a.eval x = .slice d dl dc) (hy : a.eval y = .slice (some s) sl sc) (hi : i ≤ L.length) (hd : i < L.length → d = some ⟨b, off + (i + 1), none⟩) (hsa : s = ⟨b, off + i, none⟩) (hdl : dl = L.length - i) (hsl : sl = L.length + 1 - i)
    (hK : ∀ w', StrRow w' (.slice (some ⟨b, off, none⟩) (L.length + 1) c) (L.take i ++ (L ++ [z]).getD i ⟨#[]⟩ :: L.drop i) → Sav (fun q => q = b) w w' → wpList Tryz.prog ops Q rest (a.put o.dst (goInt dl)) w') : wpList Tryz.prog ops Q (o :: rest) a w := by
  obtain ⟨w', hrun, h1, h2⟩ := StrRow.shift (ty := o.type) (dc := dc) (sc := sc) hu h hi hd hsa hdl hsl
  refine wpList_plain hgd fun _ hK' => ?_
  unfold Oper.wp
  simp [execOp, ho, resolve, invoke, builtin, hx, hy, hrun, Result.andThen]
  exact hK' _ _ (hK w' h1 h2)
end Go.Proofs.YticifnegoacopaaGreatDoor

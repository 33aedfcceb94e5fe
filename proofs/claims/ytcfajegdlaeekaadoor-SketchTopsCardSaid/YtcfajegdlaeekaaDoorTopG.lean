/-
  The reference's Sorted: its ground: copy of cells, a pair put into its place.
-/
import Derived.Test.YtcfajegdlaeekaaDoorTopE
import Derived.Laws.CopyOwn
namespace Go.Proofs.YtcfajegdlaeekaaDoor
open Go Go.RowKit Go.Maps

/-- copy, k cells each. -/
theorem run_copy_rowK {P : Program} (k : Nat) (w : World) (dT sT ty elem : TypeId) (g o dLen dCap : Nat) (a : Addr) (sLen sCap : Nat) (cur : Array Value) (t : TypeId) (cs : List Value)
    (hu : P.underlying dT = some (.slice elem)) (hs : (P.info? elem).map (·.size) = some k)
    (hg : w.heap[g]? = some (.cells cur t (0, 0))) (hn : cs.length = Nat.min sLen dLen * k)
    (hsrc : ∀ j v, cs[j]? = some v → w.cell? (a.add j) = some v) (hfit : o + cs.length ≤ cur.size) (h1 : ∀ v ∈ cs, v.oneCell' = true) :
    (Builtin.copy_ #[dT, sT] ty #[.slice (some ⟨g, o, none⟩) dLen dCap, .slice (some a) sLen sCap]).run P w =
      .ok (goInt (Nat.min sLen dLen)) (w.setRow g (cur.toList.take o ++ cs ++ cur.toList.drop (o + cs.length)).toArray) := by
  have hl := run_loadCells_list (P := P) w a cs hsrc
  have hst := run_storeCells_at P g o t cs 0 cur w hg (by simpa using hfit) h1
  cases hq : P.info? elem with
  | none => simp [hq] at hs
  | some i =>
    have hi : i.size = k := by simpa [hq] using hs
    rw [hn] at hl
    simp [Builtin.copy_, run_underlying hu, Builtin.lenOf, Builtin.firstCells, sizeOf, typeInfo, hq, hi, hl, hst]
theorem run_copy_noneK {P : Program} (k : Nat) (w : World) (dT sT ty elem : TypeId) (d : Option Addr) (dCap : Nat) (a : Addr) (sLen sCap : Nat)
    (hu : P.underlying dT = some (.slice elem)) (hs : (P.info? elem).map (·.size) = some k) :
    (Builtin.copy_ #[dT, sT] ty #[.slice d 0 dCap, .slice (some a) sLen sCap]).run P w = .ok (goInt 0) w := by
  have hl := run_loadCells_list (P := P) w a [] (by simp)
  cases hq : P.info? elem with
  | none => simp [hq] at hs
  | some i =>
    simp at hl
    cases d <;> simp [Builtin.copy_, run_underlying hu, Builtin.lenOf, Builtin.firstCells, sizeOf, typeInfo, hq, hl, storeCells]
section
variable {E : TypeId} {w w' : World} {v : Value} {L L' : List (Int × Int)} {b off c : Nat}
/-- 'copy(out[i+1:], out[i:])', one more place at the end. -/
theorem PRow.shift {z : Int × Int} {P : Program} {T ty : TypeId} {i dl sl : Nat} {d : Option Addr} {s : Addr} {dc sc : Nat} (hu : P.underlying T = some (.slice E)) (hs : (P.info? E).map (·.size) = some 2) (h : PRow E w (.slice (some ⟨b, off, none⟩) (L.length + 1) c) (L ++ [z])) (hi : i ≤ L.length) (hd : i < L.length → d = some ⟨b, off + (i + 1) * 2, none⟩) (hsa : s = ⟨b, off + i * 2, none⟩) (hdl : dl = L.length - i) (hsl : sl = L.length + 1 - i) :
    ∃ w', (Builtin.copy_ #[T, T] ty #[.slice d dl dc, .slice (some s) sl sc]).run P w = .ok (goInt dl) w' ∧ PRow E w' (.slice (some ⟨b, off, none⟩) (L.length + 1) c) (L.take i ++ (L ++ [z]).getD i (0, 0) :: L.drop i) ∧ Sav (fun q => q = b) w w' := by
  subst hdl hsl hsa
  by_cases h0 : i = L.length
  · subst h0
    rw [Nat.sub_self]
    refine ⟨w, run_copy_noneK 2 w T T ty E d dc _ _ sc hu hs, ?_, Sav.refl _ _⟩
    have e : L.take L.length ++ (L ++ [z]).getD L.length (0, 0) :: L.drop L.length = L ++ [z] := by simp
    rw [e]
    exact h
  · have hlt : i < L.length := by omega
    rw [hd hlt]
    obtain ⟨hl, hr⟩ := h
    rcases hr with ⟨e, _⟩ | ⟨g, o, cap, cur, e, hh, h1, h2, h3, h4, h5⟩
    · cases (Value.slice.inj e).1
    · obtain ⟨e1, _, e3⟩ := Value.slice.inj e
      cases e1
      subst e3
      obtain ⟨x, R, hx⟩ : ∃ x R, L.drop i ++ [z] = x :: R := by
        cases hq : L.drop i ++ [z] with
        | nil => simp at hq
        | cons x R => exact ⟨x, R, rfl⟩
      have hsplit : L ++ [z] = L.take i ++ (L.drop i ++ [z]) := by rw [← List.append_assoc, List.take_append_drop]
      have hgx : (L ++ [z]).getD i (0, 0) = x := by
        rw [hsplit, hx, List.getD_eq_getElem?_getD, List.getElem?_append_right (by simp; omega)]
        simp [Nat.min_eq_left hi]
      rw [hgx]
      have hla : (pflat (L.take i)).length = i * 2 := by rw [pflat_len, List.length_take, Nat.min_eq_left hi]
      have hcs : (pflat (L.drop i)).length = (L.length - i) * 2 := by rw [pflat_len, List.length_drop]
      have hp1 : pflat (L ++ [z]) = pflat (L.take i) ++ (pflat (L.drop i) ++ pcells z) := by rw [hsplit, pflat_app, pflat_app, pflat_one]
      have hp2 : pflat (L ++ [z]) = (pflat (L.take i) ++ pcells x) ++ pflat R := by rw [hsplit, hx, pflat_app, List.append_assoc]; rfl
      have hp3 : pflat (L.take i ++ x :: L.drop i) = (pflat (L.take i) ++ pcells x) ++ pflat (L.drop i) := by rw [pflat_app, List.append_assoc]; rfl
      have hpre : (pflat (L.take i) ++ pcells x).length = (i + 1) * 2 := by rw [List.length_append, hla]; simp [pcells]; omega
      rw [List.length_append, List.length_singleton] at h1 h5
      have hcap : (L.length + 1) * 2 ≤ c * 2 := Nat.mul_le_mul_right _ h1
      have hmin : Nat.min (L.length + 1 - i) (L.length - i) = L.length - i := Nat.min_eq_right (by omega)
      have hrun := run_copy_rowK (P := P) 2 w T T ty E b (off + (i + 1) * 2) (L.length - i) dc ⟨b, off + i * 2, none⟩ (L.length + 1 - i) sc cur E (pflat (L.drop i)) hu hs hh (by rw [hcs, hmin]) (fun j v hj => by
        have hjl : j < (L.length - i) * 2 := by rw [← hcs]; exact (List.getElem?_eq_some_iff.1 hj).1
        rw [Addr.add_lit, cell_of_row w b _ cur E (0, 0) hh, Nat.add_assoc, h5 _ (by omega), hp1, List.getElem?_append_right (by omega), hla, show i * 2 + j - i * 2 = j by omega, List.getElem?_append_left (by omega)]
        exact hj) (by rw [hcs]; omega) (fun v hv => (pflat_int _ v hv).1)
      rw [hmin] at hrun
      refine ⟨_, hrun, ⟨by rw [hp3, List.length_append, hpre, hcs]; simp; omega, .inr ⟨b, off, c, _, by simp [Nat.min_eq_left hi]; omega, setRow_heap w b cur _ E _ hh, by simp; omega, h2, ?_, fun k u hu => ?_, fun j hj => ?_⟩⟩, ⟨rfl, rfl, rfl, by simp [World.setRow], fun q hq hne => setRow_other w b q _ hne⟩⟩
      · simp [hcs]; omega
      · have hu' := List.mem_of_getElem? (by simpa using hu : ((cur.toList.take (off + (i + 1) * 2) ++ pflat (L.drop i) ++ cur.toList.drop (off + (i + 1) * 2 + (pflat (L.drop i)).length)))[k]? = some u)
        have hcur : ∀ u ∈ cur.toList, isInt u := fun u hu => by
          obtain ⟨m, hm, e⟩ := List.getElem_of_mem hu
          exact h4 m u (by rw [← e]; simp)
        rcases List.mem_append.1 hu' with hu' | hu'
        · rcases List.mem_append.1 hu' with hu' | hu'
          · exact hcur u (List.mem_of_mem_take hu')
          · exact (pflat_int _ u hu').2
        · exact hcur u (List.mem_of_mem_drop hu')
      · have hj' : j < (L.length + 1) * 2 := by simpa [Nat.min_eq_left hi, show i + (L.length - i + 1) = L.length + 1 by omega] using hj
        have hto : (cur.toList.take (off + (i + 1) * 2)).length = off + (i + 1) * 2 := by simp; omega
        rw [List.getElem?_toArray, hp3]
        by_cases hjl : j < (i + 1) * 2
        · have ea : ∀ Z : List Value, ((pflat (L.take i) ++ pcells x) ++ Z)[j]? = (pflat (L.take i) ++ pcells x)[j]? := fun Z => List.getElem?_append_left (by omega)
          rw [List.append_assoc, List.getElem?_append_left (by omega), List.getElem?_take, if_pos (by omega), Array.getElem?_toList, h5 j hj', hp2, ea, ea]
        · rw [List.append_assoc, List.getElem?_append_right (by omega), hto, List.getElem?_append_left (by omega), List.getElem?_append_right (by omega), hpre]
          congr 1
          omega
end
theorem wpStill_val {P : Program} {ops : Array Oper} {w : World} {Q : Act → Prop} {a : Act} {o : Oper} {rest : List Oper} {u : Value} (hg : o.guard = none) (hr : (execOp a.eval o).run P w = .ok (.value u) w) (h : wpStill P ops w Q rest (a.put o.dst u)) : wpStill P ops w Q (o :: rest) a := by
  unfold wpStill
  rw [if_pos (by simp [Region.wanted, hg])]
  unfold Oper.still
  rw [hr]
  exact ⟨rfl, h⟩
theorem sliceP_run {ev : Operand → Value} {o : Oper} {w : World} {x y : Operand} {g off len cap kk : Nat} (ho : o.op = .slice 25 x (some y) none none) (h : ev x = .slice (some ⟨g, off, none⟩) len cap) (k : ev y = .int .i64 (kk : Int)) (hk : kk ≤ len) : (execOp ev o).run Tryd.prog w = .ok (.value (.slice (some (if cap = kk then ⟨g, off, none⟩ else ⟨g, off + kk * 2, none⟩)) (len - kk) (cap - kk))) w := by
  have h0 : (0 : Int) ≤ (kk : Int) := by omega
  have h1 : (kk : Int) ≤ (len : Int) := by omega
  by_cases e : cap = kk
  · simp [execOp, ho, h, k, h0, h1, go_sem, e]
  · simp [execOp, ho, h, k, h0, h1, go_sem, e]
/-- out[k:] -/
theorem wpStill_sliceP {ops : Array Oper} {w : World} {Q : Act → Prop} {a : Act} {o : Oper} {rest : List Oper} (hg : o.guard = none) (x y : Operand) (ho : o.op = .slice 25 x (some y) none none) (g off len cap kk : Nat) (z : Int) (hx : a.eval x = .slice (some ⟨g, off, none⟩) len cap) (hy : a.eval y = .int .i64 z) (hz : z = (kk : Int)) (hk : kk ≤ len)
    (hK : ∀ d : Addr, (kk < cap → d = ⟨g, off + kk * 2, none⟩) → wpStill Tryd.prog ops w Q rest (a.put o.dst (.slice (some d) (len - kk) (cap - kk)))) : wpStill Tryd.prog ops w Q (o :: rest) a := by
  subst hz
  exact wpStill_val hg (sliceP_run ho hx hy hk) (hK _ fun h => by rw [if_neg (by omega)])
theorem wpList_copy_shift {P : Program} {E T : TypeId} {w : World} {L : List (Int × Int)} {z : Int × Int} {b off c : Nat} {ops : Array Oper} {rest : List Oper} {o : Oper} {a : Act} {Q : Exit → Act → World → Prop} (hgd : o.guard = none) (x y : Operand)
    (ho : o.op = .call { callee := .builtin .copy, args := #[x, y], argTypes := #[T, T] }) (hu : P.underlying T = some (.slice E)) (hz : (P.info? E).map (·.size) = some 2) (h : PRow E w (.slice (some ⟨b, off, none⟩) (L.length + 1) c) (L ++ [z]))
    {i dl sl dc sc : Nat} {d : Option Addr} {s : Addr} (hx : a.eval x = .slice d dl dc) (hy : a.eval y = .slice (some s) sl sc) (hi : i ≤ L.length) (hd : i < L.length → d = some ⟨b, off + (i + 1) * 2, none⟩) (hsa : s = ⟨b, off + i * 2, none⟩) (hdl : dl = L.length - i) (hsl : sl = L.length + 1 - i)
    (hK : ∀ w', PRow E w' (.slice (some ⟨b, off, none⟩) (L.length + 1) c) (L.take i ++ (L ++ [z]).getD i (0, 0) :: L.drop i) → Sav (fun q => q = b) w w' → wpList P ops Q rest (a.put o.dst (goInt dl)) w') : wpList P ops Q (o :: rest) a w := by
  obtain ⟨w', hrun, h1, h2⟩ := PRow.shift (ty := o.type) (dc := dc) (sc := sc) hu hz h hi hd hsa hdl hsl
  refine wpList_plain hgd fun _ hK' => ?_
  unfold Oper.wp
  simp [execOp, ho, resolve, invoke, builtin, hx, hy, hrun, Result.andThen]
  exact hK' _ _ (hK w' h1 h2)
theorem PRow.free {E : TypeId} {w : World} {L : List (Int × Int)} {b off n c : Nat} (h : PRow E w (.slice (some ⟨b, off, none⟩) n c) L) (k : Nat) : w.frozen? ⟨b, k, none⟩ = false := by
  rcases h.2 with ⟨e, _⟩ | ⟨g, o, cap, cur, e, hh, _⟩
  · cases (Value.slice.inj e).1
  · obtain ⟨e1, _, _⟩ := Value.slice.inj e
    cases e1
    simp [World.frozen?, hh]
/-- out[i] = p -/
theorem PRow.setAt {E : TypeId} {w : World} {A D : List (Int × Int)} {q : Int × Int} {b off n c : Nat} (h : PRow E w (.slice (some ⟨b, off, none⟩) n c) (A ++ q :: D)) (x y : Int) : PRow E ((w.setCell ⟨b, off + A.length * 2, none⟩ (.int .i64 x)).setCell ⟨b, off + A.length * 2 + 1, none⟩ (.int .i64 y)) (.slice (some ⟨b, off, none⟩) n c) (A ++ (x, y) :: D) ∧ Sav (fun q => q = b) w ((w.setCell ⟨b, off + A.length * 2, none⟩ (.int .i64 x)).setCell ⟨b, off + A.length * 2 + 1, none⟩ (.int .i64 y)) := by
  refine ⟨?_, (Sav.set b _ _).then (Sav.set b _ _)⟩
  obtain ⟨hl, hr⟩ := h
  rcases hr with ⟨e, _⟩ | ⟨g, o, cap, cur, e, hh, h1, h2, h3, h4, h5⟩
  · cases (Value.slice.inj e).1
  · obtain ⟨e1, en, e3⟩ := Value.slice.inj e
    cases e1
    subst e3
    have hlen : (A ++ (x, y) :: D).length = (A ++ q :: D).length := by simp
    have hA : (pflat A).length = A.length * 2 := pflat_len A
    have hfit : (A ++ q :: D).length * 2 ≤ c * 2 := Nat.mul_le_mul_right _ h1
    have hAl : A.length < (A ++ q :: D).length := by simp
    refine ⟨by rw [pflat_len], .inr ⟨b, off, c, (cur.setIfInBounds (off + A.length * 2) (.int .i64 x)).setIfInBounds (off + A.length * 2 + 1) (.int .i64 y), by rw [en, hlen], ?_, by rw [hlen]; exact h1, h2, by simpa using h3, fun k u hu => ?_, fun j hj => ?_⟩⟩
    · simp [World.setCell, Array.getElem?_modify, hh]
    · rw [Array.getElem?_setIfInBounds] at hu
      split at hu
      · split at hu
        · cases hu; exact ⟨_, rfl⟩
        · cases hu
      · rw [Array.getElem?_setIfInBounds] at hu
        split at hu
        · split at hu
          · cases hu; exact ⟨_, rfl⟩
          · cases hu
        · exact h4 k u hu
    · rw [hlen] at hj
      have hx1 : pflat (A ++ q :: D) = pflat A ++ (pcells q ++ pflat D) := by rw [pflat_app]; rfl
      have hx2 : pflat (A ++ (x, y) :: D) = pflat A ++ (pcells (x, y) ++ pflat D) := by rw [pflat_app]; rfl
      have h5j := h5 j hj
      rw [hx1] at h5j
      rw [hx2, Array.getElem?_setIfInBounds, Array.getElem?_setIfInBounds]
      by_cases e1 : j = A.length * 2
      · subst e1
        rw [if_neg (by omega), if_pos rfl, if_pos (by omega), List.getElem?_append_right (by omega), hA, Nat.sub_self]
        rfl
      · by_cases e2 : j = A.length * 2 + 1
        · subst e2
          rw [if_pos (by omega), if_pos (by simp; omega), List.getElem?_append_right (by omega), hA, show A.length * 2 + 1 - A.length * 2 = 1 by omega]
          rfl
        · rw [if_neg (by omega), if_neg (by omega), h5j]
          by_cases e3 : j < A.length * 2
          · rw [List.getElem?_append_left (by omega), List.getElem?_append_left (by omega)]
          · have ea : ∀ Z : List Value, (pflat A ++ Z)[j]? = Z[j - A.length * 2]? := fun Z => by rw [List.getElem?_append_right (by omega), hA]
            have eb : ∀ p : Int × Int, (pcells p ++ pflat D)[j - A.length * 2]? = (pflat D)[j - A.length * 2 - 2]? := fun p => List.getElem?_append_right (by simp only [pcells, List.length_cons, List.length_nil]; omega)
            rw [ea, ea, eb, eb]
/-- Put at its place. -/
theorem ins_ord {L : List (Int × Int)} {p : Int × Int} {i : Nat} (h : L.Pairwise Bef) (hi : i ≤ L.length) (hk : ∀ q ∈ L, q.1 ≠ p.1) (h1 : ∀ j, i ≤ j → j < L.length → ¬ Bef (L.getD j (0, 0)) p) (h2 : 0 < i → Bef (L.getD (i - 1) (0, 0)) p) : (L.take i ++ p :: L.drop i).Pairwise Bef := by
  have hp := List.pairwise_iff_getElem.1 h
  rw [List.pairwise_append]
  refine ⟨h.sublist (List.take_sublist _ _), List.pairwise_cons.2 ⟨fun q hq => ?_, h.sublist (List.drop_sublist _ _)⟩, fun a ha c hc => ?_⟩
  · obtain ⟨j, hj, rfl⟩ := List.getElem_of_mem hq
    rw [List.length_drop] at hj
    rw [List.getElem_drop]
    have h3 := h1 (i + j) (by omega) (by omega)
    rw [List.getD_eq_getElem?_getD, List.getElem?_eq_getElem (by omega)] at h3
    exact (Bef.total (hk _ (List.getElem_mem _))).resolve_left h3
  · obtain ⟨j, hj, rfl⟩ := List.getElem_of_mem ha
    rw [List.length_take] at hj
    rw [List.getElem_take]
    have h0 : 0 < i := by omega
    have h3 := h2 h0
    rw [List.getD_eq_getElem?_getD, List.getElem?_eq_getElem (by omega)] at h3
    have h4 : Bef (L[j]'(by omega)) p := by
      by_cases e : j = i - 1
      · subst e; exact h3
      · exact (hp j (i - 1) (by omega) (by omega) (by omega)).trans h3
    rcases List.mem_cons.1 hc with e | hc
    · rw [e]; exact h4
    · obtain ⟨m, hm, rfl⟩ := List.getElem_of_mem hc
      rw [List.length_drop] at hm
      rw [List.getElem_drop]
      exact hp j (i + m) (by omega) (by omega) (by omega)
theorem ins_perm (L : List (Int × Int)) (p : Int × Int) (i : Nat) : (L.take i ++ p :: L.drop i).Perm (p :: L) := by
  have := List.perm_middle (a := p) (l₁ := L.take i) (l₂ := L.drop i)
  rwa [List.take_append_drop] at this
/-- One more pair, wherever. -/
theorem SrtAt.put {w wr w1 w2 : World} {b r n : Nat} {f : Int → Int} {v v' : Value} {L L' : List (Int × Int)} {left : Int → Bool} {cnt cnt' : Nat} {E : TypeId} {x : Int} (h : SrtAt w wr b r n f v L left cnt E) (hx : left x = true) (hfx : f x ≠ 0) (m : MapR w1 b r n f (has_ f) (fI left x false) cnt') (s : Sav (fun q => q = r) wr w1) (hb : b < w.heap.size)
    (row : PRow E w2 v' L') (hL : L'.Perm ((x, f x) :: L)) (hsv : Sav (fun q => v.ownBlock = some q ∨ w1.heap.size ≤ q) w1 w2) (hv : ∀ g, v'.ownBlock = some g → v.ownBlock = some g ∨ w1.heap.size ≤ g) : SrtAt w w2 b r n f v' L' (fI left x false) cnt' E := by
  have hsz : w.heap.size ≤ w1.heap.size := Nat.le_trans h.gr.size s.size
  have hr1 : r < w1.heap.size := m.lt.2
  have hb1 : b < w1.heap.size := m.lt.1
  refine ⟨m.sav hsv (fun e => ?_) (fun e => ?_), row, fun g hg => ?_, h.it, ?_, ?_, fun p hp => ?_, fun k hk => ?_⟩
  · rcases e with e | e
    · have := (h.own b e).1; omega
    · omega
  · rcases e with e | e
    · exact (h.own r e).2 rfl
    · omega
  · rcases hv g hg with e | e
    · exact h.own g e
    · exact ⟨by omega, fun e2 => by omega⟩
  · exact hsv.gr (s.gr h.gr fun q e => by rw [e]; exact h.it) fun q e => by
      rcases e with e | e
      · exact (h.own q e).1
      · omega
  · rw [(hL.map _).nodup_iff, List.map_cons, List.nodup_cons]
    refine ⟨fun ha => ?_, h.nod⟩
    obtain ⟨p, hp, e⟩ := List.mem_map.1 ha
    have := (h.mem p hp).2.2
    rw [e, hx] at this
    cases this
  · rcases List.mem_cons.1 (hL.mem_iff.1 hp) with rfl | hp
    · exact ⟨rfl, hfx, fI_at ..⟩
    · have h1 := h.mem p hp
      refine ⟨h1.1, h1.2.1, ?_⟩
      by_cases e : p.1 = x
      · rw [e, fI_at]
      · rw [fI_ne _ _ e]; exact h1.2.2
  · by_cases e : k = x
    · exact .inr ⟨(x, f x), hL.mem_iff.2 (List.mem_cons_self ..), e.symm⟩
    · rw [fI_ne _ _ e]
      rcases h.all k hk with h1 | ⟨p, hp, h1⟩
      · exact .inl h1
      · exact .inr ⟨p, hL.mem_iff.2 (List.mem_cons_of_mem _ hp), h1⟩
end Go.Proofs.YtcfajegdlaeekaaDoor

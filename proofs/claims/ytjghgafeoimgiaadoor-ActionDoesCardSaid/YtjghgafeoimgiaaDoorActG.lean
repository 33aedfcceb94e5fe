/-
  A packet that may not be; the counters; which programs may be, in plain words; buckets are added. Rows of actions; which programs may be; a program that is made: its buckets one behind the other.
-/
import Derived.Test.YtjghgafeoimgiaaDoorActD
import Derived.Test.YtjghgafeoimgiaaDoorActE
import Derived.Test.YtjghgafeoimgiaaDoorApp
namespace Go.Proofs.YtjghgafeoimgiaaDoor
open Go.RowKit

set_option maxRecDepth 100000 in
set_option maxHeartbeats 8000000 in
theorem do_bad (pp : Nat) (x : Itm) (w : World) (hx : ¬ x.ok) : Calls Tryd.prog 9 #[.pointer (some ⟨pp, 0, none⟩), x.val] w fun e w' => e = .returned (.tuple #[Itm.zero.val, .bool false, .iface 36 (.int .i64 2)]) ∧ Gr w w' := by
  have HCK := Lib.hid (fun u => icheck_bad x u hx)
  have HX0 := Lib.hid ((xAt_new w x rfl (T := 54)).gr ((Gr.refl _).alloc (.cells #[.int .i64 0, .int .i64 0, .int .i64 0, .int .i64 0, .int .i64 0] 54)))
  have HY0 := Lib.hid (xAt_new (w.alloc (.cells #[.int .i64 x.t, .int .i64 x.len, .int .i64 x.flow, .int .i64 x.band, .int .i64 x.mark] 54)) .zero (n := w.heap.size + 1) (by simp) (T := 54))
  have HG0 := Lib.hid (((Gr.refl w).alloc (.cells #[.int .i64 x.t, .int .i64 x.len, .int .i64 x.flow, .int .i64 x.band, .int .i64 x.mark] 54)).alloc (.cells #[.int .i64 0, .int .i64 0, .int .i64 0, .int .i64 0, .int .i64 0] 54))
  clear hx
  unfold Itm.zero at HY0
  simp only at HY0
  unfold Itm.val at HCK ⊢
  unfold Itm.zero
  go_enter Tryd.func9, Tryd.ntmps9
  go_upto_region 1 with fail
  obtain ⟨w0, hw0⟩ : ∃ u, u = ((w.alloc (.cells #[.int .i64 x.t, .int .i64 x.len, .int .i64 x.flow, .int .i64 x.band, .int .i64 x.mark] 54)).alloc (.cells #[.int .i64 0, .int .i64 0, .int .i64 0, .int .i64 0, .int .i64 0] 54)) := ⟨_, rfl⟩
  rw [← hw0] at HX0 HY0 HG0
  obtain ⟨xb, hxb⟩ : ∃ u, u = w.heap.size := ⟨_, rfl⟩
  obtain ⟨yb, hyb⟩ : ∃ u, u = w.heap.size + 1 := ⟨_, rfl⟩
  have HYW : Hid (w.heap.size ≤ yb) := Lib.hid (by omega)
  rw [← hyb] at HY0
  rw [← hxb] at HX0
  rw [← hw0, ← hyb, ← hxb]
  clear hw0 hyb hxb
  obtain ⟨x0, x1, x2, x3, x4⟩ := HX0.out.at_
  simp only [Nat.zero_add] at x1 x2 x3 x4
  go_upto_region 2 with (go_at_call 20; refine (HCK.out _).mono ?_; rintro e w1 ⟨rfl, hg⟩; have HG1 := Lib.hid hg; clear hg)
  clear x0 x1 x2 x3 x4
  have HY1 := Lib.hid (HY0.out.gr HG1.out)
  obtain ⟨⟨y0, y1, y2, y3, y4⟩, g0, g1, g2, g3, g4⟩ := HY1.out
  simp only [Nat.zero_add] at y1 y2 y3 y4
  go_wp2
  obtain ⟨w9, hw9⟩ : ∃ u, u = (((((w1.setCell ⟨yb, 0, none⟩ (.int .i64 0)).setCell ⟨yb, 1, none⟩ (.int .i64 0)).setCell ⟨yb, 2, none⟩ (.int .i64 0)).setCell ⟨yb, 3, none⟩ (.int .i64 0)).setCell ⟨yb, 4, none⟩ (.int .i64 0)) := ⟨_, rfl⟩
  have H9 := Lib.hid (show XAt w9 yb .zero ∧ Sav (fun g => g = yb) w1 w9 ∧ KeepC w1 w9 from by rw [hw9]; exact HY1.out.set5 .zero)
  rw [← hw9]
  clear hw9 y0 y1 y2 y3 y4 g0 g1 g2 g3 g4
  obtain ⟨q0, q1, q2, q3, q4⟩ := H9.out.1.at_
  unfold Itm.zero at q0 q1 q2 q3 q4
  simp only [Nat.zero_add] at q0 q1 q2 q3 q4
  refine bodyPost_ret (v := .tuple #[.agg #[.int .i64 0, .int .i64 0, .int .i64 0, .int .i64 0, .int .i64 0], .bool false, .iface 36 (.int .i64 2)]) (by simp [results, Tryd.results9, go_sem, q0, q1, q2, q3, q4]) rfl ?_
  exact ⟨rfl, Sav.gr (HG0.out.trans HG1.out) H9.out.2.1 (fun q e => by rw [e]; exact HYW.out)⟩
set_option maxRecDepth 100000 in
set_option maxHeartbeats 8000000 in
theorem rdo_bad (pp : Nat) (x : Itm) (w : World) (hx : ¬ x.ok) : Calls Tryd.prog 10 #[.pointer (some ⟨pp, 0, none⟩), x.val] w fun e w' => e = .returned (.tuple #[Itm.zero.val, .bool false, .int .i64 2]) ∧ Gr w w' := by
  have HCK := Lib.hid (fun u => richeck_any x u)
  rw [ckItem_no hx] at HCK
  have HX0 := Lib.hid ((xAt_new w x rfl (T := 54)).gr ((Gr.refl _).alloc (.cells #[.int .i64 0, .int .i64 0, .int .i64 0, .int .i64 0, .int .i64 0] 54)))
  have HY0 := Lib.hid (xAt_new (w.alloc (.cells #[.int .i64 x.t, .int .i64 x.len, .int .i64 x.flow, .int .i64 x.band, .int .i64 x.mark] 54)) .zero (n := w.heap.size + 1) (by simp) (T := 54))
  have HG0 := Lib.hid (((Gr.refl w).alloc (.cells #[.int .i64 x.t, .int .i64 x.len, .int .i64 x.flow, .int .i64 x.band, .int .i64 x.mark] 54)).alloc (.cells #[.int .i64 0, .int .i64 0, .int .i64 0, .int .i64 0, .int .i64 0] 54))
  clear hx
  unfold Itm.zero at HY0
  simp only at HY0
  unfold Itm.val at HCK ⊢
  unfold Itm.zero
  go_enter Tryd.func10, Tryd.ntmps10
  go_upto_region 1 with fail
  obtain ⟨w0, hw0⟩ : ∃ u, u = ((w.alloc (.cells #[.int .i64 x.t, .int .i64 x.len, .int .i64 x.flow, .int .i64 x.band, .int .i64 x.mark] 54)).alloc (.cells #[.int .i64 0, .int .i64 0, .int .i64 0, .int .i64 0, .int .i64 0] 54)) := ⟨_, rfl⟩
  rw [← hw0] at HX0 HY0 HG0
  obtain ⟨xb, hxb⟩ : ∃ u, u = w.heap.size := ⟨_, rfl⟩
  obtain ⟨yb, hyb⟩ : ∃ u, u = w.heap.size + 1 := ⟨_, rfl⟩
  have HYW : Hid (w.heap.size ≤ yb) := Lib.hid (by omega)
  rw [← hyb] at HY0
  rw [← hxb] at HX0
  rw [← hw0, ← hyb, ← hxb]
  clear hw0 hyb hxb
  obtain ⟨x0, x1, x2, x3, x4⟩ := HX0.out.at_
  simp only [Nat.zero_add] at x1 x2 x3 x4
  go_upto_region 2 with (go_at_call 22; refine (HCK.out _).mono ?_; rintro e w1 ⟨rfl, hg⟩; have HG1 := Lib.hid hg; clear hg)
  clear x0 x1 x2 x3 x4
  have HY1 := Lib.hid (HY0.out.gr HG1.out)
  obtain ⟨⟨y0, y1, y2, y3, y4⟩, g0, g1, g2, g3, g4⟩ := HY1.out
  simp only [Nat.zero_add] at y1 y2 y3 y4
  go_wp2
  obtain ⟨w9, hw9⟩ : ∃ u, u = (((((w1.setCell ⟨yb, 0, none⟩ (.int .i64 0)).setCell ⟨yb, 1, none⟩ (.int .i64 0)).setCell ⟨yb, 2, none⟩ (.int .i64 0)).setCell ⟨yb, 3, none⟩ (.int .i64 0)).setCell ⟨yb, 4, none⟩ (.int .i64 0)) := ⟨_, rfl⟩
  have H9 := Lib.hid (show XAt w9 yb .zero ∧ Sav (fun g => g = yb) w1 w9 ∧ KeepC w1 w9 from by rw [hw9]; exact HY1.out.set5 .zero)
  rw [← hw9]
  clear hw9 y0 y1 y2 y3 y4 g0 g1 g2 g3 g4
  obtain ⟨q0, q1, q2, q3, q4⟩ := H9.out.1.at_
  unfold Itm.zero at q0 q1 q2 q3 q4
  simp only [Nat.zero_add] at q0 q1 q2 q3 q4
  refine bodyPost_ret (v := .tuple #[.agg #[.int .i64 0, .int .i64 0, .int .i64 0, .int .i64 0, .int .i64 0], .bool false, .int .i64 2]) (by simp [results, Tryd.results10, go_sem, q0, q1, q2, q3, q4]) rfl ?_
  exact ⟨rfl, Sav.gr (HG0.out.trans HG1.out) H9.out.2.1 (fun q e => by rw [e]; exact HYW.out)⟩

section
variable {E : TypeId} {size : Nat} {K : Value → Prop} {w w' : World} {v : Value} {n : Nat} {xs : List Value}
theorem Row.empty (E : TypeId) (size : Nat) (K : Value → Prop) (w : World) : Row E size K (w.alloc (.cells #[] E)) (.slice (some ⟨w.heap.size, 0, none⟩) 0 0) 0 [] :=
  ⟨by simp, .inr ⟨w.heap.size, 0, 0, #[], rfl, heap_alloc_new w _, Nat.le_refl _, by decide, by simp, fun i u h => by simp at h, fun j hj => by simp at hj⟩⟩
theorem wpList_append_rowM {P : Program} {ops : Array Oper} {rest : List Oper} {o : Oper} {a : Act} {Q : Exit → Act → World → Prop} (hgd : o.guard = none) (s x : Operand) (t : TypeId)
    (ho : o.op = .call { callee := .builtin .append, args := #[s, x], argTypes := #[t, t] }) (i : TypeInfo) (z : Value) (bytes : Nat) (ht : P.underlying t = some (.slice E)) (hi : P.info? E = some i) (hz : i.zero = some z) (hsize : i.size = size) (hby : i.bytes = bytes) (hzs : z.cells.size = size) (hKz : ∀ u ∈ z.cells.toList, K u)
    (hs : a.eval s = v) (h : Row E size K w v n xs) (ad : Addr) (c m : Nat) (hx : a.eval x = .slice (some ad) m c) (hm : 0 < m) (news : List Value) (hl : news.length = m * size) (hnews : ∀ j u, news[j]? = some u → w.cell? (ad.add j) = some u) (h1 : ∀ u ∈ news, u.oneCell' = true) (hKn : ∀ u ∈ news, K u) (hn : n + m ≤ 1000000) (hb : bytes ≤ 1000)
    (hK : ∀ v' w', Row E size K w' v' (n + m) (xs ++ news) → w.grownBy w' v.ownBlock → (∀ g, v'.ownBlock = some g → v.ownBlock = some g ∨ w.heap.size ≤ g) → wpList P ops Q rest (a.put o.dst v') w') : wpList P ops Q (o :: rest) a w := by
  obtain ⟨v', w', hr, h2, h3, h4, _⟩ := Row.appendN (P := P) t o.type i z bytes ht hi hz hsize hby hzs hKz h ad c m hm news hl hnews h1 hKn hn hb
  refine wpList_plain hgd fun _ hK' => ?_
  unfold Oper.wp
  simp [execOp, ho, resolve, invoke, builtin, hs, hx, hr, Result.andThen]
  exact hK' _ _ (hK v' w' h2 h3 h4)
end
/-- The counters, where they stand. -/
theorem PAt.ints {S : BKind} {E : TypeId} {w : World} {pp n m : Nat} {lv bv : Value} {F : Nat → Nat → Int} {Bk : Nat → Bkt} {bp : Nat → Nat} {c : Nat → Int} {bs : Nat → BSt} (h : PAt S E w pp lv bv n m F Bk bp c bs) : Ints w (.slice (some ⟨pp, 2, none⟩) 8 8) (fnList c 8) :=
  .inr ⟨pp, 2, 8, by rw [fnList_len], by rw [fnList_len]; decide, by rw [fnList_len]; decide, fun i hi => by
    rw [fnList_len] at hi
    rw [fnList_getD c hi]
    exact h.cc i hi⟩
def intL (c : Nat → Int) (k : Nat) : List Value := (List.range k).map fun i => .int .i64 (c i)
theorem intL_int (c : Nat → Int) (k : Nat) : ∀ u ∈ intL c k, u.oneCell' = true ∧ isInt u := by
  intro u hu
  obtain ⟨i, _, rfl⟩ := List.mem_map.1 hu
  exact ⟨rfl, _, rfl⟩
theorem PAt.counter {S : BKind} {E : TypeId} {w : World} {pp n m : Nat} {lv bv : Value} {F : Nat → Nat → Int} {Bk : Nat → Bkt} {bp : Nat → Nat} {c : Nat → Int} {bs : Nat → BSt} (h : PAt S E w pp lv bv n m F Bk bp c bs) {j : Nat} {u : Value} (hj : (intL c 8)[j]? = some u) : w.cell? (Addr.add ⟨pp, 2, none⟩ j) = some u := by
  have hl : j < 8 := by have := (List.getElem?_eq_some_iff.1 hj).1; simpa [intL] using this
  rw [Addr.add_lit, h.cc j hl]
  simpa [intL, hl] using hj
set_option maxRecDepth 100000 in
set_option maxHeartbeats 8000000 in
theorem counts_any {S : BKind} {E : TypeId} (w : World) (pp n m : Nat) (lv bv : Value) (F : Nat → Nat → Int) (Bk : Nat → Bkt) (bp : Nat → Nat) (c : Nat → Int) (bs : Nat → BSt) (h : PAt S E w pp lv bv n m F Bk bp c bs) :
    Calls Tryd.prog 13 #[.pointer (some ⟨pp, 0, none⟩)] w fun e w' => ∃ v, e = .returned v ∧ Ints w' v (fnList c 8) ∧ Gr w w' := by
  have H := Lib.hid h
  clear h
  obtain ⟨i0, hi0, hz0, hz1, hz2⟩ := info_parts info_intE
  go_enter Tryd.func13, Tryd.ntmps13
  go_wp2_with (at_builtin; refine wpList_append_rowM rfl _ _ _ (by rfl) i0 (.int .i64 0) 8 Tryd.underlying61 hi0 hz0 hz1 hz2 rfl ?c1 (by rfl) (Row.empty 3 1 isInt w) ⟨pp, 2, none⟩ 8 8 (by rfl) (by decide) (intL c 8) (by simp [intL]) ?c2 (fun u hu => (intL_int c 8 u hu).1) (fun u hu => (intL_int c 8 u hu).2) (by decide) (by decide) ?_; (case c1 => (intro u hu; simp [Value.cells] at hu; exact ⟨_, hu⟩)); (case c2 => (intro j u hj; exact (H.out.gr ((Gr.refl w).alloc _)).counter hj)); intro v' w' hrow hgr hold; have HROW := Lib.hid hrow; have HGR := Lib.hid (gr_grown hgr ((Gr.refl w).alloc _) (fun g hg => by simp [Value.ownBlock] at hg; omega)); clear hrow hgr hold)
  go_ret
  exact ⟨_, rfl, (show IntRow _ _ (fnList c 8) from by have h1 := HROW.out; unfold IntRow; rw [fnList_len]; simpa [intL, fnList, Function.comp_def] using h1).ints, HGR.out⟩

def flatF (F : Nat → Nat → Int) : Nat → List Value
  | 0 => []
  | n + 1 => flatF F n ++ [.int .i64 (F n 0), .int .i64 (F n 1), .int .i64 (F n 2)]
theorem flatF_len (F : Nat → Nat → Int) : ∀ n, (flatF F n).length = n * 3
  | 0 => rfl
  | n + 1 => by rw [flatF, List.length_append, flatF_len F n]; show n * 3 + 3 = _; omega
theorem flatF_get (F : Nat → Nat → Int) : ∀ (n i j : Nat), i < n → j < 3 → (flatF F n)[i * 3 + j]? = some (.int .i64 (F i j))
  | n + 1, i, j, hi, hj => by
    rw [flatF]
    rcases Nat.lt_or_ge i n with h | h
    · rw [List.getElem?_append_left (by rw [flatF_len]; omega)]
      exact flatF_get F n i j h hj
    · obtain rfl : i = n := by omega
      rw [List.getElem?_append_right (by rw [flatF_len]; omega), flatF_len, show i * 3 + j - i * 3 = j from by omega]
      match j, hj with
      | 0, _ => rfl
      | 1, _ => rfl
      | 2, _ => rfl
theorem flatF_int (F : Nat → Nat → Int) : ∀ (n : Nat), ∀ u ∈ flatF F n, u.oneCell' = true ∧ isInt u
  | 0, u, hu => by simp [flatF] at hu
  | n + 1, u, hu => by
    rw [flatF] at hu
    rcases List.mem_append.1 hu with h | h
    · exact flatF_int F n u h
    · simp at h
      rcases h with rfl | rfl | rfl <;> exact ⟨rfl, _, rfl⟩
theorem Recs.of_row {E : TypeId} {w : World} {v : Value} {n : Nat} {F : Nat → Nat → Int} (h : Row E 3 isInt w v n (flatF F n)) : Recs 3 w v n F := by
  rcases Nat.eq_zero_or_pos n with h0 | h0
  · obtain ⟨a, cap, rfl⟩ := Row.shape h
    subst h0
    exact .inl ⟨_, _, rfl, rfl⟩
  · obtain ⟨g, off, cap, rfl, h1, h2, h3⟩ := Row.cells h h0
    refine .inr ⟨g, off, cap, rfl, h0, ⟨h1, by unfold maxLen at h2; omega⟩, fun i hi j hj => ?_⟩
    rw [Nat.add_assoc]
    exact h3 _ _ (flatF_get F n i j hi hj)
theorem Recs.flat {w : World} {b off n cap : Nat} {F : Nat → Nat → Int} (h : Recs 3 w (.slice (some ⟨b, off, none⟩) n cap) n F) : ∀ (j : Nat) (u : Value), (flatF F n)[j]? = some u → w.cell? (Addr.add ⟨b, off, none⟩ j) = some u := by
  intro j u hj
  have hl : j < n * 3 := by rw [← flatF_len F n]; exact (List.getElem?_eq_some_iff.1 hj).1
  obtain ⟨b', off', cap', e, _, _, hc⟩ := h.cells (by omega)
  injection e with e1 e2 e3
  injection e1 with e1
  injection e1 with e4 e5
  subst e4 e5
  have h1 := flatF_get F n (j / 3) (j % 3) (by omega) (by omega)
  rw [show j / 3 * 3 + j % 3 = j from by omega, hj] at h1
  have h2 := hc.out (j / 3) (by omega) (j % 3) (by omega)
  rw [Addr.add_lit, Option.some.inj h1, ← h2]
  congr 2
  omega
/-- append of such records to nothing -/
theorem wpList_append_recs {P : Program} {E : TypeId} {w : World} {n : Nat} {F : Nat → Nat → Int} {ops : Array Oper} {rest : List Oper} {o : Oper} {a : Act} {Q : Exit → Act → World → Prop} (hgd : o.guard = none) (s x : Operand) (t : TypeId)
    (ho : o.op = .call { callee := .builtin .append, args := #[s, x], argTypes := #[t, t] }) (i : TypeInfo) (z : Value) (ht : P.underlying t = some (.slice E)) (hi : P.info? E = some i) (hz : i.zero = some z) (hsize : i.size = 3) (hby : i.bytes = 24) (hzs : z.cells.size = 3) (hKz : ∀ u ∈ z.cells.toList, isInt u)
    (g : Nat) (hs : a.eval s = .slice (some ⟨g, 0, none⟩) 0 0) (h : Row E 3 isInt w (.slice (some ⟨g, 0, none⟩) 0 0) 0 []) (ad : Option Addr) (c : Nat) (hx : a.eval x = .slice ad n c) (hr : Recs 3 w (.slice ad n c) n F) (hn : n ≤ 1000)
    (hK : ∀ v' w', Row E 3 isInt w' v' n (flatF F n) → w.grownBy w' (some g) → (∀ k, v'.ownBlock = some k → k = g ∨ w.heap.size ≤ k) → wpList P ops Q rest (a.put o.dst v') w') : wpList P ops Q (o :: rest) a w := by
  rcases Nat.eq_zero_or_pos n with h0 | h0
  · subst h0
    have hK0 := hK _ _ h ⟨rfl, rfl, rfl, Nat.le_refl _, fun _ _ _ => rfl⟩ (fun k hk => .inl (by injection hk with e; exact e.symm))
    cases ad with
    | some ad => exact wpList_append_row0 hgd s x t ho i ht hi g 0 0 0 hs (Nat.le_refl _) ad c hx hK0
    | none =>
      refine wpList_plain hgd fun _ hK' => ?_
      have hrun : (Builtin.append_ #[t, t] o.type #[.slice (some ⟨g, 0, none⟩) 0 0, .slice none 0 c]).run P w = .ok (.slice (some ⟨g, 0, none⟩) 0 0) w := by
        simp [Builtin.append_, run_underlying ht, sizeOf, typeInfo, hi, Builtin.lenOf, go_sem]
      unfold Oper.wp
      simp [execOp, ho, resolve, invoke, builtin, hs, hx, hrun, Result.andThen]
      exact hK' _ _ hK0
  · obtain ⟨b, off, cap', e, _⟩ := hr.cells h0
    injection e with e1 e2 e3
    subst e1
    refine wpList_append_rowM hgd s x t ho i z 24 ht hi hz hsize hby hzs hKz hs h ⟨b, off, none⟩ c n hx h0 (flatF F n) (flatF_len F n) hr.flat (fun u hu => (flatF_int F n u hu).1) (fun u hu => (flatF_int F n u hu).2) (by omega) (by decide) (fun v' w' k1 k2 k3 => hK v' w' (by simpa using k1) k2 (fun k hk => (k3 k hk).imp (fun e => by injection e with e; exact e.symm) id))

noncomputable def bkO (G : Nat → Nat → Int) (i : Nat) : Bkt := @dite _ (BIn (G i 0) (G i 1) (G i 2)) (Classical.propDecidable _) (fun h => Classical.choose (bkt_of h)) (fun _ => ⟨1, 1, 0, by omega, by omega, by omega⟩)
theorem bkO_eq {G : Nat → Nat → Int} {i : Nat} (h : BIn (G i 0) (G i 1) (G i 2)) : G i 0 = ((bkO G i).b : Int) ∧ G i 1 = ((bkO G i).t : Int) ∧ G i 2 = ((bkO G i).r : Int) := by
  unfold bkO
  rw [dif_pos h]
  exact Classical.choose_spec (bkt_of h)
noncomputable def bkC (G : Nat → Nat → Int) (i : Nat) : Int := ckB (G i 0) (G i 1) (G i 2)
noncomputable def newC (F : Nat → Nat → Int) (n m : Nat) (G : Nat → Nat → Int) : Int := if 50 < n ∨ 8 < m then 4 else if firstOf (bkC G) m ≠ 0 then firstOf (bkC G) m else firstOf (actC F n m) n
noncomputable def newP (F : Nat → Nat → Int) (n m : Nat) (G : Nat → Nat → Int) : Int := if 50 < n ∨ 8 < m then -1 else if firstOf (bkC G) m ≠ 0 then -1 else firstIx (actC F n m) n
section
variable {F : Nat → Nat → Int} {n m : Nat} {G : Nat → Nat → Int}
theorem new_many (h : 50 < n ∨ 8 < m) : newC F n m G = 4 ∧ newP F n m G = -1 := by unfold newC newP; rw [if_pos h, if_pos h]; exact ⟨rfl, rfl⟩
theorem new_bucket {i : Nat} (h : ¬ (50 < n ∨ 8 < m)) (hj : ∀ j, j < i → bkC G j = 0) (hi : i < m) (hb : ¬ BIn (G i 0) (G i 1) (G i 2)) : newC F n m G = 2 ∧ newP F n m G = -1 := by
  have h1 := firstOf_at (c := 2) hj hi (show bkC G i = 2 from ckB_no hb) (by decide)
  unfold newC newP
  rw [if_neg h, if_neg h, if_pos (by rw [h1]; decide), if_pos (by rw [h1]; decide)]
  exact ⟨h1, rfl⟩
theorem new_act {i : Nat} {c : Int} (h : ¬ (50 < n ∨ 8 < m)) (hb : ∀ j, j < m → bkC G j = 0) (hj : ∀ j, j < i → actC F n m j = 0) (hi : i < n) (hc : actC F n m i = c) (h0 : c ≠ 0) : newC F n m G = c ∧ newP F n m G = (i : Int) := by
  have h1 := firstOf_zero hb
  unfold newC newP
  rw [if_neg h, if_neg h, if_neg (by rw [h1]; decide), if_neg (by rw [h1]; decide)]
  exact ⟨firstOf_at hj hi hc h0, firstIx_at hj hi (by rw [hc]; exact h0)⟩
theorem new_fine (h : ¬ (50 < n ∨ 8 < m)) (hb : ∀ j, j < m → bkC G j = 0) (hj : ∀ j, j < n → actC F n m j = 0) : newC F n m G = 0 ∧ newP F n m G = -1 := by
  have h1 := firstOf_zero hb
  unfold newC newP
  rw [if_neg h, if_neg h, if_neg (by rw [h1]; decide), if_neg (by rw [h1]; decide)]
  exact ⟨firstOf_zero hj, firstIx_zero hj⟩
end

/-- A program that is being made: j buckets so far. -/
structure NMid (S : BKind) (E : TypeId) (w wr : World) (pp : Nat) (lv bv : Value) (n j : Nat) (F : Nat → Nat → Int) (Bk : Nat → Bkt) (bp : Nat → Nat) : Prop where
  prog : PAt S E wr pp lv bv n j F Bk bp (fun _ => 0) (fun i => (Bk i).full)
  f1 : wr.frozen? ⟨pp, 1, none⟩ = false
  gr : Gr w wr
  np : w.heap.size ≤ pp
  nb : ∀ i, i < j → w.heap.size ≤ bp i
  nv : ∀ g, bv.ownBlock = some g → w.heap.size ≤ g
  lo : ∀ g, lv.ownBlock = some g → g < wr.heap.size ∧ bv.ownBlock ≠ some g
section
variable {S : BKind} {E : TypeId} {w wr w1 w2 u : World} {pp n j : Nat} {lv bv v' : Value} {F : Nat → Nat → Int} {Bk : Nat → Bkt} {bp : Nat → Nat}
theorem NMid.to (h : NMid S E w wr pp lv bv n j F Bk bp) (g : Gr wr u) : NMid S E w u pp lv bv n j F Bk bp :=
  ⟨h.prog.gr g, by rw [g.frozen (p := ⟨pp, 1, none⟩) h.prog.lt]; exact h.f1, h.gr.trans g, h.np, h.nb, h.nv, fun k hk => ⟨Nat.lt_of_lt_of_le (h.lo k hk).1 g.size, (h.lo k hk).2⟩⟩
theorem NMid.more (h : NMid S E w wr pp lv bv n j F Bk bp) {p : Nat} (hp : wr.heap.size ≤ p) (g1 : Gr wr w1) (hs : S.at_ w1 p (Bk j) (Bk j).full) (hrow : Row E 1 isPtr w2 v' (j + 1) (ptrL bp j ++ [.pointer (some ⟨p, 0, none⟩)])) (hg : w1.grownBy w2 bv.ownBlock) (hown : ∀ g, v'.ownBlock = some g → bv.ownBlock = some g ∨ w1.heap.size ≤ g) :
    NMid S E w (w2.setCell ⟨pp, 1, none⟩ v') pp lv v' n (j + 1) F Bk (fun i => if i = j then p else bp i) := by
  have a := h.prog
  have hl := a.lt
  have hp1 : p < w1.heap.size := (S.mine hs).lt
  have ha1 := a.gr g1
  obtain ⟨la, lc, rfl⟩ := a.recs.shape
  obtain ⟨ba, bc, hbv⟩ := Row.shape a.row
  have hblt : ∀ g, bv.ownBlock = some g → g < wr.heap.size := fun g hg => Row.lt a.row hg
  have s2 : Sav (fun g => bv.ownBlock = some g) w1 w2 := .of_grown hg fun _ e => e
  have hpb : ¬ bv.ownBlock = some pp := fun e => a.nb pp e (.inl rfl)
  have k2 : KeepC w1 w2 := KeepC.row ha1.row noRatPtr hg
  have c0 : w2.cell? ⟨pp, 0, none⟩ = some (.slice la n lc) := s2.cell ha1.c0 hpb
  have c1 : w2.cell? ⟨pp, 1, none⟩ = some bv := s2.cell ha1.c1 hpb
  have k3 : KeepC w2 (w2.setCell ⟨pp, 1, none⟩ v') := by
    rw [hbv] at c1
    exact .setSlice v' c0 c1
  have s3 : Sav (fun g => g = pp) w2 (w2.setCell ⟨pp, 1, none⟩ v') := .set pp 1 v'
  have hsz : w1.heap.size ≤ w2.heap.size := hg.size
  have hvp : v'.ownBlock ≠ some pp := fun e => by
    rcases hown pp e with h1 | h1
    · exact hpb h1
    · have := g1.size; omega
  have hne : ∀ {i : Nat}, i < j → bp i ≠ p := fun {i} hi e => by have := (S.mine (a.st i hi)).lt; omega
  have hbi : ∀ {i : Nat}, i < j → ¬ bv.ownBlock = some (bp i) := fun {i} hi e => a.nb _ e (.inr ⟨i, hi, rfl⟩)
  have hoth : ∀ {i : Nat}, i ≠ 1 → (w2.setCell ⟨pp, 1, none⟩ v').cell? ⟨pp, i, none⟩ = w2.cell? ⟨pp, i, none⟩ := fun {i} hi => World.cell?_setCell_other _ _ _ _ (fun e => hi (by injection e with _ e2; exact e2.symm))
  have hfoot : ∀ g, PFoot pp (j + 1) (fun i => if i = j then p else bp i) g → PFoot pp j bp g ∨ g = p := fun g hg => by
    rcases hg with rfl | ⟨i, hi, rfl⟩
    · exact .inl (.inl rfl)
    · by_cases e : i = j
      · exact .inr (if_pos e)
      · exact .inl (.inr ⟨i, by omega, if_neg e⟩)
  refine ⟨⟨(hoth (by omega)).trans c0, World.cell?_setCell_same _ _ _ c1, fun i hi => (hoth (by omega)).trans (s2.cell (ha1.cc i hi) hpb), fun i hi => ?_, ?_, ?_, fun i hi => ?_, fun i k hi hk e => ?_, fun i hi => ?_, fun g hg => ?_, fun g hg => ?_⟩, ?_, ?_, h.np, fun i hi => ?_, fun g hg => ?_, fun g hg => ?_⟩
  · simpa using s2.frozen (p := ⟨pp, 2 + i, none⟩) ha1.lt (ha1.ff i hi) hpb
  · exact (ha1.recs.sav3 s2 (fun g hg e => (h.lo g hg).2 e)).sav3 s3 (fun g hg e => a.nl g hg (.inl e))
  · rw [← ptrL_snoc]
    exact hrow.sav s3 (fun g hg e => hvp (by rw [hg, e]))
  · by_cases e : i = j
    · subst e
      show S.at_ _ (if i = i then p else bp i) (Bk i) (Bk i).full
      rw [if_pos rfl]
      exact S.keep (S.keep hs (s2.block p hp1 (fun e => by have := hblt p e; omega)) k2) (s3.block p (Nat.lt_of_lt_of_le hp1 hsz) (fun e => by omega)) k3
    · have hij : i < j := by omega
      show S.at_ _ (if i = j then p else bp i) (Bk i) (Bk i).full
      rw [if_neg e]
      have hst := ha1.st i hij
      have hl1 := (S.mine hst).lt
      exact S.keep (S.keep hst (s2.block _ hl1 (hbi hij)) k2) (s3.block _ (Nat.lt_of_lt_of_le hl1 hsz) (a.np i hij)) k3
  · have e' : (if i = j then p else bp i) = (if k = j then p else bp k) := e
    by_cases h1 : i = j
    · by_cases h2 : k = j
      · omega
      · rw [if_pos h1, if_neg h2] at e'
        exact absurd e'.symm (hne (by omega))
    · by_cases h2 : k = j
      · rw [if_neg h1, if_pos h2] at e'
        exact absurd e' (hne (by omega))
      · rw [if_neg h1, if_neg h2] at e'
        exact a.inj i k (by omega) (by omega) e'
  · show (if i = j then p else bp i) ≠ pp
    by_cases e : i = j
    · rw [if_pos e]; omega
    · rw [if_neg e]; exact a.np i (by omega)
  · intro hf
    rcases hfoot g hf with h1 | h1
    · exact a.nl g hg h1
    · have := (h.lo g hg).1; omega
  · intro hf
    rcases hown g hg with h1 | h1
    · rcases hfoot g hf with h2 | h2
      · exact a.nb g h1 h2
      · have := hblt g h1; omega
    · rcases hfoot g hf with h2 | h2
      · rcases h2 with rfl | ⟨i, hi, rfl⟩
        · have := g1.size; omega
        · have := (S.mine (ha1.st i hi)).lt; omega
      · omega
  · simpa using s2.frozen (p := ⟨pp, 1, none⟩) ha1.lt (by rw [g1.frozen (p := ⟨pp, 1, none⟩) hl]; exact h.f1) hpb
  · exact Sav.gr (Sav.gr (h.gr.trans g1) s2 (fun q e => h.nv q e)) s3 (fun q e => by rw [e]; exact h.np)
  · show w.heap.size ≤ (if i = j then p else bp i)
    by_cases e : i = j
    · rw [if_pos e]; have := h.gr.size; omega
    · rw [if_neg e]; exact h.nb i (by omega)
  · rcases hown g hg with h1 | h1
    · exact h.nv g h1
    · have := h.gr.size; have := g1.size; omega
  · have h1 := h.lo g hg
    refine ⟨by rw [World.size_setCell]; have := g1.size; omega, fun e => ?_⟩
    rcases hown g e with h2 | h2
    · exact h1.2 h2
    · have := g1.size; omega
end
end Go.Proofs.YtjghgafeoimgiaaDoor

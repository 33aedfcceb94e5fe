/-
  A map of ints to ints that is ranged over, as functions: what stands at each key, which keys stand there, which are still to come; m[k] = v at a key that is there, in a round; how many keys there are.
-/
import Derived.Test.YtcfajegdlaeekaaDoorTopA
import Derived.Maps.RangeWalk
import Derived.Maps.Ext
namespace Go.Proofs.YtcfajegdlaeekaaDoor
open Go Go.RowKit Go.Maps Go.ChangeMaps Go.MapKept Go.WideShapes
open Go.WideElems (Fit rd rg pl rd_val)

/-- 'm[k] = v' at a key that is there: the loop stays where it is. -/
theorem ranges_update {H : Type} {P : Program} {k e t : TypeId} {R : Value → Option (DataW H × List MemPlace)} {w : World} {b r n : Nat} {D : DataW H} {left : Lit → Bool} {cnt : Nat} (h : w.ranges P k R b r n D left cnt) (K : Keyed P k) (ht : P.underlying t = some (.map k e)) (hn : n < maxLen) {key val : Value} {kl : Lit} {yv : DataW H × List MemPlace} (hkey : keyOf P k key = some kl) (hv : R val = some yv) (hin : has D kl = true) :
    ∃ w', (Instr.mapUpdate t (.map (some b)) key val).run P w = .ok () w' ∧ w'.ranges P k R b r n (D.put kl yv.1) left cnt ∧ w.mapTurned w' b := by
  have hne := h.ne
  obtain ⟨es, clock, since, seen, c0, hb, F, hs, rfl, hr, hold, rfl, hl1, hl2, hsc, hsk⟩ := h
  obtain ⟨es', clock', hrun', F', hD', _⟩ := Maps.fit_store (R' := R) K ht hb F (by omega) (fun x _ _ z hz => hz) hkey hv
  rcases K.find w hkey es.toList F.keys with ⟨h1, h2⟩ | ⟨j, e0, h1, h2, h3⟩
  · exfalso
    obtain ⟨p, hp, hpk⟩ := List.any_eq_true.1 hin
    obtain ⟨x, hx, rfl⟩ := List.mem_map.1 (mem_sorted.1 hp)
    obtain ⟨y, hy⟩ := F.reads x hx
    have e1 := WideAt.sameKey_eq hpk
    rw [WideElems.rg_of hy] at e1
    exact h2 x hx (K.inj (e1 ▸ WideElems.rd_key hy) hkey)
  · have hj : es[j]? = some e0 := by simpa using h2
    have hjs : j < es.size := (Array.getElem?_eq_some_iff.1 hj).1
    have hmem0 : e0 ∈ es.toList := List.mem_of_getElem? h2
    have hlist : (es.modify j (fun e' => { e' with key := key, val := val })).toList = es.toList.set j { e0 with key := key, val := val } := by rw [Array.toList_modify, modify_eq_set _ _ _ _ h2]
    have hrun : (Instr.mapUpdate t (.map (some b)) key val).run P w = .ok () (setBlock w b (.map (es.modify j (fun e' => { e' with key := key, val := val })) clock)) := by
      simp [Instr.mapUpdate, run_underlying ht, MapKept.run_getObj_map hb, K.check w false hkey, h1, hj, h3, K.stays w hkey, MapKept.run_setObj_map _ hb, Result.andThen, setBlock]
    have hsame : setBlock w b (.map es' clock') = setBlock w b (.map (es.modify j (fun e' => { e' with key := key, val := val })) clock) := by
      rw [hrun] at hrun'
      injection hrun' with _ e2
      exact e2.symm
    have hes : es' = es.modify j (fun e' => { e' with key := key, val := val }) ∧ clock' = clock := by
      have e1 := heap_setBlock_same hb (.map es' clock')
      rw [hsame, heap_setBlock_same hb] at e1
      injection e1 with e2
      injection e2 with e3 e4
      exact ⟨e3.symm, e4.symm⟩
    obtain ⟨rfl, rfl⟩ := hes
    have hy0 : (rg P k R e0).1 = kl := by
      obtain ⟨y, hy⟩ := F.reads e0 hmem0
      have e1 := WideElems.rd_key hy
      rw [h3, hkey] at e1
      rw [WideElems.rg_of hy]
      exact (Option.some.inj e1).symm
    have hy1 : (rg P k R { e0 with key := key, val := val }).1 = kl := by rw [WideElems.rg_of (WideElems.rd_mk hkey hv)]
    have who : ∀ x ∈ es.toList.set j { e0 with key := key, val := val }, x = { e0 with key := key, val := val } ∨ x ∈ es.toList := by
      intro x hx
      rcases List.mem_or_eq_of_mem_set hx with h | h
      · exact .inr h
      · exact .inl h
    refine ⟨_, hrun, ⟨_, clock', since, seen, c0, heap_setBlock_same hb _, F', by simpa using hs, by rw [DataW.put_eq, hD'], (heap_setBlock_other hb _ hne).trans hr, fun x hx => ?_, ?_, fun x hx => ?_, fun kk hk => ?_, hsc, hsk⟩, ⟨es, clock', _, clock', hb, rfl⟩⟩
    · rw [hlist] at hx
      rcases who x hx with rfl | h
      · exact hold e0 hmem0
      · exact hold x h
    · have e1 : ∀ a : Array MapEntry, (leftOf a seen).size = ((a.toList.map (·.born)).filter fun q => !seen.contains q).length := fun a => by
        unfold leftOf
        rw [← Array.length_toList, Array.toList_filter, List.filter_map, List.length_map]
        rfl
      rw [e1, e1, hlist, List.map_set]
      congr 2
      apply List.ext_getElem?
      intro i
      rw [List.getElem?_set]
      by_cases hij : j = i
      · subst hij
        rw [if_pos rfl]
        simp [hjs, (Array.getElem?_eq_some_iff.1 hj).2]
      · rw [if_neg hij]
    · rw [hlist] at hx
      rcases who x hx with rfl | h
      · rw [hy1, ← hy0]
        exact hl1 e0 hmem0
      · exact hl1 x h
    · obtain ⟨x, hx, hxk⟩ := hl2 kk hk
      rw [hlist]
      obtain ⟨i, hi, hix⟩ := List.getElem_of_mem hx
      by_cases hij : i = j
      · subst hij
        refine ⟨{ e0 with key := key, val := val }, List.mem_iff_getElem?.2 ⟨i, by rw [List.getElem?_set, if_pos rfl]; simp [hjs]⟩, ?_⟩
        rw [hy1, ← hxk, ← hy0]
        have : x = e0 := by rw [List.getElem?_eq_getElem hi, hix] at h2; exact (Option.some.inj h2)
        rw [this]
      · exact ⟨x, List.mem_iff_getElem?.2 ⟨i, by rw [List.getElem?_set, if_neg (fun e => hij e.symm), List.getElem?_eq_getElem hi, hix]⟩, hxk⟩

/-- Block b, ranged over by block r: f tells what stands at a key, g which keys stand there; left, which are to come. -/
def MapR (w : World) (b r n : Nat) (f : Int → Int) (g left : Int → Bool) (cnt : Nat) : Prop :=
  ∃ (D : DataW Unit) (lf : Lit → Bool), w.ranges Tryd.prog 3 (plainElem Tryd.prog 3) b r n D lf cnt ∧ (∀ k, D.atKey (.int .i64 k) (.lit (.int .i64 0)) = .lit (.int .i64 (f k))) ∧ (∀ k, has D (.int .i64 k) = g k) ∧ ∀ k, lf (.int .i64 k) = left k
section
variable {w w' : World} {b r n cnt : Nat} {f : Int → Int} {g left : Int → Bool}
theorem MapR.owns (h : MapR w b r n f g left cnt) : MapI w b n f g := by
  obtain ⟨D, lf, h1, h2, h3, _⟩ := h
  exact ⟨D, h1.owns, h2, h3⟩
theorem MapR.left_eq (h : MapR w b r n f g left cnt) : w.rangeLeft b r = cnt := by
  obtain ⟨D, lf, h1, _⟩ := h
  exact h1.left_eq
theorem MapR.ne (h : MapR w b r n f g left cnt) : r ≠ b := by
  obtain ⟨D, lf, h1, _⟩ := h
  exact h1.ne
theorem MapR.lt (h : MapR w b r n f g left cnt) : b < w.heap.size ∧ r < w.heap.size := by
  obtain ⟨D, lf, h1, _⟩ := h
  exact ⟨h1.owns.lt, h1.lt⟩
theorem MapR.blocks (h : MapR w b r n f g left cnt) (e1 : w'.heap[b]? = w.heap[b]?) (e2 : w'.heap[r]? = w.heap[r]?) : MapR w' b r n f g left cnt := by
  obtain ⟨D, lf, ⟨es, clock, since, seen, c0, hb, F, hs, hD, hr, rest⟩, h2⟩ := h
  exact ⟨D, lf, ⟨es, clock, since, seen, c0, e1.trans hb, F, hs, hD, e2.trans hr, rest⟩, h2⟩
theorem MapR.sav {B : Nat → Prop} (h : MapR w b r n f g left cnt) (s : Sav B w w') (hb : ¬ B b) (hr : ¬ B r) : MapR w' b r n f g left cnt := h.blocks (s.block b h.lt.1 hb) (s.block r h.lt.2 hr)
theorem MapR.come (h : MapR w b r n f g left cnt) {x : Int} (hx : left x = true) : g x = true := by
  obtain ⟨D, lf, ⟨es, clock, since, seen, c0, hb, F, hs, rfl, hr, hold, _, hl1, hl2, _⟩, h2, h3, h4⟩ := h
  rw [← h4] at hx
  obtain ⟨e, he, hk⟩ := hl2 _ hx
  rw [← h3]
  refine List.any_eq_true.2 ⟨rg Tryd.prog 3 (plainElem Tryd.prog 3) e, mem_sorted.2 (List.mem_map.2 ⟨e, he, rfl⟩), ?_⟩
  rw [hk]
  exact WideAt.sameKey_self (lit_isKey x)
theorem MapR.gr (h : MapR w b r n f g left cnt) (s : Gr w w') : MapR w' b r n f g left cnt := h.blocks (s.block h.lt.1) (s.block h.lt.2)
/-- m[k] = v at a key that is there. -/
theorem MapR.set (h : MapR w b r n f g left cnt) (hn : n < 1000000) {k v : Int} (hk : Bd k) (hv : Bd v) (hg : g k = true) : ∃ w', (Instr.mapUpdate 23 (.map (some b)) (.int .i64 k) (.int .i64 v)).run Tryd.prog w = .ok () w' ∧ MapR w' b r n (fI f k v) g left cnt ∧ Sav (fun q => q = b) w w' := by
  obtain ⟨D, lf, h1, h2, h3, h4⟩ := h
  have htidy := h1.owns.tidy int_key
  obtain ⟨w', hrun, hr, ht⟩ := ranges_update h1 int_key map_under (by unfold maxLen; omega) (keyOf_int_mk int_under (lit_wf hk)) (plainElem_int int_under (lit_wf hv)) (by rw [h3]; exact hg)
  refine ⟨w', hrun, ⟨_, lf, hr, fun j => ?_, fun j => ?_, h4⟩, .of_grown ht.grown fun q e => (Option.some.inj e).symm⟩
  · by_cases e : j = k
    · subst e
      rw [fI_at]
      exact atKey_put_same htidy.isMap (lit_isKey j) _ _
    · rw [fI_ne _ _ e, ← h2 j]
      exact atKey_put_other (fun e2 => e (by injection e2)) _ _
  · by_cases e : j = k
    · subst e
      rw [hg]
      exact has_put_same htidy.isMap (lit_isKey j) _
    · rw [← h3 j]
      exact has_put_other (fun e2 => e (by injection e2)) _
theorem sameKey_int (x k : Int) : (Lit.int .i64 x).sameKey (.int .i64 k) = decide (x = k) := by
  by_cases e : x = k
  · subst e
    rw [WideAt.sameKey_self (lit_isKey x)]
    simp
  · rw [sameKey_ne (fun e2 => e (by injection e2))]
    simp [e]
/-- delete(m, k) -/
theorem MapR.del (h : MapR w b r n f g left cnt) {k : Int} (hk : Bd k) (ty : TypeId) : ∃ w' cnt', (Builtin.delete_ #[23, 3] ty #[.map (some b), .int .i64 k]).run Tryd.prog w = .ok (.tuple #[]) w' ∧ MapR w' b r n (fI f k 0) (fI g k false) (fI left k false) cnt' ∧ cnt' ≤ cnt ∧ Sav (fun q => q = b) w w' := by
  obtain ⟨D, lf, h1, h2, h3, h4⟩ := h
  obtain ⟨w', cnt', hrun, hr, hle, ht⟩ := h1.drop int_key map_under (keyOf_int_mk int_under (lit_wf hk)) ty
  refine ⟨w', cnt', hrun, ⟨_, _, hr, fun j => ?_, fun j => ?_, fun j => ?_⟩, hle, .of_grown ht.grown fun q e => (Option.some.inj e).symm⟩
  · by_cases e : j = k
    · subst e
      rw [fI_at]
      exact atKey_del_same _
    · rw [fI_ne _ _ e, ← h2 j]
      exact atKey_del_other (fun e2 => e (by injection e2)) _
  · by_cases e : j = k
    · subst e
      rw [fI_at]
      exact has_del_same
    · rw [fI_ne _ _ e, ← h3 j]
      exact has_del_other (fun e2 => e (by injection e2))
  · rw [sameKey_int, h4]
    by_cases e : j = k
    · subst e; rw [fI_at]; simp
    · rw [fI_ne _ _ e]; simp [e]
/-- Just as many keys as the map tells. -/
theorem MapI.dom' (h : MapI w b n f g) : ∃ m, Dom g m ∧ m ≤ n ∧ MapI w b m f g ∧ ∀ ty, (Builtin.len_ #[23] ty #[.map (some b)]).run Tryd.prog w = .ok (.int .i64 (m : Int)) w := by
  obtain ⟨D, h1, h2, h3⟩ := h
  have htight : w.ownsMap Tryd.prog 3 (plainElem Tryd.prog 3) b (Maps.size D) D := by
    obtain ⟨es, clock, hb, F, hs, rfl⟩ := h1
    exact ⟨es, clock, hb, F, by rw [size_eq, length_read]; exact Nat.le_refl _, rfl⟩
  refine ⟨Maps.size D, ?_, h1.size_le, ⟨D, htight, h2, h3⟩, fun ty => h1.len map_under ty⟩
  have hent := h1.entries int_key
  obtain ⟨es, clock, hb, F, hs, hD⟩ := h1
  obtain ⟨l, hl, hne, _⟩ := hent
  have hint : ∀ p ∈ l, ∃ x, p.1 = Lit.int .i64 x := fun p hp => by
    rw [hl] at hD
    injection hD with hD
    rw [hD] at hp
    obtain ⟨x, hx, rfl⟩ := List.mem_map.1 (mem_sorted.1 hp)
    obtain ⟨y, hy⟩ := F.reads x hx
    obtain ⟨z, _, e2, _⟩ := Maps.keyOf_int_inv int_under (WideElems.rd_key hy)
    exact ⟨z, by rw [WideElems.rg_of hy]; exact e2⟩
  refine ⟨l.map fun p => (match p.1 with | .int _ x => x | _ => 0), ?_, fun k => ?_, by rw [hl]; simp [size_eq]⟩
  · rw [List.nodup_iff_pairwise_ne, List.pairwise_map]
    refine hne.imp_of_mem fun {p q} hp hq hpq e => hpq ?_
    obtain ⟨x, ex⟩ := hint p hp
    obtain ⟨y, ey⟩ := hint q hq
    rw [ex, ey] at e
    simp only at e
    rw [ex, ey, e]
  · rw [← h3 k, hl, has_eq, List.any_eq_true, List.mem_map]
    constructor
    · rintro ⟨p, hp, e⟩
      obtain ⟨x, ex⟩ := hint p hp
      rw [ex] at e
      simp only at e
      exact ⟨p, hp, by rw [ex, sameKey_int, e]; simp⟩
    · rintro ⟨p, hp, e⟩
      obtain ⟨x, ex⟩ := hint p hp
      rw [ex, sameKey_int] at e
      exact ⟨p, hp, by rw [ex]; simpa using e⟩
theorem MapI.dom (h : MapI w b n f g) : ∃ m, Dom g m ∧ m ≤ n ∧ ∀ ty, (Builtin.len_ #[23] ty #[.map (some b)]).run Tryd.prog w = .ok (.int .i64 (m : Int)) w :=
  have ⟨m, h1, h2, _, h3⟩ := h.dom'
  ⟨m, h1, h2, h3⟩
theorem MapI.tight (h : MapI w b n f g) {m : Nat} (hd : ∀ k, Dom g k → k ≤ m) : MapI w b m f g := by
  obtain ⟨k, h1, _, h2, _⟩ := h.dom'
  exact h2.mono (hd k h1)
/-- v, ok := m[k] -/
theorem MapI.look2 (h : MapI w b n f g) {k : Int} (hk : Bd k) : (Instr.lookup 23 (.map (some b)) (.int .i64 k) true).run Tryd.prog w = .ok (.tuple #[.int .i64 (f k), .bool (g k)]) w := by
  obtain ⟨D, h1, h2, h3⟩ := h
  obtain ⟨v, ps, hrun, hv⟩ := h1.look_ok int_key map_under (int_zeroV w) (plainElem_int int_under (by decide)) (keyOf_int_mk int_under (lit_wf hk))
  rw [h2 k] at hv
  obtain ⟨a, rfl, e, _⟩ := plainElem_int_inv int_under hv
  have e1 := (Prod.mk.inj e).1
  have e2 := DataW.lit.inj e1
  have e3 : f k = a := (Lit.int.inj e2).2
  rw [h3 k] at hrun
  rw [e3]
  exact hrun
end
section
variable {w : World} {ops : Array Oper} {rest : List Oper} {o : Oper} {a : Act} {Q : Exit → Act → World → Prop} {b r n cnt : Nat} {f : Int → Int} {g left : Int → Bool}
theorem wpList_range_mapI (hg : o.guard = none) (m : Operand) (hop : o.op = Op.range 23 m) (hm : a.eval m = .map (some b)) (h : MapI w b n f g)
    (hK : ∀ w' cnt, MapR w' b w.heap.size n f g g cnt → Gr w w' → w'.heap.size = w.heap.size + 1 → wpList Tryd.prog ops Q rest (a.put o.dst (.pointer (some ⟨w.heap.size, 0, none⟩))) w') : wpList Tryd.prog ops Q (o :: rest) a w := by
  obtain ⟨D, h1, h2, h3⟩ := h
  refine wpList_range_own w hg m 23 hop 3 3 int_key map_under _ b n D hm h1 fun w' hr hgr hsz => ?_
  exact hK w' _ ⟨D, _, hr, h2, h3, h3⟩ ⟨hgr.os, hgr.tape, hgr.output, hgr.size, fun q hq => hgr.block q hq (by simp)⟩ hsz
theorem wpList_next_mapR (hg : o.guard = none) (it : Operand) (hop : o.op = Op.next it false) (hit : a.eval it = .pointer (some ⟨r, 0, none⟩)) (h : MapR w b r n f g left cnt)
    (hDone : (∀ k, left k = false) → wpList Tryd.prog ops Q rest (a.put o.dst (.tuple #[.bool false])) w)
    (hMore : ∀ (x : Int) (w' : World) (cnt' : Nat), Bd x → left x = true → MapR w' b r n f g (fI left x false) cnt' → cnt' < cnt → Sav (fun q => q = r) w w' → w'.heap.size = w.heap.size →
      (Instr.entry (.pointer (some ⟨r, 0, none⟩))).run Tryd.prog w' = .ok (.tuple #[.int .i64 x, .int .i64 (f x)]) w' → wpList Tryd.prog ops Q rest (a.put o.dst (.tuple #[.bool true, .int .i64 x, .int .i64 (f x)])) w') :
    wpList Tryd.prog ops Q (o :: rest) a w := by
  obtain ⟨D, lf, h1, h2, h3, h4⟩ := h
  refine wpList_next_ranges_ii w hg it hop 3 3 .i64 .i64 int_key int_under int_under b r n D lf cnt hit h1 (fun _ hl => hDone fun k => by rw [← h4]; exact hl _) fun x c w' cnt' hwx hwc hlx hat hrg hlt hgr hsz hen => ?_
  have hbx : Bd x := by
    have h5 : (decide (IntKind.i64.min ≤ x) && decide (x ≤ IntKind.i64.max)) = true := hwx
    rw [show IntKind.i64.min = -9223372036854775808 from by decide, show IntKind.i64.max = 9223372036854775807 from by decide, Bool.and_eq_true, decide_eq_true_eq, decide_eq_true_eq] at h5
    exact h5
  have hc : c = f x := by
    have e1 := (hat _).symm.trans (h2 x)
    exact (Lit.int.inj (DataW.lit.inj e1)).2
  subst hc
  refine hMore x w' cnt' hbx (by rw [← h4]; exact hlx) ⟨D, _, hrg, h2, h3, fun k => ?_⟩ hlt (.of_grown hgr fun q e => (Option.some.inj e).symm) hsz hen
  rw [sameKey_int, h4]
  by_cases e : k = x
  · subst e; rw [fI_at]; simp
  · rw [fI_ne _ _ e]; simp [e]
theorem wpList_set_mapR (hg : o.guard = none) (m x y : Operand) (hop : o.op = Op.mapUpdate 23 m x y) (hm : a.eval m = .map (some b)) (h : MapR w b r n f g left cnt) (hn : n < 1000000) (k v : Int) (hx : a.eval x = .int .i64 k) (hy : a.eval y = .int .i64 v) (hk : Bd k) (hv : Bd v) (hgk : g k = true)
    (hK : ∀ w', MapR w' b r n (fI f k v) g left cnt → Sav (fun q => q = b) w w' → wpList Tryd.prog ops Q rest (a.put o.dst undef) w') : wpList Tryd.prog ops Q (o :: rest) a w := by
  refine wpList_plain hg fun K' hK' => ?_
  obtain ⟨w', hrun, r1, r2⟩ := h.set hn hk hv hgk
  unfold Oper.wp
  simp [execOp, hop, hm, hx, hy, hrun, Result.andThen]
  exact hK' _ _ (hK w' r1 r2)
theorem wpList_del_mapR (hg : o.guard = none) (m x : Operand) (hop : o.op = Op.call { callee := Callee.builtin Builtin.delete, args := #[m, x], argTypes := #[23, 3] }) (hm : a.eval m = .map (some b)) (h : MapR w b r n f g left cnt) (k : Int) (hx : a.eval x = .int .i64 k) (hk : Bd k)
    (hK : ∀ w' cnt', MapR w' b r n (fI f k 0) (fI g k false) (fI left k false) cnt' → cnt' ≤ cnt → Sav (fun q => q = b) w w' → wpList Tryd.prog ops Q rest (a.put o.dst (.tuple #[])) w') : wpList Tryd.prog ops Q (o :: rest) a w := by
  refine wpList_plain hg fun K' hK' => ?_
  obtain ⟨w', cnt', hrun, r1, r2, r3⟩ := h.del hk o.type
  unfold Oper.wp
  simp [execOp, hop, resolve, invoke, builtin, hm, hx, hrun, Result.andThen]
  exact hK' _ _ (hK w' cnt' r1 r2 r3)
theorem wpList_len_mapI (hg : o.guard = none) (m : Operand) (hop : o.op = Op.call { callee := Callee.builtin Builtin.len, args := #[m], argTypes := #[23] }) (hm : a.eval m = .map (some b)) (h : MapI w b n f g)
    (hK : ∀ m, Dom g m → m ≤ n → wpList Tryd.prog ops Q rest (a.put o.dst (.int .i64 (m : Int))) w) : wpList Tryd.prog ops Q (o :: rest) a w := by
  refine wpList_plain hg fun K' hK' => ?_
  obtain ⟨m', h1, h2, hrun⟩ := h.dom
  unfold Oper.wp
  simp [execOp, hop, resolve, invoke, builtin, hm, hrun, Result.andThen]
  exact hK' _ _ (hK m' h1 h2)
theorem wpList_len_mapI_g (hg : Region.wanted o (yielded ops a.tmps) = true) (m : Operand) (hop : o.op = Op.call { callee := Callee.builtin Builtin.len, args := #[m], argTypes := #[23] }) (hm : a.eval m = .map (some b)) (h : MapI w b n f g)
    (hK : ∀ m, Dom g m → m ≤ n → wpList Tryd.prog ops Q rest (a.put o.dst (.int .i64 (m : Int))) w) : wpList Tryd.prog ops Q (o :: rest) a w := by
  refine wpList_step fun K' hK' => ?_
  rw [if_pos hg]
  obtain ⟨m', h1, h2, hrun⟩ := h.dom
  unfold Oper.wp
  simp [execOp, hop, resolve, invoke, builtin, hm, hrun, Result.andThen]
  exact hK' _ _ (hK m' h1 h2)
theorem wpList_look2_mapI (hg : o.guard = none) (m x : Operand) (hop : o.op = Op.lookup 23 m x true) (hm : a.eval m = .map (some b)) (h : MapI w b n f g) (k : Int) (hx : a.eval x = .int .i64 k) (hk : Bd k)
    (hK : wpList Tryd.prog ops Q rest (a.put o.dst (.tuple #[.int .i64 (f k), .bool (g k)])) w) : wpList Tryd.prog ops Q (o :: rest) a w := by
  refine wpList_plain hg fun K' hK' => ?_
  have hrun := h.look2 hk
  unfold Oper.wp
  simp [execOp, hop, hm, hx, hrun, Result.andThen]
  exact hK' _ _ hK
end
end Go.Proofs.YtcfajegdlaeekaaDoor

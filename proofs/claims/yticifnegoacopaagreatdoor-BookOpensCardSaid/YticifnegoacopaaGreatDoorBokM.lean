/-
  A map of strings to ints that the call made, as a list of entries: what stands at each name is their sum.
-/
import Derived.Test.YticifnegoacopaaGreatDoorBokA
import Derived.Test.YticifnegoacopaaGreatDoorRow
import Derived.Maps.OwnOps
import Derived.Maps.OwnSet
namespace Go.Proofs.YticifnegoacopaaGreatDoor
open Go Go.RowKit Go.Maps

theorem intM_under : Tryz.prog.underlying 3 = some (.int .i64) := by kernel_rfl
theorem strM_under : Tryz.prog.underlying 9 = some .string := by kernel_rfl
theorem mapS_under : Tryz.prog.underlying 26 = some (.map 9 3) := by kernel_rfl
theorem intM_zeroV (w : World) : (zeroValue 3).run Tryz.prog w = .ok (.int .i64 0) w := by kernel_rfl
theorem str_key : Keyed Tryz.prog 9 := string_keyed strM_under
theorem litM_wf {x : Int} (h : 0 ≤ x ∧ x ≤ 1000000000) : (Lit.int .i64 x).wf = true := by
  show (decide (IntKind.i64.min ≤ x) && decide (x ≤ IntKind.i64.max)) = true
  rw [show IntKind.i64.min = -9223372036854775808 from by decide, show IntKind.i64.max = 9223372036854775807 from by decide, decide_eq_true (by omega), decide_eq_true (by omega)]
  rfl
theorem strM_isKey (x : List UInt8) : WideAt.IsKeyLit (.string x) := by simp [WideAt.IsKeyLit]
theorem strM_keyOf {s : ByteArray} (h : s.size ≤ 3000) : keyOf Tryz.prog 9 (.string s) = some (.string s.data.toList) := by
  have h2 : s.size ≤ maxLen := by unfold maxLen; omega
  simp [keyOf, strM_under, mapKey]
  exact h2
def hasN (L : List Ent) (s : ByteArray) : Bool := L.any fun e => decide (e.1 = s)
theorem hasN_snoc (L : List Ent) (e : Ent) (s : ByteArray) : hasN (L ++ [e]) s = (hasN L s || decide (e.1 = s)) := by simp [hasN]
theorem hasN_iff {L : List Ent} {s : ByteArray} : hasN L s = true ↔ ∃ e ∈ L, e.1 = s := by simp [hasN]
theorem getN_none {L : List Ent} {s : ByteArray} (h : hasN L s = false) : getN L s = 0 := by
  induction L with
  | nil => rfl
  | cons e L ih =>
    simp only [hasN, List.any_cons, Bool.or_eq_false_iff, decide_eq_false_iff_not] at h
    simp only [getN, if_neg h.1]
    rw [ih h.2]
    rfl
def toB (l : List UInt8) : ByteArray := ⟨l.toArray⟩
theorem toB_list (s : ByteArray) : toB s.data.toList = s := by cases s; simp [toB]
theorem list_toB (l : List UInt8) : (toB l).data.toList = l := by simp [toB]
theorem toB_inj {a b : List UInt8} (h : toB a = toB b) : a = b := by rw [← list_toB a, ← list_toB b, h]
/-- Block b is a map that holds the entries L, summed up by their names. -/
def MapS (w : World) (b : Nat) (L : List Ent) : Prop :=
  ∃ D : DataW Unit, w.ownsMap Tryz.prog 9 (plainElem Tryz.prog 3) b L.length D ∧ (∀ k, D.atKey (.string k) (.lit (.int .i64 0)) = .lit (.int .i64 (getN L (toB k)))) ∧ ∀ k, has D (.string k) = hasN L (toB k)
section
variable {w w' : World} {b : Nat} {L : List Ent}
theorem MapS.made (w : World) : MapS (w.alloc (.map #[] 0)) w.heap.size [] :=
  ⟨.map [], World.ownsMap_made w _ _ _, fun _ => rfl, fun _ => rfl⟩
theorem MapS.lt (h : MapS w b L) : b < w.heap.size := by
  obtain ⟨D, h, _⟩ := h
  exact h.lt
theorem MapS.block (h : MapS w b L) (e : w'.heap[b]? = w.heap[b]?) : MapS w' b L := by
  obtain ⟨D, ⟨es, clock, hb, r⟩, h2⟩ := h
  exact ⟨D, ⟨es, clock, e.trans hb, r⟩, h2⟩
theorem MapS.isMap (h : MapS w b L) : ∃ es clock, w.heap[b]? = some (.map es clock) := by
  obtain ⟨D, ⟨es, clock, hb, _⟩, _⟩ := h
  exact ⟨es, clock, hb⟩
/-- m[k] -/
theorem MapS.look (h : MapS w b L) {s : ByteArray} (hk : s.size ≤ 3000) : (Instr.lookup 26 (.map (some b)) (.string s) false).run Tryz.prog w = .ok (.int .i64 (getN L s)) w := by
  obtain ⟨D, h1, h2, _⟩ := h
  obtain ⟨c, hrun, hat, _⟩ := h1.lookup_int str_key mapS_under intM_under (intM_zeroV w) (strM_keyOf hk)
  rw [h2, toB_list] at hat
  have e : getN L s = c := by
    have e1 := DataW.lit.inj hat
    exact (Lit.int.inj e1).2
  rw [e]
  exact hrun
theorem look_none (w : World) {s : ByteArray} (hk : s.size ≤ 3000) : (Instr.lookup 26 (.map none) (.string s) false).run Tryz.prog w = .ok (.int .i64 0) w :=
  Maps.look_nil false str_key mapS_under (intM_zeroV w) (strM_keyOf hk)
/-- m[k] += n -/
theorem MapS.add (h : MapS w b L) (hn : L.length ≤ 500) {s : ByteArray} {n : Int} (hk : s.size ≤ 3000) (hv : 0 ≤ getN L s + n ∧ getN L s + n ≤ 1000000000) : ∃ w', (Instr.mapUpdate 26 (.map (some b)) (.string s) (.int .i64 (getN L s + n))).run Tryz.prog w = .ok () w' ∧ MapS w' b (L ++ [(s, n)]) ∧ w.grownBy w' (some b) := by
  obtain ⟨D, h1, h2, h3⟩ := h
  have htidy := h1.tidy str_key
  obtain ⟨w', hrun, ho, hg⟩ := h1.update str_key mapS_under (by unfold maxLen; omega) (strM_keyOf hk) (plainElem_int intM_under (litM_wf hv))
  refine ⟨w', hrun, ⟨_, by rw [List.length_append]; exact ho, fun k => ?_, fun k => ?_⟩, hg⟩
  · rw [getN_snoc]
    show _ = DataW.lit (Lit.int .i64 (getN L (toB k) + if s = toB k then n else 0))
    by_cases e : s = toB k
    · rw [if_pos e]
      have e2 : k = s.data.toList := by rw [e, list_toB]
      rw [e2, toB_list]
      exact atKey_put_same htidy.isMap (strM_isKey _) _ _
    · rw [if_neg e, Int.add_zero, ← h2 k]
      exact atKey_put_other (fun e2 : Lit.string k = Lit.string s.data.toList => e (by rw [Lit.string.inj e2, toB_list])) _ _
  · rw [hasN_snoc]
    show _ = (hasN L (toB k) || decide (s = toB k))
    by_cases e : s = toB k
    · have e2 : k = s.data.toList := by rw [e, list_toB]
      rw [e2, toB_list, decide_eq_true rfl, Bool.or_true]
      exact has_put_same htidy.isMap (strM_isKey _) _
    · rw [decide_eq_false e, Bool.or_false, ← h3 k]
      exact has_put_other (fun e2 : Lit.string k = Lit.string s.data.toList => e (by rw [Lit.string.inj e2, toB_list])) _
/-- Its keys, whatever the order, sorted: the names. -/
theorem MapS.keys {D : DataW Unit} (h : w.ownsMap Tryz.prog 9 (plainElem Tryz.prog 3) b L.length D) (h3 : ∀ k, has D (.string k) = hasN L (toB k)) {ss : List (List UInt8)} (hp : ss.Perm (strKeys D)) : ss.mergeSort leB = (namesOf L).map fun b => b.data.toList := by
  have h4 : ss.Nodup ∧ ∀ x, x ∈ ss ↔ has D (.string x) = true := by
    obtain ⟨es, hD, hpw, _⟩ := h.entries str_key
    obtain ⟨es', hD', hko⟩ := h.keysOf
    obtain rfl : es = es' := by rw [hD] at hD'; simpa using hD'
    subst hD
    have hk : ∀ p ∈ es, ∃ x, p.1 = .string x := fun p hp => by obtain ⟨v, hv⟩ := hko p hp; obtain ⟨x, _, hx, _⟩ := Maps.keyOf_str strM_under hv; exact ⟨x, hx⟩
    have hnd : (strKeys (.map es)).Nodup := by
      show (es.map fun p => strOf p.1).Nodup
      refine List.pairwise_map.2 (hpw.imp_of_mem fun {p q} hp' hq' hne e => hne ?_)
      obtain ⟨a, ha⟩ := hk p hp'
      obtain ⟨b, hb⟩ := hk q hq'
      rw [ha, hb] at e ⊢
      exact congrArg _ e
    refine ⟨hp.nodup_iff.2 hnd, fun x => ?_⟩
    rw [hp.mem_iff, has_eq, List.any_eq_true]
    show x ∈ es.map (fun p => strOf p.1) ↔ _
    rw [List.mem_map]
    constructor
    · rintro ⟨p, hp', rfl⟩
      obtain ⟨a, ha⟩ := hk p hp'
      exact ⟨p, hp', by rw [ha]; simp [Lit.sameKey, strOf]⟩
    · rintro ⟨p, hp', hs⟩
      obtain ⟨a, ha⟩ := hk p hp'
      rw [ha] at hs
      exact ⟨p, hp', by rw [ha]; simpa [Lit.sameKey, strOf] using hs⟩
  refine names_merge h4.1 fun x => ?_
  rw [h4.2, h3, hasN_iff]
  constructor
  · rintro ⟨e, he, h5⟩
    exact ⟨e, he, by rw [h5, list_toB]⟩
  · rintro ⟨e, he, rfl⟩
    exact ⟨e, he, by rw [toB_list]⟩
end
/-- m[k] = v, at the walk. -/
theorem wpList_set_mapS {w : World} {ops : Array Oper} {rest : List Oper} {o : Oper} {a : Act} {Q : Exit → Act → World → Prop} (hg : o.guard = none) (m x y : Operand) (hop : o.op = Op.mapUpdate 26 m x y)
    (b : Nat) (L : List Ent) (hm : a.eval m = .map (some b)) (h : MapS w b L) (hn : L.length ≤ 500) (s : ByteArray) (n : Int) (hx : a.eval x = .string s) (hy : a.eval y = .int .i64 (getN L s + n)) (hk : s.size ≤ 3000) (hv : 0 ≤ getN L s + n ∧ getN L s + n ≤ 1000000000)
    (hK : ∀ w', MapS w' b (L ++ [(s, n)]) → w.grownBy w' (some b) → wpList Tryz.prog ops Q rest (a.put o.dst undef) w') :
    wpList Tryz.prog ops Q (o :: rest) a w := by
  refine wpList_plain hg fun K' hK' => ?_
  obtain ⟨w', hrun, r1, r2⟩ := h.add hn hk hv
  unfold Oper.wp
  simp [execOp, hop, hm, hx, hy, hrun, Result.andThen]
  exact hK' _ _ (hK w' r1 r2)
/-- m[k], at the walk. -/
theorem wpList_look_mapS {w : World} {ops : Array Oper} {rest : List Oper} {o : Oper} {a : Act} {Q : Exit → Act → World → Prop} (hg : o.guard = none) (m x : Operand) (hop : o.op = Op.lookup 26 m x false)
    (b : Nat) (L : List Ent) (hm : a.eval m = .map (some b)) (h : MapS w b L) (s : ByteArray) (hx : a.eval x = .string s) (hk : s.size ≤ 3000)
    (hK : wpList Tryz.prog ops Q rest (a.put o.dst (.int .i64 (getN L s))) w) :
    wpList Tryz.prog ops Q (o :: rest) a w := by
  refine wpList_plain hg fun K' hK' => ?_
  have hrun := h.look hk
  unfold Oper.wp
  simp [execOp, hop, hm, hx, hrun, Result.andThen]
  exact hK' _ _ hK
theorem wpList_look_none {w : World} {ops : Array Oper} {rest : List Oper} {o : Oper} {a : Act} {Q : Exit → Act → World → Prop} (hg : o.guard = none) (m x : Operand) (hop : o.op = Op.lookup 26 m x false)
    (hm : a.eval m = .map none) (s : ByteArray) (hx : a.eval x = .string s) (hk : s.size ≤ 3000)
    (hK : wpList Tryz.prog ops Q rest (a.put o.dst (.int .i64 0)) w) :
    wpList Tryz.prog ops Q (o :: rest) a w := by
  refine wpList_plain hg fun K' hK' => ?_
  have hrun := look_none w hk
  unfold Oper.wp
  simp [execOp, hop, hm, hx, hrun, Result.andThen]
  exact hK' _ _ hK
end Go.Proofs.YticifnegoacopaaGreatDoor

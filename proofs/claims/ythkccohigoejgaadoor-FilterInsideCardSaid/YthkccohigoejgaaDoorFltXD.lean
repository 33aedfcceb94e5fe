/-
  Filters that are put together anew, one by one: the ground of Inside on both sides.
-/
import Derived.Test.YthkccohigoejgaaDoorFltK
import Derived.Test.YthkccohigoejgaaDoorFltRE
import Derived.Test.YthkccohigoejgaaDoorFltXA
namespace Go.Proofs.YthkccohigoejgaaDoor
open Go Go.RowKit

theorem FltV.up {S : Nat → Prop} : ∀ {d : Nat} {w : World} {v : Value} {f : Flt}, FltV S d w v f → FltV S (d + 1) w v f
  | 0, _, _, _, h => h.elim
  | d + 1, w, v, f, h => by
    cases f with
    | any => exact h
    | test i lo hi => exact h
    | has i lo => exact h
    | not g =>
      obtain ⟨u, h1, h2⟩ := h
      exact ⟨u, h1, h2.up⟩
    | many l o =>
      obtain ⟨s, vs, h1, h2, h3, h4, h5, h6, h7⟩ := h
      exact ⟨s, vs, h1, h2, h3, h4, h5, h6, fun i hi => (h7 i hi).up⟩
theorem RFl.up {S : Nat → Prop} : ∀ {d : Nat} {w : World} {v : Value} {f : Flt}, RFl S d w v f → RFl S (d + 1) w v f
  | 0, _, _, _, h => h.elim
  | d + 1, w, v, f, h => by
    obtain ⟨b, h1, h2, h3, h4⟩ := h
    refine ⟨b, h1, h2, h3, ?_⟩
    cases f with
    | any => exact h4
    | test i lo hi => exact h4
    | has i lo => exact h4
    | not g =>
      obtain ⟨s, u, k1, k2, k3, k4⟩ := h4
      exact ⟨s, u, k1, k2, k3, k4.up⟩
    | many l o =>
      obtain ⟨s, vs, k1, k2, k3, k4, k5, k6, k7⟩ := h4
      exact ⟨s, vs, k1, k2, k3, k4, k5, k6, fun i hi => (k7 i hi).up⟩
/-- What is told of the kids holds on as long as their blocks stand. -/
structure KidK (K : Nat → (Nat → Prop) → World → Value → Prop) : Prop where
  same : ∀ {i : Nat} {S : Nat → Prop} {w w' : World} {v : Value}, K i S w v → (∀ g, S g → g < w.heap.size → w'.heap[g]? = w.heap[g]?) → w.heap.size ≤ w'.heap.size → K i S w' v
  mono : ∀ {i : Nat} {S S' : Nat → Prop} {w : World} {v : Value}, K i S w v → (∀ g, S g → g < w.heap.size → S' g) → K i S' w v
def kF (d : Nat) (F : Nat → Flt) (i : Nat) (S : Nat → Prop) (w : World) (v : Value) : Prop := FltV S d w v (F i)
def kR (d : Nat) (F : Nat → Flt) (i : Nat) (S : Nat → Prop) (w : World) (v : Value) : Prop := RFl S d w v (F i)
theorem kF_ok (d : Nat) (F : Nat → Flt) : KidK (kF d F) :=
  ⟨fun h hk _ => FltV.mono (fun _ hg => hg.1) ((FltV.bound h).same fun _ hg => hk _ hg.1 hg.2), fun h hS => (FltV.bound h).mono fun _ hg => hS _ hg.1 hg.2⟩
theorem kR_ok (d : Nat) (F : Nat → Flt) : KidK (kR d F) := ⟨fun h hk hs => RFl.same h hk hs, fun h hS => RFl.mono h hS⟩
/-- So far: j of them, in the making at block p; B: what came in is older. -/
structure InAt (E : TypeId) (Kd : Value → Prop) (K : Nat → (Nat → Prop) → World → Value → Prop) (T : TypeId) (cs : Value → Array Value) (B p j : Nat) (z : Value) (w0 wr : World) (s : Value) (vs : List Value) (S : Nat → Prop) : Prop where
  bl : wr.heap[p]? = some (.cells (cs s) T (0, 0))
  row : Row E 1 Kd wr s vs.length vs
  len : vs.length = j
  kids : ∀ i, i < j → K i S wr (vs.getD i z)
  sin : ∀ g, S g → (g < B ∨ p < g) ∧ g < wr.heap.size
  own : ∀ g, s.ownBlock = some g → p < g ∧ ¬ S g
  bw : B ≤ w0.heap.size
  pw : w0.heap.size ≤ p
  gr : Gr w0 wr
section
variable {E : TypeId} {Kd : Value → Prop} {K : Nat → (Nat → Prop) → World → Value → Prop} {T : TypeId} {cs : Value → Array Value} {B p j : Nat} {z : Value} {w0 wr w5 : World} {s v v' : Value} {vs : List Value} {S Sk : Nat → Prop}
theorem InAt.nil (bl : wr.heap[p]? = some (.cells (cs (.slice none 0 0)) T (0, 0))) (bw : B ≤ w0.heap.size) (pw : w0.heap.size ≤ p) (gr : Gr w0 wr) : InAt E Kd K T cs B p 0 z w0 wr (.slice none 0 0) [] (fun _ => False) :=
  ⟨bl, Row.nil _ _ _ _, rfl, fun i hi => by omega, fun g hg => hg.elim, fun g hg => by simp [Value.ownBlock] at hg, bw, pw, gr⟩
theorem InAt.lt (h : InAt E Kd K T cs B p j z w0 wr s vs S) : p < wr.heap.size := (Array.getElem?_eq_some_iff.1 h.bl).1
theorem InAt.not_own (h : InAt E Kd K T cs B p j z w0 wr s vs S) : s.ownBlock ≠ some p := fun e => by have := (h.own p e).1; omega
/-- One more. -/
theorem InAt.more (hK : KidK K) (h : InAt E Kd K T cs B p j z w0 wr s vs S) {off : Nat} (hset : ∀ w : World, w.heap[p]? = some (.cells (cs s) T (0, 0)) → (w.setCell ⟨p, off, none⟩ v').heap[p]? = some (.cells (cs v') T (0, 0)))
    (sv : Sav (fun g => s.ownBlock = some g) wr w5) (row : Row E 1 Kd w5 v' (vs.length + 1) (vs ++ [v])) (hk : K j Sk w5 v) (hs : ∀ g, Sk g → (g < B ∨ wr.heap.size ≤ g) ∧ g < w5.heap.size) (hown : ∀ g, v'.ownBlock = some g → s.ownBlock = some g ∨ (wr.heap.size ≤ g ∧ ¬ Sk g)) :
    InAt E Kd K T cs B p (j + 1) z w0 (w5.setCell ⟨p, off, none⟩ v') v' (vs ++ [v]) (fun g => S g ∨ Sk g) := by
  have hp := h.lt
  have hno := h.not_own
  have hBp : B ≤ p := Nat.le_trans h.bw h.pw
  have hol : ∀ g, s.ownBlock = some g → g < wr.heap.size := fun g hg => Row.lt h.row hg
  have hb5 : w5.heap[p]? = some (.cells (cs s) T (0, 0)) := (sv.block p hp hno).trans h.bl
  have hset5 : ∀ g, g ≠ p → (w5.setCell ⟨p, off, none⟩ v').heap[g]? = w5.heap[g]? := fun g hg => Below.heap_setCell _ _ _ _ hg
  have hsz : (w5.setCell ⟨p, off, none⟩ v').heap.size = w5.heap.size := by simp
  have hown' : ∀ g, v'.ownBlock = some g → p < g ∧ ¬ (S g ∨ Sk g) := fun g hg => by
    rcases hown g hg with e | ⟨e, e2⟩
    · refine ⟨(h.own g e).1, ?_⟩
      rintro (h1 | h1)
      · exact (h.own g e).2 h1
      · have h2 := (hs g h1).1
        have h3 := hol g e
        have h4 := (h.own g e).1
        omega
    · refine ⟨by omega, ?_⟩
      rintro (h1 | h1)
      · have := (h.sin g h1).2; omega
      · exact e2 h1
  refine ⟨hset _ hb5, ?_, by simp [h.len], fun i hi => ?_, fun g hg => ?_, hown', h.bw, h.pw, ?_⟩
  · rw [List.length_append]
    exact Row.setCell row v' fun e => by have := (hown' _ e).1; simp only at this; omega
  · by_cases hi2 : i < j
    · have e1 : (vs ++ [v]).getD i z = vs.getD i z := by simp [List.getD_eq_getElem?_getD, List.getElem?_append_left (by rw [h.len]; exact hi2)]
      rw [e1]
      refine hK.mono (hK.same (h.kids i hi2) (fun g hg hl => ?_) (by rw [hsz]; exact sv.size)) fun g hg _ => .inl hg
      have h1 := h.sin g hg
      rw [hset5 g (by omega)]
      exact sv.block g hl fun e => (h.own g e).2 hg
    · obtain rfl : i = j := by omega
      have e1 : (vs ++ [v]).getD i z = v := by rw [← h.len]; simp [List.getD_eq_getElem?_getD]
      rw [e1]
      refine hK.mono (hK.same hk (fun g hg _ => hset5 g ?_) (by rw [hsz]; exact Nat.le_refl _)) fun g hg _ => .inr hg
      have := (hs g hg).1
      omega
  · rw [hsz]
    rcases hg with hg | hg
    · have := h.sin g hg; have := sv.size; omega
    · have := hs g hg; omega
  · exact (sv.gr h.gr fun g e => by have := (h.own g e).1; have := h.pw; omega).setCell h.pw _
end
/-- The call's own value, a filter. -/
def kidP (K : Nat → (Nat → Prop) → World → Value → Prop) (Kd : Value → Prop) (j B N : Nat) (u : Value) (w : World) : Prop := ∃ Sk, K j Sk w u ∧ (∀ g, Sk g → g < B ∨ N ≤ g) ∧ Kd u ∧ u.oneCell' = true
def boxP (K : Nat → (Nat → Prop) → World → Value → Prop) (Kd : Value → Prop) (j B N : Nat) (u : Value) (w : World) : Prop := ∃ g v, u = .slice (some ⟨g, 0, none⟩) 1 1 ∧ N ≤ g ∧ w.cell? ⟨g, 0, none⟩ = some v ∧ kidP K Kd j B N v w
def appP (E : TypeId) (K : Nat → (Nat → Prop) → World → Value → Prop) (Kd : Value → Prop) (s : Value) (vs : List Value) (j B N : Nat) (u : Value) (w : World) : Prop :=
  ∃ v Sk, Row E 1 Kd w u (vs.length + 1) (vs ++ [v]) ∧ K j Sk w v ∧ (∀ g, Sk g → (g < B ∨ N ≤ g) ∧ g < w.heap.size) ∧ ∀ g, u.ownBlock = some g → s.ownBlock = some g ∨ (N ≤ g ∧ ¬ Sk g)
section
variable {E : TypeId} {Kd : Value → Prop} {K : Nat → (Nat → Prop) → World → Value → Prop} {j B N : Nat} {w w' : World} {s u : Value} {vs : List Value}
theorem kidP.sav (hK : KidK K) {D : Nat → Prop} (hD : ∀ g, D g → ¬ (g < B ∨ N ≤ g)) (h : kidP K Kd j B N u w) (k : Sav D w w') : kidP K Kd j B N u w' := by
  obtain ⟨Sk, h1, h2, h3⟩ := h
  exact ⟨Sk, hK.same h1 (fun g hg hl => k.block g hl fun e => hD g e (h2 g hg)) k.size, h2, h3⟩
theorem boxP.sav (hK : KidK K) {D : Nat → Prop} (hD : ∀ g, D g → ¬ (g < B ∨ N ≤ g)) (h : boxP K Kd j B N u w) (k : Sav D w w') : boxP K Kd j B N u w' := by
  obtain ⟨g, v, h1, h2, h3, h4⟩ := h
  exact ⟨g, v, h1, h2, k.cell h3 fun e => hD _ e (.inr h2), h4.sav hK hD k⟩
theorem kidP.gr (hK : KidK K) (h : kidP K Kd j B N u w) (k : Gr w w') : kidP K Kd j B N u w' := h.sav hK (D := fun _ => False) (fun _ h => h.elim) (.of_gr k)
theorem boxP.gr (hK : KidK K) (h : boxP K Kd j B N u w) (k : Gr w w') : boxP K Kd j B N u w' := h.sav hK (D := fun _ => False) (fun _ h => h.elim) (.of_gr k)
theorem appP.gr (hK : KidK K) (h : appP E K Kd s vs j B N u w) (k : Gr w w') : appP E K Kd s vs j B N u w' := by
  obtain ⟨v, Sk, h1, h2, h3, h4⟩ := h
  exact ⟨v, Sk, Row.gr h1 k, hK.same h2 (fun g _ hl => k.block hl) k.size, fun g hg => ⟨(h3 g hg).1, Nat.lt_of_lt_of_le (h3 g hg).2 k.size⟩, h4⟩
def Fg.kidI (hK : KidK K) (Kd : Value → Prop) (j B N : Nat) : Fg := ⟨kidP K Kd j B N, fun _ _ _ h k => h.gr hK k⟩
def Fg.boxI (hK : KidK K) (Kd : Value → Prop) (j B N : Nat) : Fg := ⟨boxP K Kd j B N, fun _ _ _ h k => h.gr hK k⟩
def Fg.appI (hK : KidK K) (E : TypeId) (Kd : Value → Prop) (s : Value) (vs : List Value) (j B N : Nat) : Fg := ⟨appP E K Kd s vs j B N, fun _ _ _ h k => h.gr hK k⟩
/-- The append. -/
theorem in_app (hK : KidK K) {P : Program} (t ty : TypeId) (i : TypeInfo) (zz : Value) (bytes : Nat) (ht : P.underlying t = some (.slice E)) (hi : P.info? E = some i) (hz : i.zero = some zz) (hsize : i.size = 1) (hby : i.bytes = bytes) (hzs : zz.cells.size = 1) (hKz : ∀ u ∈ zz.cells.toList, Kd u) (hb : bytes ≤ 1000)
    (h : Row E 1 Kd w s vs.length vs) (hn : vs.length ≤ 999999) {u : Value} (hu : boxP K Kd j B N u w) (hN : N ≤ w.heap.size) :
    ∃ v' w', (Builtin.append_ #[t, t] ty #[s, u]).run P w = .ok v' w' ∧ Sav (fun g => s.ownBlock = some g) w w' ∧ Row E 1 Kd w' s vs.length vs ∧ ((∀ g, s.ownBlock = some g → ¬ (g < B ∨ N ≤ g)) → appP E K Kd s vs j B N v' w') := by
  obtain ⟨g, v, rfl, h2, h3, Sk, h4, h5, h6, h7⟩ := hu
  obtain ⟨v', w', k1, k2, k3, k4, k5⟩ := Row.appendN (P := P) t ty i zz bytes ht hi hz hsize hby hzs hKz h ⟨g, 0, none⟩ 1 1 (by omega) [v] rfl (by intro q u hq; match q, hq with | 0, hq => (rw [← Option.some.inj hq]; exact h3) | q + 1, hq => simp at hq) (by intro u hu; simp at hu; subst hu; exact h7) (by intro u hu; simp at hu; subst hu; exact h6) (by omega) hb
  have sv : Sav (fun g => s.ownBlock = some g) w w' := Sav.of_grown k3 fun q e => e
  refine ⟨v', w', k1, sv, k5, fun hD => ⟨v, fun g => Sk g ∧ g < w.heap.size, k2, ?_, fun q hq => ⟨h5 q hq.1, Nat.lt_of_lt_of_le hq.2 sv.size⟩, fun q hq => ?_⟩⟩
  · exact hK.mono (hK.same (hK.mono h4 fun g hg hl => (⟨hg, hl⟩ : Sk g ∧ g < w.heap.size)) (fun q hq hl => sv.block q hl fun e => hD q e (h5 q hq.1)) sv.size) fun g hg _ => hg
  · exact (k4 q hq).imp id fun e => ⟨Nat.le_trans hN e, fun h => by have := h.2; omega⟩
end
end Go.Proofs.YthkccohigoejgaaDoor

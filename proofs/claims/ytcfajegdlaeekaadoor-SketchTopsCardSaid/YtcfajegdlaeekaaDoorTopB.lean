/-
  Rows of pairs: as a sort's rows, and what is sorted is the pairs in their order.
-/
import Derived.Test.YtcfajegdlaeekaaDoorTopA
import Derived.Test.YtcfajegdlaeekaaDoorRowN
import Derived.Shelf.SlSortCmp.InsertionK
namespace Go.Proofs.YtcfajegdlaeekaaDoor
open Go.RowKit Go.Shelf Go.Lib Go.Sort

def pcells (p : Int × Int) : List Value := [.int .i64 p.1, .int .i64 p.2]
def pflat (L : List (Int × Int)) : List Value := L.flatMap pcells
theorem pflat_len (L : List (Int × Int)) : (pflat L).length = L.length * 2 := by
  unfold pflat
  induction L with
  | nil => rfl
  | cons a l ih => rw [List.flatMap_cons, List.length_append, ih, List.length_cons]; simp [pcells]; omega
theorem pflat_app (L M : List (Int × Int)) : pflat (L ++ M) = pflat L ++ pflat M := by simp [pflat]
theorem pflat_one (p : Int × Int) : pflat [p] = pcells p := by simp [pflat]
theorem pflat_get : ∀ (L : List (Int × Int)) (i j : Nat), i < L.length → j < 2 → (pflat L)[i * 2 + j]? = (pcells (L.getD i (0, 0)))[j]?
  | [], i, j, h, _ => by simp at h
  | p :: l, 0, j, _, h => by
    show (pcells p ++ pflat l)[0 * 2 + j]? = _
    rw [Nat.zero_mul, Nat.zero_add, List.getElem?_append_left (by simpa [pcells] using h)]
    rfl
  | p :: l, i + 1, j, h, hj => by
    show (pcells p ++ pflat l)[(i + 1) * 2 + j]? = _
    rw [List.getElem?_append_right (by simp [pcells]; omega), show (i + 1) * 2 + j - (pcells p).length = i * 2 + j from by simp [pcells]; omega, pflat_get l i j (by simpa using h) hj]
    rfl
theorem pflat_int (L : List (Int × Int)) : ∀ u ∈ pflat L, u.oneCell' = true ∧ isInt u := by
  intro u hu
  obtain ⟨p, _, hp⟩ := List.mem_flatMap.1 hu
  simp [pcells] at hp
  rcases hp with rfl | rfl
  · exact ⟨rfl, _, rfl⟩
  · exact ⟨rfl, _, rfl⟩
/-- v is a slice of pairs. -/
def PRow (E : TypeId) (w : World) (v : Value) (L : List (Int × Int)) : Prop := Row E 2 isInt w v L.length (pflat L)
section
variable {E : TypeId} {w w' : World} {v : Value} {L L' : List (Int × Int)} {b off c : Nat}
theorem PRow.nil (E : TypeId) (w : World) : PRow E w (.slice none 0 0) [] := Row.nil _ _ _ w
theorem PRow.shape (h : PRow E w v L) : ∃ a c, v = .slice a L.length c := Row.shape h
theorem PRow.gr (h : PRow E w v L) (k : Gr w w') : PRow E w' v L := Row.gr h k
theorem PRow.sav {B : Nat → Prop} (h : PRow E w v L) (k : Sav B w w') (hv : ∀ g, v.ownBlock = some g → ¬ B g) : PRow E w' v L := Row.sav h k hv
theorem PRow.lt (h : PRow E w v L) {g : Nat} (hg : v.ownBlock = some g) : g < w.heap.size := Row.lt h hg
theorem PRow.at (h : PRow E w (.slice (some ⟨b, off, none⟩) L.length c) L) {i : Nat} (hi : i < L.length) : w.cell? ⟨b, off + i * 2, none⟩ = some (.int .i64 (L.getD i (0, 0)).1) ∧ w.cell? ⟨b, off + i * 2 + 1, none⟩ = some (.int .i64 (L.getD i (0, 0)).2) := by
  obtain ⟨g, o, cap, e, _, _, hc⟩ := Row.cells h (by omega)
  cases e
  refine ⟨?_, ?_⟩
  · have := hc (i * 2 + 0) _ (pflat_get L i 0 hi (by omega))
    exact this
  · have := hc (i * 2 + 1) _ (pflat_get L i 1 hi (by omega))
    exact this
theorem flatK_p (L : List (Int × Int)) : (flatK pcells 2 L.toArray).toList = pflat L := by
  apply List.ext_getElem?
  intro j
  by_cases hj : j < L.length * 2
  · have h1 := pflat_get L (j / 2) (j % 2) (by omega) (Nat.mod_lt _ (by omega))
    rw [show j / 2 * 2 + j % 2 = j by omega] at h1
    rw [h1]
    have hs : j < (flatK pcells 2 L.toArray).size := by simpa using hj
    rw [show (flatK pcells 2 L.toArray).toList[j]? = some (flatK pcells 2 L.toArray)[j] from by simp, ← getElem!_pos _ j hs, get_flatK _ _ _ _ (by simpa using hj)]
    have hi : j / 2 < L.length := by omega
    have e1 : L.toArray[j / 2]! = L.getD (j / 2) (0, 0) := by simp [List.getD, hi]
    rw [e1]
    rcases Nat.mod_two_eq_zero_or_one j with e | e <;> rw [e] <;> rfl
  · rw [List.getElem?_eq_none (by simp; omega), List.getElem?_eq_none (by rw [pflat_len]; omega)]
theorem PRow.holds (h : PRow E w (.slice (some ⟨b, off, none⟩) L.length c) L) : HoldsK pcells 2 w b off L.toArray := by
  obtain ⟨hl, h⟩ := h
  rcases h with ⟨e, _⟩ | ⟨g, o, cap, cur, e, hh, h1, h2, h3, h4, h5⟩
  · cases e
  · cases e
    intro j hj
    have hj' : j < L.length * 2 := by simpa using hj
    refine ⟨?_, by simp [World.frozen?, hh]⟩
    rw [cell_of_row w b (off + j) cur E (0, 0) hh, h5 j hj', ← flatK_p, id, getElem!_pos _ j hj]
    simp
theorem PRow.sortW (h : PRow E w (.slice (some ⟨b, off, none⟩) L.length c) L) (hl' : L'.length = L.length) (n : Nat) (os : Array Obj) : PRow E (sortWorldK pcells 2 w b off n L'.toArray os) (.slice (some ⟨b, off, none⟩) L.length c) L' ∧ Sav (fun q => q = b) w (sortWorldK pcells 2 w b off n L'.toArray os) := by
  obtain ⟨hl, h⟩ := h
  rcases h with ⟨e, _⟩ | ⟨g, o, cap, cur, e, hh, h1, h2, h3, h4, h5⟩
  · cases e
  · cases e
    have hbl : b < w.heap.size := (Array.getElem?_eq_some_iff.1 hh).1
    have hblk : (sortWorldK pcells 2 w b off n L'.toArray os).heap[b]? = some (.cells (putCells id off (flatK pcells 2 L'.toArray) cur) E (0, 0)) := by
      show (w.heap.modify b _ ++ os)[b]? = _
      rw [Array.getElem?_append_left (by simpa using hbl), Array.getElem?_modify, if_pos rfl, hh]
      rfl
    have hget : ∀ k, (putCells id off (flatK pcells 2 L'.toArray) cur)[k]? = if off ≤ k ∧ k < off + L'.length * 2 ∧ k < cur.size then (pflat L')[k - off]? else cur[k]? := fun k => by
      unfold putCells
      rw [Array.getElem?_mapIdx]
      by_cases hk : k < cur.size
      · rw [show cur[k]? = some cur[k] from by simp [hk]]
        by_cases hr : off ≤ k ∧ k < off + L'.length * 2
        · rw [if_pos ⟨hr.1, hr.2, hk⟩, Option.map_some, if_pos (by simpa using hr), ← flatK_p]
          have hs : k - off < (flatK pcells 2 L'.toArray).size := by simp; omega
          rw [getElem!_pos (flatK pcells 2 L'.toArray) (k - off) hs]
          simp only [Array.getElem?_toList, Array.getElem?_eq_getElem hs, id]
        · rw [if_neg (fun e => hr ⟨e.1, e.2.1⟩), Option.map_some, if_neg (by simpa using hr)]
      · rw [show cur[k]? = none from by simp; omega, if_neg (fun e => hk e.2.2)]
        rfl
    refine ⟨⟨by rw [pflat_len, hl'], .inr ⟨b, off, c, _, by rw [hl'], hblk, by omega, h2, by simpa [putCells] using h3, fun i u hu => ?_, fun j hj => ?_⟩⟩, ⟨rfl, rfl, rfl, ?_, fun q hq hne => ?_⟩⟩
    · rw [hget] at hu
      split at hu
      · exact (pflat_int L' u (List.mem_of_getElem? hu)).2
      · exact h4 i u hu
    · have : L.length * 2 ≤ c * 2 := Nat.mul_le_mul_right _ h1
      rw [hget, if_pos (by omega)]
      congr 1
      omega
    · show w.heap.size ≤ (w.heap.modify b _ ++ os).size
      simp
    · show (w.heap.modify b _ ++ os)[q]? = _
      rw [Array.getElem?_append_left (by simpa using hq), Array.getElem?_modify, if_neg (fun e => hne e.symm)]
end
/-- What the sort asks: many first, of like ones the least key. -/
def cfP (a b : Int × Int) : Int := if Lib.compareInt b.2 a.2 ≠ 0 then Lib.compareInt b.2 a.2 else Lib.compareInt a.1 b.1
theorem ltP (a b : Int × Int) : ltOf cfP a b = decide (Bef a b) := by
  unfold ltOf cfP Lib.compareInt Bef
  by_cases h1 : b.2 < a.2
  · simp [h1]
  · by_cases h2 : a.2 < b.2
    · simp [h1, h2]; omega
    · have h3 : a.2 = b.2 := by omega
      by_cases h4 : a.1 < b.1
      · simp [h3, h4]
      · by_cases h5 : b.1 < a.1 <;> simp [h3, h4, h5]
theorem swoP : SWO (ltOf cfP) where
  irrefl x := by rw [ltP]; simp [Bef.irr]
  trans x y z h1 h2 := by rw [ltP] at *; simp at *; exact h1.trans h2
  ntrans x y z h1 h2 := by rw [ltP] at *; simp at *; unfold Bef at *; omega
/-- Sorted so, where no key stands twice: in their order. -/
theorem sorted_pairs {L L' : List (Int × Int)} (hp : PermIn 0 L.toArray.size L.toArray L'.toArray) (hs : SortedIn (ltOf cfP) 0 L.toArray.size L'.toArray) (hn : (L.map (·.1)).Nodup) : L'.Pairwise Bef ∧ (∀ p, p ∈ L' ↔ p ∈ L) ∧ L'.length = L.length := by
  obtain ⟨h1, _, h2⟩ := hp
  have hl : L'.length = L.length := by simpa using h1
  have hperm : L'.Perm L := by
    have e1 : (L'.toArray.extract 0 L.toArray.size).toList = L' := by simp [← hl]
    have e2 : (L.toArray.extract 0 L.toArray.size).toList = L := by simp
    rw [e1, e2] at h2
    exact h2
  have hn' : (L'.map (·.1)).Nodup := (hperm.map _).nodup_iff.2 hn
  refine ⟨?_, fun p => hperm.mem_iff, hl⟩
  rw [List.pairwise_iff_getElem]
  intro i j hi hj hij
  have h3 := hs i j (Nat.zero_le _) hij (by simp; omega)
  rw [ltP] at h3
  simp only [List.size_toArray, hi, hj, getElem!_pos, List.getElem_toArray, decide_eq_false_iff_not] at h3
  refine (Bef.total fun e => ?_).resolve_right h3
  have h4 := List.pairwise_iff_getElem.1 (List.nodup_iff_pairwise_ne.1 hn') i j (by simpa using hi) (by simpa using hj) hij
  exact h4 (by simpa using e)
theorem sorted_pairsOf {f : Int → Int} {L L' : List (Int × Int)} (hp : PermIn 0 L.toArray.size L.toArray L'.toArray) (hs : SortedIn (ltOf cfP) 0 L.toArray.size L'.toArray) (hn : (L.map (·.1)).Nodup) (hm : ∀ p, p ∈ L ↔ f p.1 = p.2 ∧ p.2 ≠ 0) : PairsOf f L' :=
  have h := sorted_pairs hp hs hn
  ⟨h.1, fun p => (h.2.1 p).trans (hm p)⟩
end Go.Proofs.YtcfajegdlaeekaaDoor

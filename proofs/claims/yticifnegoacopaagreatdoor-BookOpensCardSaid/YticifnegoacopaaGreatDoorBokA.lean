/-
  Books, plainly. No program is named here.
-/
import Derived.Test.YticifnegoacopaaGreatDoorFltS
import Derived.Sort.KeysCollected
namespace Go.Proofs.YticifnegoacopaaGreatDoor
open Go Go.RowKit

abbrev Ent := ByteArray × Int
/-- The bytes that a name may have. -/
def nameB (c : UInt8) : Bool := (decide (97 ≤ c.toNat) && decide (c.toNat ≤ 122)) || (decide (48 ≤ c.toNat) && decide (c.toNat ≤ 57)) || decide (c.toNat = 45)
def nameOk (s : ByteArray) : Bool := s.data.toList.all nameB && decide (1 ≤ s.size) && decide (s.size ≤ 12)
/-- What Add tells. -/
def addC (L : List Ent) (s : ByteArray) (n : Int) : Int := if nameOk s = false then 5 else if n < 1 ∨ 1000000 < n then 2 else if 500 ≤ L.length then 4 else 0
/-- What stands at a name. -/
def getN : List Ent → ByteArray → Int
  | [], _ => 0
  | e :: L, s => (if e.1 = s then e.2 else 0) + getN L s
theorem getN_app (L M : List Ent) (s : ByteArray) : getN (L ++ M) s = getN L s + getN M s := by
  induction L with
  | nil => simp [getN]
  | cons e L ih => simp only [List.cons_append, getN, ih]; omega
theorem getN_snoc (L : List Ent) (e : Ent) (s : ByteArray) : getN (L ++ [e]) s = getN L s + (if e.1 = s then e.2 else 0) := by
  rw [getN_app]
  simp [getN]
theorem getN_bd {L : List Ent} (h : ∀ e, e ∈ L → 0 ≤ e.2 ∧ e.2 ≤ 1000000) (s : ByteArray) : 0 ≤ getN L s ∧ getN L s ≤ L.length * 1000000 := by
  induction L with
  | nil => simp [getN]
  | cons e L ih =>
    have h1 := ih fun x hx => h x (List.mem_cons_of_mem _ hx)
    have h2 := h e (by simp)
    simp only [getN, List.length_cons]
    split <;> omega
/-- The check of a line, over its first bytes. -/
def chkTo (s : ByteArray) : Nat → Int
  | 0 => 11
  | i + 1 => (37 * chkTo s i + ((s.data.toList.getD i 0).toNat : Int)) % 9901
theorem chkTo_bd (s : ByteArray) (i : Nat) : 0 ≤ chkTo s i ∧ chkTo s i ≤ 9900 := by
  cases i with
  | zero => simp [chkTo]
  | succ i => simp only [chkTo]; omega
def txt (n : Int) : ByteArray := ⟨(Lib.itoa n).toArray⟩
def kSp : ByteArray := ⟨#[32]⟩
def kNl : ByteArray := ⟨#[10]⟩
def body (k : Int) (e : Ent) : ByteArray := txt k ++ kSp ++ e.1 ++ kSp ++ txt e.2
def jline (k : Int) (e : Ent) : ByteArray := body k e ++ kSp ++ txt (chkTo (body k e) (body k e).size) ++ kNl
def jfrom : Nat → List Ent → ByteArray
  | _, [] => ⟨#[]⟩
  | k, e :: L => jline (k : Int) e ++ jfrom (k + 1) L
def journal (L : List Ent) : ByteArray := jfrom 0 L
theorem bapp_assoc (a b c : ByteArray) : a ++ b ++ c = a ++ (b ++ c) := by
  apply ByteArray.ext
  simp [ByteArray.data_append, Array.append_assoc]
theorem bapp_nil (a : ByteArray) : a ++ ⟨#[]⟩ = a := by
  apply ByteArray.ext
  simp [ByteArray.data_append]
theorem nil_bapp (a : ByteArray) : (⟨#[]⟩ : ByteArray) ++ a = a := by
  apply ByteArray.ext
  simp [ByteArray.data_append]
theorem jfrom_snoc (L : List Ent) (e : Ent) : ∀ k, jfrom k (L ++ [e]) = jfrom k L ++ jline ((k + L.length : Nat) : Int) e := by
  induction L with
  | nil =>
    intro k
    simp only [List.nil_append, jfrom, List.length_nil, Nat.add_zero, bapp_nil, nil_bapp]
  | cons x L ih =>
    intro k
    simp only [List.cons_append, jfrom, ih, List.length_cons, bapp_assoc]
    rw [show k + 1 + L.length = k + (L.length + 1) from by omega]
theorem journal_snoc (L : List Ent) (e : Ent) : journal (L ++ [e]) = journal L ++ jline (L.length : Int) e := by
  have := jfrom_snoc L e 0
  rwa [Nat.zero_add] at this
/-- Go's less on strings. -/
def less (a b : ByteArray) : Bool := Go.Op.bytesLess a.data.toList b.data.toList
theorem bytesLess_iff : ∀ (x y : List UInt8), Go.Op.bytesLess x y = true ↔ x < y
  | _, [] => by simp [Go.Op.bytesLess]
  | [], b :: y => by simp [Go.Op.bytesLess]
  | a :: x, b :: y => by
    have ih := bytesLess_iff x y
    simp only [Go.Op.bytesLess, Bool.or_eq_true, Bool.and_eq_true, decide_eq_true_eq, beq_iff_eq, ih, List.cons_lt_cons_iff]
theorem less_iff (a b : ByteArray) : less a b = true ↔ a.data.toList < b.data.toList := bytesLess_iff _ _
/-- Where a name would stand. -/
def insAt (N : List ByteArray) (s : ByteArray) : Nat := (N.takeWhile fun a => less a s).length
def insN (N : List ByteArray) (s : ByteArray) : List ByteArray := if N[insAt N s]? = some s then N else N.take (insAt N s) ++ s :: N.drop (insAt N s)
def namesOf (L : List Ent) : List ByteArray := L.foldl (fun N e => insN N e.1) []
theorem namesOf_snoc (L : List Ent) (e : Ent) : namesOf (L ++ [e]) = insN (namesOf L) e.1 := by simp [namesOf]
theorem insN_mem {N : List ByteArray} {s x : ByteArray} : x ∈ insN N s ↔ x ∈ N ∨ x = s := by
  unfold insN
  split
  · rename_i h
    have := List.mem_of_getElem? h
    constructor
    · exact .inl
    · rintro (h | rfl)
      · exact h
      · exact this
  · rw [List.mem_append, List.mem_cons]
    have h1 : x ∈ N ↔ x ∈ N.take (insAt N s) ∨ x ∈ N.drop (insAt N s) := by rw [← List.mem_append, List.take_append_drop]
    rw [h1]
    constructor
    · rintro (h | h | h)
      · exact .inl (.inl h)
      · exact .inr h
      · exact .inl (.inr h)
    · rintro ((h | h) | h)
      · exact .inl h
      · exact .inr (.inr h)
      · exact .inr (.inl h)
theorem namesOf_mem {L : List Ent} {x : ByteArray} : x ∈ namesOf L ↔ ∃ e ∈ L, e.1 = x := by
  suffices h : ∀ (N : List ByteArray), x ∈ L.foldl (fun N e => insN N e.1) N ↔ x ∈ N ∨ ∃ e ∈ L, e.1 = x by
    have := h []
    simpa [namesOf] using this
  induction L with
  | nil => intro N; simp
  | cons e L ih =>
    intro N
    rw [List.foldl_cons, ih, insN_mem]
    simp only [List.mem_cons, exists_eq_or_imp]
    constructor
    · rintro ((h | h) | h)
      · exact .inl h
      · exact .inr (.inl h.symm)
      · exact .inr (.inr h)
    · rintro (h | h | h)
      · exact .inl (.inl h)
      · exact .inl (.inr h.symm)
      · exact .inr h
/-- in order, none twice -/
def Ord (N : List ByteArray) : Prop := N.Pairwise fun a b => a.data.toList < b.data.toList
theorem ba_eq {a b : ByteArray} (h : a.data.toList = b.data.toList) : a = b := ByteArray.ext (Array.toList_inj.1 h)
theorem tw_facts (p : ByteArray → Bool) : ∀ N : List ByteArray, N.take (N.takeWhile p).length = N.takeWhile p ∧ N.drop (N.takeWhile p).length = N.dropWhile p ∧ ∀ a ∈ N.takeWhile p, p a = true
  | [] => ⟨rfl, rfl, fun a h => by cases h⟩
  | x :: N => by
    obtain ⟨h1, h2, h3⟩ := tw_facts p N
    cases hx : p x with
    | true =>
      simp only [List.takeWhile_cons, List.dropWhile_cons, hx, if_true, List.length_cons, List.take_succ_cons, List.drop_succ_cons]
      refine ⟨by rw [h1], h2, fun a ha => ?_⟩
      rcases List.mem_cons.1 ha with rfl | ha
      · exact hx
      · exact h3 a ha
    | false =>
      simp [List.takeWhile_cons, List.dropWhile_cons, hx]
theorem insN_ord {N : List ByteArray} {s : ByteArray} (h : Ord N) : Ord (insN N s) := by
  unfold insN
  split
  · exact h
  · rename_i hne
    have hN : N = N.take (insAt N s) ++ N.drop (insAt N s) := (List.take_append_drop _ _).symm
    obtain ⟨ht, hd, hall⟩ := tw_facts (fun a => less a s) N
    change N.take (insAt N s) = _ at ht
    change N.drop (insAt N s) = _ at hd
    rw [Ord, hN, List.pairwise_append] at h
    obtain ⟨h1, h2, h3⟩ := h
    have hlow : ∀ a ∈ N.take (insAt N s), a.data.toList < s.data.toList := fun a ha => by
      rw [ht] at ha
      exact (less_iff _ _).1 (hall a ha)
    have hhigh : ∀ a ∈ N.drop (insAt N s), s.data.toList < a.data.toList := fun a ha => by
      cases hc : N.drop (insAt N s) with
      | nil => rw [hc] at ha; cases ha
      | cons y r =>
        have hy : ¬ y.data.toList < s.data.toList := fun hlt => by
          have h4 := List.head?_dropWhile_not (fun a => less a s) N
          rw [← hd, hc] at h4
          simp only [List.head?_cons] at h4
          rw [(less_iff _ _).2 hlt] at h4
          simp at h4
        have hys : y ≠ s := fun e => hne (by
          have h5 : N[insAt N s]? = (N.drop (insAt N s))[0]? := by rw [List.getElem?_drop, Nat.add_zero]
          rw [h5, hc, e]
          rfl)
        have hsy : s.data.toList < y.data.toList := by
          rcases Decidable.em (s.data.toList < y.data.toList) with h6 | h6
          · exact h6
          · exact absurd (ba_eq (List.le_antisymm h6 hy)) hys
        rw [hc] at ha h2
        rcases List.mem_cons.1 ha with rfl | ha
        · exact hsy
        · exact List.lt_trans hsy ((List.pairwise_cons.1 h2).1 a ha)
    refine List.pairwise_append.2 ⟨h1, List.pairwise_cons.2 ⟨hhigh, h2⟩, fun a ha b hb => ?_⟩
    rcases List.mem_cons.1 hb with rfl | hb
    · exact hlow a ha
    · exact h3 a ha b hb
theorem namesOf_ord (L : List Ent) : Ord (namesOf L) := by
  suffices h : ∀ (N : List ByteArray), Ord N → Ord (L.foldl (fun N e => insN N e.1) N) from h [] List.Pairwise.nil
  induction L with
  | nil => intro N h; exact h
  | cons e L ih => intro N h; exact ih _ (insN_ord h)
/-- The same names, sorted in any way. -/
theorem names_merge {L : List Ent} {ss : List (List UInt8)} (hn : ss.Nodup) (hm : ∀ x, x ∈ ss ↔ ∃ e ∈ L, e.1.data.toList = x) : ss.mergeSort leB = (namesOf L).map fun b => b.data.toList := by
  have hnd : ((namesOf L).map fun b => b.data.toList).Nodup := List.pairwise_map.2 ((namesOf_ord L).imp fun {a b} h e => by rw [e] at h; exact List.lt_irrefl _ h)
  have hp : ss.Perm ((namesOf L).map fun b => b.data.toList) := (List.perm_ext_iff_of_nodup hn hnd).2 fun x => by
    rw [hm, List.mem_map]
    constructor
    · rintro ⟨e, he, rfl⟩
      exact ⟨e.1, namesOf_mem.2 ⟨e, he, rfl⟩, rfl⟩
    · rintro ⟨b, hb, rfl⟩
      obtain ⟨e, he, rfl⟩ := namesOf_mem.1 hb
      exact ⟨e, he, rfl⟩
  have tr : ∀ a b c : List UInt8, leB a b = true → leB b c = true → leB a c = true := fun a b c h1 h2 => by simp only [leB, decide_eq_true_eq] at *; exact List.le_trans h1 h2
  have to : ∀ a b : List UInt8, (leB a b || leB b a) = true := fun a b => by simp only [leB, Bool.or_eq_true, decide_eq_true_eq]; exact List.le_total a b
  refine List.Perm.eq_of_pairwise (le := fun a b => leB a b = true) (fun a b _ _ h1 h2 => ?_) (List.pairwise_mergeSort tr to ss) (List.pairwise_map.2 ((namesOf_ord L).imp fun {a b} h => ?_)) ((List.mergeSort_perm ss leB).trans hp)
  · simp only [leB, decide_eq_true_eq] at h1 h2
    exact List.le_antisymm h1 h2
  · simp only [leB, decide_eq_true_eq]
    exact List.le_of_lt h
end Go.Proofs.YticifnegoacopaaGreatDoor

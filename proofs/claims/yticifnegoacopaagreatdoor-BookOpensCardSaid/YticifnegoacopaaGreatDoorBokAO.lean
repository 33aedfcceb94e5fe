/-
  A journal, read line by line; plainly. No program is named here.
-/
import Derived.Test.YticifnegoacopaaGreatDoorBokA
import Derived.Lib.Split
import Derived.Lib.SplitLaws
import Derived.Lib.IndexLaws
import Derived.Lib.IndexBytes
namespace Go.Proofs.YticifnegoacopaaGreatDoor
open Go Go.RowKit

/-- s cut at every c. -/
def pcs (c s : ByteArray) : List ByteArray := Lib.splitB c 0 (Lib.countB s c) s
theorem pcs_miss {c s : ByteArray} (h : Lib.indexB s c = -1) : pcs c s = [s] := Lib.splitB_miss c 0 _ s h
theorem pcs_hit {c s : ByteArray} {i : Nat} (hc : c.size = 1) (h : Lib.indexB s c = i) : pcs c s = s.extract 0 i :: pcs c (s.extract (i + c.size) s.size) := by
  unfold pcs
  rw [Lib.countB_hit s c i (by omega) h, Nat.add_comm, Lib.splitB_hit c 0 _ s i h]
  rfl
theorem pcs_len {c s : ByteArray} (hc : 1 ≤ c.size) : (pcs c s).length = Lib.countB s c + 1 := Lib.splitB_all c hc 0 _ s rfl
/-- What index tells of one byte. -/
theorem idx_hit {s : ByteArray} {c : UInt8} {i : Nat} (h : Lib.indexB s ⟨#[c]⟩ = i) : s.data.toList[i]? = some c ∧ ∀ k : Nat, k < i → s.data.toList[k]? ≠ some c :=
  Lib.indexByte_some (by rw [← Lib.index_one]; exact h)
theorem idx_miss {s : ByteArray} {c : UInt8} (h : Lib.indexB s ⟨#[c]⟩ = -1) : ∀ k : Nat, s.data.toList[k]? ≠ some c :=
  Lib.indexByte_none (by rw [← Lib.index_one]; exact h)
theorem not_in_take {l : List UInt8} {c : UInt8} {i : Nat} (h : ∀ k : Nat, k < i → l[k]? ≠ some c) : c ∉ l.take i := fun hm => by
  obtain ⟨k, hk, e⟩ := List.mem_iff_getElem.1 hm
  rw [List.length_take] at hk
  refine h k (by omega) ?_
  rw [List.getElem_take] at e
  rw [List.getElem?_eq_getElem (by omega), e]
theorem not_in {l : List UInt8} {c : UInt8} (h : ∀ k : Nat, l[k]? ≠ some c) : c ∉ l := fun hm => by
  obtain ⟨k, hk, e⟩ := List.mem_iff_getElem.1 hm
  exact h k (by rw [List.getElem?_eq_getElem hk, e])
theorem cut_at {l : List UInt8} {c : UInt8} {i : Nat} (h : l[i]? = some c) : l = l.take i ++ c :: l.drop (i + 1) := by
  obtain ⟨hi, e⟩ := List.getElem?_eq_some_iff.1 h
  rw [← e, List.getElem_cons_drop, List.take_append_drop]
/-- At least two pieces. -/
theorem pcs_two {s p q : ByteArray} {r : List ByteArray} (h : pcs kSp s = p :: q :: r) : ∃ s', s.data.toList = p.data.toList ++ 32 :: s'.data.toList ∧ (32 : UInt8) ∉ p.data.toList ∧ pcs kSp s' = q :: r := by
  rcases Lib.indexB_cases s kSp with hm | ⟨i, hi, hle⟩
  · rw [pcs_miss hm] at h
    cases h
  · rw [pcs_hit rfl hi] at h
    obtain ⟨h1, h2⟩ := idx_hit (c := 32) hi
    have hp := (List.cons.inj h).1
    have hsz : s.data.toList.length = s.size := Array.length_toList
    have e0 : (s.extract 0 i).data.toList = s.data.toList.take i := by rw [Lib.extract_data]; simp
    have e1 : (s.extract (i + kSp.size) s.size).data.toList = s.data.toList.drop (i + 1) := by
      rw [Lib.extract_data]
      exact List.take_of_length_le (by rw [List.length_drop, hsz]; exact Nat.le_refl _)
    refine ⟨_, ?_, ?_, (List.cons.inj h).2⟩
    · rw [← hp, e0, e1]
      exact cut_at h1
    · rw [← hp, e0]
      exact not_in_take h2
theorem pcs_one {s p : ByteArray} (h : pcs kSp s = [p]) : s = p := by
  rcases Lib.indexB_cases s kSp with hm | ⟨i, hi, hle⟩
  · rw [pcs_miss hm] at h
    exact (List.cons.inj h).1
  · rw [pcs_hit rfl hi] at h
    have := congrArg List.length h
    rw [List.length_cons, pcs_len (by decide)] at this
    simp at this
theorem pcs_four {s p0 p1 p2 p3 : ByteArray} (h : pcs kSp s = [p0, p1, p2, p3]) : s.data.toList = p0.data.toList ++ 32 :: (p1.data.toList ++ 32 :: (p2.data.toList ++ 32 :: p3.data.toList)) ∧ (32 : UInt8) ∉ p0.data.toList ∧ (32 : UInt8) ∉ p2.data.toList := by
  obtain ⟨s1, e1, n1, h1⟩ := pcs_two h
  obtain ⟨s2, e2, n2, h2⟩ := pcs_two h1
  obtain ⟨s3, e3, n3, h3⟩ := pcs_two h2
  have := pcs_one h3
  subst this
  exact ⟨by rw [e1, e2, e3], n1, n3⟩
theorem cancel32 : ∀ {l1 l2 r1 r2 : List UInt8}, l1 ++ 32 :: r1 = l2 ++ 32 :: r2 → (32 : UInt8) ∉ l1 → (32 : UInt8) ∉ l2 → l1 = l2 ∧ r1 = r2
  | [], [], r1, r2, h, _, _ => ⟨rfl, (List.cons.inj h).2⟩
  | [], b :: l2, r1, r2, h, _, h2 => absurd (List.mem_cons.2 (.inl (List.cons.inj h).1)) h2
  | a :: l1, [], r1, r2, h, h1, _ => absurd (List.mem_cons.2 (.inl (List.cons.inj h).1.symm)) h1
  | a :: l1, b :: l2, r1, r2, h, h1, h2 => by
    obtain ⟨e, h3⟩ := List.cons.inj h
    obtain ⟨h4, h5⟩ := cancel32 h3 (fun hm => h1 (List.mem_cons_of_mem _ hm)) (fun hm => h2 (List.mem_cons_of_mem _ hm))
    exact ⟨by rw [e, h4], h5⟩
theorem dec_no32 (u : Nat) : (32 : UInt8) ∉ Lib.decDigits u := by
  have hd : ∀ k : Fin 10, (32 : UInt8) ≠ UInt8.ofNat (48 + k.val) := by decide
  induction u using Nat.strongRecOn with
  | ind u ih =>
    rw [Lib.decDigits]
    by_cases h : u < 10
    · rw [dif_pos h]
      intro hm
      rw [List.mem_singleton] at hm
      exact hd ⟨u, h⟩ hm
    · rw [dif_neg h]
      intro hm
      rcases List.mem_append.1 hm with hm | hm
      · exact ih (u / 10) (by omega) hm
      · rw [List.mem_singleton] at hm
        exact hd ⟨u % 10, Nat.mod_lt _ (by omega)⟩ hm
theorem itoa_no32 (n : Int) : (32 : UInt8) ∉ (txt n).data.toList := by
  show (32 : UInt8) ∉ (Lib.itoa n).toArray.toList
  rw [List.toList_toArray]
  unfold Lib.itoa
  split
  · intro hm
    rcases List.mem_cons.1 hm with hm | hm
    · exact absurd hm (by decide)
    · exact dec_no32 _ hm
  · exact dec_no32 _
theorem jline_list (k : Int) (e : Ent) : (jline k e).data.toList = (txt k).data.toList ++ 32 :: (e.1.data.toList ++ 32 :: ((txt e.2).data.toList ++ 32 :: ((txt (chkTo (body k e) (body k e).size)).data.toList ++ [10]))) := by
  unfold jline body kSp kNl
  simp [ByteArray.data_append, List.append_assoc]
/-- A line that is its own: the number stands as it is told. -/
theorem line_num {s p0 p1 p2 p3 : ByteArray} {k n : Int} (h : pcs kSp s = [p0, p1, p2, p3]) (hj : (jline k (p1, n)).data.toList = s.data.toList ++ [10]) : txt n = p2 := by
  obtain ⟨h1, n0, n2⟩ := pcs_four h
  rw [jline_list, h1, List.append_assoc, List.cons_append, List.append_assoc, List.cons_append, List.append_assoc, List.cons_append] at hj
  obtain ⟨_, e1⟩ := cancel32 hj (itoa_no32 k) n0
  have e2 := (List.cons.inj (List.append_cancel_left e1)).2
  exact ba_eq (cancel32 e2 (itoa_no32 n) n2).1
/-- One line more. -/
def stepO (d : ByteArray) (at_ : Nat) (L : List Ent) : Option (Nat × List Ent) :=
  match Lib.indexB (d.extract at_ d.size) kNl with
  | .ofNat k => match pcs kSp ((d.extract at_ d.size).extract 0 k) with
    | [_, p1, p2, _] => match numR p2 with
      | some n => if jline (L.length : Int) (p1, n) = (d.extract at_ d.size).extract 0 (k + 1) ∧ addC L p1 n = 0 then some (at_ + k + 1, L ++ [(p1, n)]) else none
      | none => none
    | _ => none
  | .negSucc _ => none
def stO (d : ByteArray) : Nat → Option (Nat × List Ent)
  | 0 => some (0, [])
  | m + 1 => (stO d m).bind fun p => stepO d p.1 p.2
/-- What is read, whatever the road. -/
def EndO (d : ByteArray) (at_ : Nat) (L : List Ent) : Prop := (∃ m, stO d m = some (at_, L)) ∧ stepO d at_ L = none
theorem stO_none {d : ByteArray} {m : Nat} (h : stO d m = none) : ∀ k, stO d (m + k) = none
  | 0 => h
  | k + 1 => by
    show (stO d (m + k)).bind _ = none
    rw [stO_none h k]
    rfl
theorem EndO.one {d : ByteArray} {a a' : Nat} {L L' : List Ent} (h : EndO d a L) (h' : EndO d a' L') : a = a' ∧ L = L' := by
  obtain ⟨⟨m, hm⟩, hs⟩ := h
  obtain ⟨⟨m', hm'⟩, hs'⟩ := h'
  have n1 : stO d (m + 1) = none := by
    show (stO d m).bind _ = none
    rw [hm]
    exact hs
  have n2 : stO d (m' + 1) = none := by
    show (stO d m').bind _ = none
    rw [hm']
    exact hs'
  have e : m = m' := by
    rcases Nat.lt_trichotomy m m' with h1 | h1 | h1
    · have := stO_none n1 (m' - (m + 1))
      rw [show m + 1 + (m' - (m + 1)) = m' by omega, hm'] at this
      cases this
    · exact h1
    · have := stO_none n2 (m - (m' + 1))
      rw [show m' + 1 + (m - (m' + 1)) = m by omega, hm] at this
      cases this
  subst e
  rw [hm] at hm'
  cases hm'
  exact ⟨rfl, rfl⟩
section
variable {d : ByteArray} {a k : Nat} {L : List Ent} {n : Int} {p0 p1 p2 p3 : ByteArray}
theorem stepO_nonl (h : Lib.indexB (d.extract a d.size) kNl = -1) : stepO d a L = none := by
  unfold stepO
  rw [h]
  rfl
theorem stepO_len (h : Lib.indexB (d.extract a d.size) kNl = (k : Int)) (hl : (pcs kSp ((d.extract a d.size).extract 0 k)).length ≠ 4) : stepO d a L = none := by
  unfold stepO
  rw [h]
  show (match pcs kSp ((d.extract a d.size).extract 0 k) with | [_, p1, p2, _] => _ | _ => none) = none
  split
  · rename_i e
    rw [e] at hl
    exact absurd rfl hl
  · rfl
theorem stepO_four (h : Lib.indexB (d.extract a d.size) kNl = (k : Int)) (hp : pcs kSp ((d.extract a d.size).extract 0 k) = [p0, p1, p2, p3]) : stepO d a L = match numR p2 with
      | some n => if jline (L.length : Int) (p1, n) = (d.extract a d.size).extract 0 (k + 1) ∧ addC L p1 n = 0 then some (a + k + 1, L ++ [(p1, n)]) else none
      | none => none := by
  unfold stepO
  rw [h]
  show (match pcs kSp ((d.extract a d.size).extract 0 k) with | [_, p1, p2, _] => _ | _ => none) = _
  rw [hp]
theorem numR_some {s : ByteArray} {v : Int} (h : numR s = some v) : Lib.atoiAll s.data.toList = .ok v ∧ (Lib.itoa v == s.toList) = true := by
  unfold numR at h
  split at h
  · rename_i v' hv
    by_cases h2 : (Lib.itoa v' == s.toList) = true
    · rw [if_pos h2] at h
      cases h
      exact ⟨hv, h2⟩
    · rw [if_neg h2] at h
      cases h
  · cases h
theorem stepO_num (h : Lib.indexB (d.extract a d.size) kNl = (k : Int)) (hp : pcs kSp ((d.extract a d.size).extract 0 k) = [p0, p1, p2, p3]) (hn : numR p2 = none) : stepO d a L = none := by
  rw [stepO_four h hp, hn]
theorem stepO_atoi (h : Lib.indexB (d.extract a d.size) kNl = (k : Int)) (hp : pcs kSp ((d.extract a d.size).extract 0 k) = [p0, p1, p2, p3]) (hn : ∀ v, Lib.atoiAll p2.data.toList ≠ .ok v) : stepO d a L = none := by
  refine stepO_num h hp ?_
  cases e : numR p2 with
  | none => rfl
  | some v => exact absurd (numR_some e).1 (hn v)
theorem stepO_line (h : Lib.indexB (d.extract a d.size) kNl = (k : Int)) (hp : pcs kSp ((d.extract a d.size).extract 0 k) = [p0, p1, p2, p3]) (hn : Lib.atoiAll p2.data.toList = .ok n) (hj : jline (L.length : Int) (p1, n) ≠ (d.extract a d.size).extract 0 (k + 1)) : stepO d a L = none := by
  rw [stepO_four h hp]
  cases e : numR p2 with
  | none => rfl
  | some v =>
    have := (numR_some e).1
    rw [hn] at this
    cases this
    show (if _ then _ else _) = none
    rw [if_neg (fun h => hj h.1)]
theorem stepO_add (h : Lib.indexB (d.extract a d.size) kNl = (k : Int)) (hp : pcs kSp ((d.extract a d.size).extract 0 k) = [p0, p1, p2, p3]) (hn : Lib.atoiAll p2.data.toList = .ok n) (ha : addC L p1 n ≠ 0) : stepO d a L = none := by
  rw [stepO_four h hp]
  cases e : numR p2 with
  | none => rfl
  | some v =>
    have := (numR_some e).1
    rw [hn] at this
    cases this
    show (if _ then _ else _) = none
    rw [if_neg (fun h => ha h.2)]
theorem nl_at {s : ByteArray} {k : Nat} (h : Lib.indexB s kNl = (k : Int)) : k < s.size ∧ (s.extract 0 (k + 1)).data.toList = (s.extract 0 k).data.toList ++ [10] := by
  obtain ⟨h1, _⟩ := idx_hit (c := 10) h
  obtain ⟨hk, e⟩ := List.getElem?_eq_some_iff.1 h1
  have hsz : s.data.toList.length = s.size := Array.length_toList
  refine ⟨by omega, ?_⟩
  rw [Lib.extract_data, Lib.extract_data]
  simp only [List.drop_zero, Nat.sub_zero]
  rw [List.take_succ_eq_append_getElem hk, e]
theorem stepO_ok (h : Lib.indexB (d.extract a d.size) kNl = (k : Int)) (hp : pcs kSp ((d.extract a d.size).extract 0 k) = [p0, p1, p2, p3]) (hn : Lib.atoiAll p2.data.toList = .ok n) (hj : jline (L.length : Int) (p1, n) = (d.extract a d.size).extract 0 (k + 1)) (ha : addC L p1 n = 0) : stepO d a L = some (a + k + 1, L ++ [(p1, n)]) := by
  have h2 := line_num hp (k := (L.length : Int)) (n := n) (by rw [hj]; exact (nl_at h).2)
  have h3 : numR p2 = some n := by
    unfold numR
    rw [hn]
    exact if_pos (by
      rw [Lib.toList_data, ← h2]
      simp [txt])
  rw [stepO_four h hp, h3]
  show (if _ then _ else _) = _
  rw [if_pos ⟨hj, ha⟩]
theorem ext_ext {s : ByteArray} {a k : Nat} (h : a + k ≤ s.size) : (s.extract a s.size).extract 0 k = s.extract a (a + k) := by
  apply ba_eq
  rw [Lib.extract_data, Lib.extract_data, Lib.extract_data]
  simp only [List.drop_zero, Nat.sub_zero]
  rw [List.take_take, Nat.min_eq_left (by omega), show a + k - a = k by omega]
end
end Go.Proofs.YticifnegoacopaaGreatDoor

/-
  Which packets a filter means, plainly. No program is named here.
-/
import Derived.Test.YthkccohigoejgaaGreatDoorFltS
import Derived.Test.YthkccohigoejgaaGreatDoorItems
import Derived.WalkKit
namespace Go.Proofs.YthkccohigoejgaaGreatDoor
open Go Go.RowKit

def Itm.fld (x : Itm) : Nat → Int
  | 0 => x.t
  | 1 => x.len
  | 2 => x.flow
  | 3 => x.band
  | _ => x.mark
/-- All bits of lo are in v. -/
def hasB (v lo : Int) : Bool := decide (bits .and .i64 v lo = lo)
/-- d: how deep it is at the most. -/
def meantF (x : Itm) : Nat → Flt → Bool
  | 0, _ => false
  | d + 1, f => match f with
    | .any => true
    | .test i lo hi => decide (lo ≤ x.fld i) && decide (x.fld i ≤ hi)
    | .has i lo => hasB (x.fld i) lo
    | .not g => !meantF x d g
    | .many l o => if o then l.any (meantF x d) else l.all (meantF x d)
theorem and_small (v : Int) {L : Nat} (hL : L < 2147483648) : bits .and .i64 v (L : Int) = (((BitVec.ofInt 64 v).toNat &&& L : Nat) : Int) := by
  have hx : (BitVec.ofInt 64 v).toNat &&& L < 2 ^ 31 := Nat.and_lt_two_pow _ (by omega)
  have h2 : (BitVec.ofInt 64 (L : Int)).toNat = L := by
    rw [BitVec.ofInt_natCast, BitVec.toNat_ofNat]; exact Nat.mod_eq_of_lt (by omega)
  show IntKind.i64.wrap ((BitVec.ofInt 64 v &&& BitVec.ofInt 64 (L : Int)).toNat : Int) = _
  rw [BitVec.toNat_and, h2]
  exact IntWalk.i64_in _ (by omega)
theorem bit_of (L k : Nat) : L / 2 ^ k % 2 = 1 ↔ L.testBit k = true := by
  rw [Nat.testBit_eq_decide_div_mod_eq]; simp
theorem and_bit (A k : Nat) : A &&& 2 ^ k = 0 ↔ A.testBit k = false := by
  constructor
  · intro h
    have := congrArg (fun n => n.testBit k) h
    simpa only [Nat.testBit_and, Nat.testBit_two_pow_self, Bool.and_true, Nat.zero_testBit] using this
  · intro h
    apply Nat.eq_of_testBit_eq
    intro j
    rw [Nat.testBit_and, Nat.testBit_two_pow, Nat.zero_testBit]
    by_cases e : k = j
    · subst e; rw [h]; rfl
    · simp [e]
theorem and_self_iff (A L : Nat) : A &&& L = L ↔ ∀ k, L.testBit k = true → A.testBit k = true := by
  constructor
  · intro h k hk
    have := congrArg (fun n => n.testBit k) h
    simp only [Nat.testBit_and, hk] at this
    simpa using this
  · intro h
    apply Nat.eq_of_testBit_eq
    intro k
    rw [Nat.testBit_and]
    cases hk : L.testBit k with
    | true => rw [h k hk]; rfl
    | false => simp
theorem bit_le {L k : Nat} (h : L.testBit k = true) : 2 ^ k ≤ L := Nat.ge_two_pow_of_testBit h
/-- The first k bits are well. -/
def BitsTo (v : Int) (L k : Nat) : Prop := ∀ j, j < k → L.testBit j = true → (BitVec.ofInt 64 v).toNat.testBit j = true
theorem BitsTo.zero (v : Int) (L : Nat) : BitsTo v L 0 := fun j hj => by omega
theorem BitsTo.next {v : Int} {L k : Nat} (h : BitsTo v L k) (hk : L / 2 ^ k % 2 ≠ 1 ∨ bits .and .i64 v ((2 ^ k : Nat) : Int) ≠ 0) (hp : 2 ^ k < 2147483648) : BitsTo v L (k + 1) := by
  intro j hj hb
  rcases Nat.lt_or_ge j k with h1 | h1
  · exact h j h1 hb
  · obtain rfl : j = k := by omega
    rcases hk with hk | hk
    · exact absurd ((bit_of L j).2 hb) hk
    · rw [and_small v hp] at hk
      cases hA : (BitVec.ofInt 64 v).toNat.testBit j with
      | true => rfl
      | false => exact absurd (by rw [(and_bit _ j).2 hA]; rfl) hk
theorem BitsTo.done {v : Int} {L k : Nat} (h : BitsTo v L k) (hk : L < 2 ^ k) (hL : L < 2147483648) : hasB v (L : Int) = true := by
  unfold hasB
  rw [and_small v hL, decide_eq_true_eq]
  have : (BitVec.ofInt 64 v).toNat &&& L = L := (and_self_iff _ _).2 fun j hj => h j (by
    rcases Nat.lt_or_ge j k with h1 | h1
    · exact h1
    · have h2 := bit_le hj
      have h3 : 2 ^ k ≤ 2 ^ j := Nat.pow_le_pow_right (by decide) h1
      omega) hj
  rw [this]
theorem has_not {v : Int} {L k : Nat} (h1 : L / 2 ^ k % 2 = 1) (h2 : bits .and .i64 v ((2 ^ k : Nat) : Int) = 0) (hL : L < 2147483648) : hasB v (L : Int) = false := by
  have hb := (bit_of L k).1 h1
  have hp := bit_le hb
  rw [and_small v (by omega)] at h2
  have hA := (and_bit (BitVec.ofInt 64 v).toNat k).1 (by omega)
  unfold hasB
  rw [and_small v hL, decide_eq_false_iff_not]
  intro e
  have := (and_self_iff (BitVec.ofInt 64 v).toNat L).1 (by omega) k hb
  rw [hA] at this
  cases this
/-- How many of the first i filters mean it. -/
def cntF (x : Itm) (d : Nat) (l : List Flt) (i : Nat) : Nat := ((l.take i).filter (meantF x d)).length
theorem cntF_zero (x : Itm) (d : Nat) (l : List Flt) : cntF x d l 0 = 0 := rfl
theorem cntF_next {x : Itm} {d : Nat} {l : List Flt} {i : Nat} (h : i < l.length) : cntF x d l (i + 1) = cntF x d l i + if meantF x d (l.getD i .any) = true then 1 else 0 := by
  unfold cntF
  rw [List.take_succ_eq_append_getElem h, List.filter_append, List.length_append, List.getD_eq_getElem?_getD, List.getElem?_eq_getElem h]
  congr 1
  simp only [Option.getD_some, List.filter_cons, List.filter_nil]
  split <;> rfl
theorem cntF_le (x : Itm) (d : Nat) (l : List Flt) (i : Nat) : cntF x d l i ≤ i := Nat.le_trans (List.length_filter_le _ _) (by rw [List.length_take]; omega)
theorem cntF_any (x : Itm) (d : Nat) (l : List Flt) : l.any (meantF x d) = decide (0 < cntF x d l l.length) := by
  unfold cntF
  rw [List.take_length, Bool.eq_iff_iff]
  simp [List.length_pos_iff, List.filter_eq_nil_iff]
theorem cntF_all (x : Itm) (d : Nat) (l : List Flt) : l.all (meantF x d) = decide (cntF x d l l.length = l.length) := by
  unfold cntF
  rw [List.take_length, Bool.eq_iff_iff]
  simp [List.length_filter_eq_length_iff]
/-- The program's: o is found nowhere among the first i. -/
def NoneF (x : Itm) (d : Nat) (l : List Flt) (o : Bool) (i : Nat) : Prop := ∀ j, j < i → meantF x d (l.getD j .any) = !o
theorem NoneF.zero (x : Itm) (d : Nat) (l : List Flt) (o : Bool) : NoneF x d l o 0 := fun j hj => by omega
theorem NoneF.next {x : Itm} {d : Nat} {l : List Flt} {o : Bool} {i : Nat} (h : NoneF x d l o i) (h2 : meantF x d (l.getD i .any) = !o) : NoneF x d l o (i + 1) := fun j hj => by
  rcases Nat.lt_or_ge j i with h1 | h1
  · exact h j h1
  · obtain rfl : j = i := by omega
    exact h2
theorem NoneF.done {x : Itm} {d : Nat} {l : List Flt} {o : Bool} (h : NoneF x d l o l.length) : meantF x (d + 1) (.many l o) = !o := by
  have key : ∀ f ∈ l, meantF x d f = !o := fun f hf => by
    obtain ⟨i, hi, rfl⟩ := List.mem_iff_getElem.1 hf
    have := h i hi
    rwa [List.getD_eq_getElem?_getD, List.getElem?_eq_getElem hi] at this
  show (if o then l.any (meantF x d) else l.all (meantF x d)) = !o
  cases o with
  | true => simp only [if_true]; rw [List.any_eq_false.2 (fun f hf => by rw [key f hf]; decide)]; rfl
  | false => simp only [Bool.false_eq_true, if_false]; rw [List.all_eq_true.2 (fun f hf => by rw [key f hf]; rfl)]; rfl
theorem NoneF.found {x : Itm} {d : Nat} {l : List Flt} {o : Bool} {i : Nat} (hi : i < l.length) (h2 : meantF x d (l.getD i .any) = o) : meantF x (d + 1) (.many l o) = o := by
  rw [List.getD_eq_getElem?_getD, List.getElem?_eq_getElem hi] at h2
  have hm : l[i] ∈ l := List.getElem_mem hi
  show (if o then l.any (meantF x d) else l.all (meantF x d)) = o
  cases o with
  | true => simp only [if_true]; exact List.any_eq_true.2 ⟨_, hm, h2⟩
  | false =>
    simp only [Bool.false_eq_true, if_false]
    cases e : l.all (meantF x d) with
    | false => rfl
    | true => have := List.all_eq_true.1 e _ hm; rw [show meantF x d l[i] = false from h2] at this; cases this
end Go.Proofs.YthkccohigoejgaaGreatDoor

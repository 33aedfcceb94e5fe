/-
  Filters, plainly: what a filter is, how a list of words is read as one, which packets it means. No program is named here.
-/
import Derived.Test.YticifnegoacopaaGreatDoorBase
import Derived.Lib.AtoiAll
import Derived.Lib.IndexMore
import Derived.Lib.ItoaNum
namespace Go.Proofs.YticifnegoacopaaGreatDoor
open Go.RowKit

inductive Flt where
  | any
  | test (i : Nat) (lo hi : Int)
  | has (i : Nat) (lo : Int)
  | not (f : Flt)
  | many (l : List Flt) (o : Bool)
/-- A word and its place. -/
abbrev Tok := ByteArray × Int
inductive PR where
  | ok (f : Flt) (r : List Tok)
  | err (c : Int) (r : List Tok)
def placeOf (e : Int) : List Tok → Int
  | [] => e
  | t :: _ => t.2
/-- Behind the word s, if it comes first. -/
def isT (s : ByteArray) : List Tok → Option (List Tok)
  | [] => none
  | t :: r => if (t.1.toList == s.toList) = true then some r else none
def kAny : ByteArray := ⟨#[97, 110, 121]⟩
def kNot : ByteArray := ⟨#[110, 111, 116]⟩
def kOpen : ByteArray := ⟨#[40]⟩
def kClose : ByteArray := ⟨#[41]⟩
def kAnd : ByteArray := ⟨#[97, 110, 100]⟩
def kOr : ByteArray := ⟨#[111, 114]⟩
def kHas : ByteArray := ⟨#[104, 97, 115]⟩
def kDots : ByteArray := ⟨#[46, 46]⟩
def kTest : ByteArray := ⟨#[116, 101, 115, 116]⟩
def fname : Nat → ByteArray
  | 0 => ⟨#[97, 116]⟩
  | 1 => ⟨#[108, 101, 110]⟩
  | 2 => ⟨#[102, 108, 111, 119]⟩
  | 3 => ⟨#[98, 97, 110, 100]⟩
  | _ => ⟨#[109, 97, 114, 107]⟩
/-- A number as it is told. -/
def numR (s : ByteArray) : Option Int :=
  match Lib.atoiAll s.data.toList with
  | .ok n => if (Lib.itoa n == s.toList) = true then some n else none
  | _ => none
def codeOf (s : ByteArray) : Int :=
  match numR s with
  | none => 3
  | some n => if 0 ≤ n ∧ n ≤ 1000000000 then 0 else 2
def numOf (s : ByteArray) : Int := (numR s).getD 0
theorem codeOf_none {s : ByteArray} (h : numR s = none) : codeOf s = 3 := by unfold codeOf; rw [h]
theorem codeOf_in {s : ByteArray} {n : Int} (h : numR s = some n) (h0 : 0 ≤ n) (h1 : n ≤ 1000000000) : codeOf s = 0 := by unfold codeOf; rw [h]; exact if_pos ⟨h0, h1⟩
theorem codeOf_out {s : ByteArray} {n : Int} (h : numR s = some n) (h0 : ¬ (0 ≤ n ∧ n ≤ 1000000000)) : codeOf s = 2 := by unfold codeOf; rw [h]; exact if_neg h0
theorem numOf_in {s : ByteArray} (h : codeOf s = 0) : 0 ≤ numOf s ∧ numOf s ≤ 1000000000 := by
  unfold codeOf at h
  unfold numOf
  cases e : numR s with
  | none => rw [e] at h; simp at h
  | some n =>
    rw [e] at h
    simp only [Option.getD_some] at h ⊢
    by_cases hc : 0 ≤ n ∧ n ≤ 1000000000
    · exact hc
    · rw [if_neg hc] at h; omega
def cutA (s : ByteArray) : ByteArray := ⟨(Lib.cut s.data.toList kDots.data.toList).1.toArray⟩
def cutB (s : ByteArray) : ByteArray := ⟨(Lib.cut s.data.toList kDots.data.toList).2.1.toArray⟩
def cutT (s : ByteArray) : Bool := (Lib.cut s.data.toList kDots.data.toList).2.2
/-- What a field is held against; h: has stood there. -/
def pHeld (i : Nat) (h : Bool) : List Tok → PR
  | [] => .err 3 []
  | t :: r =>
    if (cutT t.1 && h) = true then .err 3 (t :: r)
    else if codeOf (cutA t.1) ≠ 0 then .err (codeOf (cutA t.1)) (t :: r)
    else if cutT t.1 = true then
      if codeOf (cutB t.1) ≠ 0 then .err (codeOf (cutB t.1)) (t :: r)
      else if numOf (cutB t.1) < numOf (cutA t.1) then .err 10 (t :: r)
      else .ok (.test i (numOf (cutA t.1)) (numOf (cutB t.1))) r
    else .ok (if h then .has i (numOf (cutA t.1)) else .test i (numOf (cutA t.1)) (numOf (cutA t.1))) r
def pTest (i : Nat) (L : List Tok) : PR :=
  match isT kHas L with
  | some r => pHeld i true r
  | none => pHeld i false L
def pFld : Nat → List Tok → PR
  | 0, L => .err 3 L
  | k + 1, L => match isT (fname (4 - k)) L with
    | some r => pTest (4 - k) r
    | none => pFld k L
def isAnd (wd : Nat) (L : List Tok) : Option (List Tok) := if wd = 2 then none else isT kAnd L
def isOr (wd : Nat) (L : List Tok) : Option (List Tok) := if wd = 1 then none else isT kOr L
/-- Filters with and, or with or, between. -/
def pList (p : List Tok → PR) : Nat → List Tok → List Flt → Nat → PR
  | 0, L, _, _ => .err 3 L
  | n + 1, L, acc, wd => match p L with
    | .err c r => .err c r
    | .ok f L1 => match isT kClose L1 with
      | some r => .ok (.many (acc ++ [f]) (wd == 2)) r
      | none => match isAnd wd L1 with
        | some r => pList p n r (acc ++ [f]) 1
        | none => match isOr wd L1 with
          | some r => pList p n r (acc ++ [f]) 2
          | none => .err 3 L1
def pNot : PR → PR
  | .ok f r => .ok (.not f) r
  | .err c r => .err c r
def pOne : Nat → List Tok → PR
  | 0, L => .err 4 L
  | d + 1, L => match isT kAny L with
    | some r => .ok .any r
    | none => match isT kNot L with
      | some r => pNot (pOne d r)
      | none => match isT kOpen L with
        | some r => pList (pOne d) (r.length + 1) r [] 0
        | none => pFld 5 L
theorem isT_cons (s : ByteArray) (t : Tok) (r : List Tok) : isT s (t :: r) = if (t.1.toList == s.toList) = true then some r else none := rfl
theorem pHeld_cons (i : Nat) (h : Bool) (t : Tok) (r : List Tok) : pHeld i h (t :: r) = if (cutT t.1 && h) = true then .err 3 (t :: r)
    else if codeOf (cutA t.1) ≠ 0 then .err (codeOf (cutA t.1)) (t :: r)
    else if cutT t.1 = true then
      if codeOf (cutB t.1) ≠ 0 then .err (codeOf (cutB t.1)) (t :: r)
      else if numOf (cutB t.1) < numOf (cutA t.1) then .err 10 (t :: r)
      else .ok (.test i (numOf (cutA t.1)) (numOf (cutB t.1))) r
    else .ok (if h then .has i (numOf (cutA t.1)) else .test i (numOf (cutA t.1)) (numOf (cutA t.1))) r := rfl
theorem isT_some {s : ByteArray} {L r : List Tok} (h : isT s L = some r) : ∃ t, L = t :: r ∧ (t.1.toList == s.toList) = true := by
  cases L with
  | nil => simp [isT] at h
  | cons t l =>
    rw [isT_cons] at h
    by_cases e : (t.1.toList == s.toList) = true
    · rw [if_pos e] at h
      injection h with h
      subst h
      exact ⟨t, rfl, e⟩
    · rw [if_neg e] at h
      cases h
theorem isT_len {s : ByteArray} {L r : List Tok} (h : isT s L = some r) : L.length = r.length + 1 := by
  obtain ⟨t, rfl, _⟩ := isT_some h
  rfl
theorem pHeld_len {i : Nat} {h : Bool} {L r : List Tok} {f : Flt} (e : pHeld i h L = .ok f r) : r.length ≤ L.length := by
  cases L with
  | nil => simp [pHeld] at e
  | cons t l =>
    rw [pHeld_cons] at e
    by_cases h1 : (cutT t.1 && h) = true
    · rw [if_pos h1] at e; cases e
    · rw [if_neg h1] at e
      by_cases h2 : codeOf (cutA t.1) ≠ 0
      · rw [if_pos h2] at e; cases e
      · rw [if_neg h2] at e
        by_cases h3 : cutT t.1 = true
        · rw [if_pos h3] at e
          by_cases h4 : codeOf (cutB t.1) ≠ 0
          · rw [if_pos h4] at e; cases e
          · rw [if_neg h4] at e
            by_cases h5 : numOf (cutB t.1) < numOf (cutA t.1)
            · rw [if_pos h5] at e; cases e
            · rw [if_neg h5] at e
              injection e with _ e; subst e; simp
        · rw [if_neg h3] at e
          injection e with _ e; subst e; simp
theorem pTest_len {i : Nat} {L r : List Tok} {f : Flt} (e : pTest i L = .ok f r) : r.length ≤ L.length := by
  unfold pTest at e
  split at e
  · have := pHeld_len e
    have := isT_len (by assumption)
    omega
  · exact pHeld_len e
theorem pFld_len : ∀ {k : Nat} {L r : List Tok} {f : Flt}, pFld k L = .ok f r → r.length < L.length
  | 0, L, r, f, e => by simp [pFld] at e
  | k + 1, L, r, f, e => by
    unfold pFld at e
    split at e
    · have := pTest_len e
      have := isT_len (by assumption)
      omega
    · exact pFld_len e
theorem isAnd_len {wd : Nat} {L r : List Tok} (h : isAnd wd L = some r) : L.length = r.length + 1 := by
  unfold isAnd at h
  split at h
  · cases h
  · exact isT_len h
theorem isOr_len {wd : Nat} {L r : List Tok} (h : isOr wd L = some r) : L.length = r.length + 1 := by
  unfold isOr at h
  split at h
  · cases h
  · exact isT_len h
theorem pList_len {p : List Tok → PR} (hp : ∀ {L r : List Tok} {f : Flt}, p L = .ok f r → r.length < L.length) : ∀ {n : Nat} {L r : List Tok} {acc : List Flt} {wd : Nat} {f : Flt}, pList p n L acc wd = .ok f r → r.length < L.length
  | 0, L, r, acc, wd, f, e => by simp [pList] at e
  | n + 1, L, r, acc, wd, f, e => by
    unfold pList at e
    split at e
    · cases e
    · have h1 := hp (by assumption)
      split at e
      · injection e with _ e; subst e
        have := isT_len (by assumption)
        omega
      · split at e
        · have h2 := pList_len hp e
          have := isAnd_len (by assumption)
          omega
        · split at e
          · have h2 := pList_len hp e
            have := isOr_len (by assumption)
            omega
          · cases e
theorem pOne_len : ∀ {d : Nat} {L r : List Tok} {f : Flt}, pOne d L = .ok f r → r.length < L.length
  | 0, L, r, f, e => by simp [pOne] at e
  | d + 1, L, r, f, e => by
    unfold pOne at e
    split at e
    · injection e with _ e; subst e
      have := isT_len (by assumption)
      omega
    · split at e
      · have h1 := isT_len (by assumption)
        rename_i r1 _
        cases e2 : pOne d r1 with
        | err c x => rw [e2] at e; simp [pNot] at e
        | ok g x =>
          rw [e2] at e
          simp only [pNot] at e
          injection e with _ e; subst e
          have := pOne_len e2
          omega
      · split at e
        · have h1 := isT_len (by assumption)
          have := pList_len (fun h => pOne_len h) e
          omega
        · exact pFld_len e
end Go.Proofs.YticifnegoacopaaGreatDoor

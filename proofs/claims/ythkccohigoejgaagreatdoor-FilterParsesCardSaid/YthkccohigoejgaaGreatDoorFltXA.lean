/-
  The text of a filter, plainly, and how long it can be; the filter with not ahead of tests alone. No program is named here.
-/
import Derived.Test.YthkccohigoejgaaGreatDoorFltS
import Derived.Lib.Join
import Derived.Lib.ItoaLen
namespace Go.Proofs.YthkccohigoejgaaGreatDoor
open Go Go.RowKit

/-- How many words a filter has. -/
def Flt.wt : Flt → Nat
  | .any => 1
  | .test _ _ _ => 2
  | .has _ _ => 3
  | .not f => 1 + f.wt
  | .many l _ => 1 + (l.map fun k => k.wt + 1).sum
def sepL (o : Bool) : List UInt8 := if o then [32, 111, 114, 32] else [32, 97, 110, 100, 32]
def textF : Flt → List UInt8
  | .any => [97, 110, 121]
  | .test i lo hi => (fname i).data.toList ++ [32] ++ Lib.itoa lo ++ (if lo = hi then [] else [46, 46] ++ Lib.itoa hi)
  | .has i lo => (fname i).data.toList ++ [32, 104, 97, 115, 32] ++ Lib.itoa lo
  | .not f => [110, 111, 116, 32] ++ textF f
  | .many l o => [40] ++ Lib.join (l.map fun k => textF k) (sepL o) ++ [41]
def txF (f : Flt) : ByteArray := ⟨(textF f).toArray⟩
/-- Not ahead of tests alone: as it is, or as not of it. -/
def insF : Bool → Flt → Flt
  | t, .any => if t then .not .any else .any
  | t, .test i a b => if t then .not (.test i a b) else .test i a b
  | t, .has i a => if t then .not (.has i a) else .has i a
  | t, .not f => insF (!t) f
  | t, .many l o => .many (l.map fun k => insF t k) (xor o t)
theorem wt_not (f : Flt) : (Flt.not f).wt = 1 + f.wt := by rw [Flt.wt]
theorem wt_many (l : List Flt) (o : Bool) : (Flt.many l o).wt = 1 + (l.map fun k => k.wt + 1).sum := by rw [Flt.wt]
theorem text_any : textF .any = [97, 110, 121] := by rw [textF]
theorem text_test (i : Nat) (lo hi : Int) : textF (.test i lo hi) = (fname i).data.toList ++ [32] ++ Lib.itoa lo ++ (if lo = hi then [] else [46, 46] ++ Lib.itoa hi) := by rw [textF]
theorem text_has (i : Nat) (lo : Int) : textF (.has i lo) = (fname i).data.toList ++ [32, 104, 97, 115, 32] ++ Lib.itoa lo := by rw [textF]
theorem text_not (f : Flt) : textF (.not f) = [110, 111, 116, 32] ++ textF f := by rw [textF]
theorem text_many (l : List Flt) (o : Bool) : textF (.many l o) = [40] ++ Lib.join (l.map textF) (sepL o) ++ [41] := by rw [textF]
theorem ins_any (t : Bool) : insF t .any = if t then .not .any else .any := by rw [insF]
theorem ins_test (t : Bool) (i : Nat) (a b : Int) : insF t (.test i a b) = if t then .not (.test i a b) else .test i a b := by rw [insF]
theorem ins_has (t : Bool) (i : Nat) (a : Int) : insF t (.has i a) = if t then .not (.has i a) else .has i a := by rw [insF]
theorem ins_not (t : Bool) (f : Flt) : insF t (.not f) = insF (!t) f := by rw [insF]
theorem ins_many (t : Bool) (l : List Flt) (o : Bool) : insF t (.many l o) = .many (l.map (insF t)) (xor o t) := by rw [insF]
/-- One by one. -/
theorem flt_ind {P : Flt → Prop} (h0 : P .any) (h1 : ∀ i a b, P (.test i a b)) (h2 : ∀ i a, P (.has i a)) (h3 : ∀ f, P f → P (.not f)) (h4 : ∀ l o, (∀ f ∈ l, P f) → P (.many l o)) : ∀ f, P f
  | .any => h0
  | .test i a b => h1 i a b
  | .has i a => h2 i a
  | .not f => h3 f (flt_ind h0 h1 h2 h3 h4 f)
  | .many l o => h4 l o fun f _ => flt_ind h0 h1 h2 h3 h4 f
  termination_by f => SizeOf.sizeOf f
theorem wt_pos : ∀ f : Flt, 1 ≤ f.wt := by
  refine flt_ind ?_ ?_ ?_ ?_ ?_
  · rw [Flt.wt]; exact Nat.le_refl _
  · intro i a b; rw [Flt.wt]; decide
  · intro i a; rw [Flt.wt]; decide
  · intro f _; rw [wt_not]; omega
  · intro l o _; rw [wt_many]; omega
theorem sum_mono {α : Type} (l : List α) (p q : α → Nat) (h : ∀ x ∈ l, p x ≤ q x) : (l.map p).sum ≤ (l.map q).sum := by
  induction l with
  | nil => exact Nat.le_refl _
  | cons x l ih =>
    have h1 := h x (List.mem_cons_self ..)
    have h2 := ih fun y hy => h y (List.mem_cons_of_mem _ hy)
    simp only [List.map_cons, List.sum_cons]
    omega
theorem sum_twice {α : Type} (l : List α) (p : α → Nat) : (l.map fun x => 2 * p x + 1).sum ≤ 2 * (l.map fun x => p x + 1).sum := by
  induction l with
  | nil => exact Nat.le_refl _
  | cons x l ih =>
    simp only [List.map_cons, List.sum_cons]
    omega
/-- It has no more than twice as many words. -/
theorem ins_wt : ∀ (f : Flt) (t : Bool), (insF t f).wt ≤ 2 * f.wt := by
  refine flt_ind ?_ ?_ ?_ ?_ ?_
  · intro t; rw [ins_any]; cases t <;> simp [Flt.wt]
  · intro i a b t; rw [ins_test]; cases t <;> simp [Flt.wt]
  · intro i a t; rw [ins_has]; cases t <;> simp [Flt.wt]
  · intro f h t; rw [ins_not, wt_not]; have := h (!t); omega
  · intro l o h t
    rw [ins_many, wt_many, wt_many, List.map_map]
    have h1 := sum_mono l ((fun k : Flt => k.wt + 1) ∘ insF t) (fun k => 2 * k.wt + 1) fun k hk => by
      have := h k hk t
      show (insF t k).wt + 1 ≤ _
      omega
    have h2 := sum_twice l Flt.wt
    omega
theorem fname_len (i : Nat) : (fname i).data.toList.length ≤ 4 := by
  match i with
  | 0 => decide
  | 1 => decide
  | 2 => decide
  | 3 => decide
  | _ + 4 => exact Nat.le_refl 4
theorem sepL_len (o : Bool) : (sepL o).length ≤ 5 := by cases o <;> decide
theorem join_cons2 (x y : List UInt8) (r : List (List UInt8)) (sep : List UInt8) : Lib.join (x :: y :: r) sep = x ++ sep ++ Lib.join (y :: r) sep := by
  rw [Lib.join_cons, Lib.join_cons]
  simp [Lib.joinTail]
/-- One more behind. -/
theorem join_snoc (xs : List (List UInt8)) (x sep : List UInt8) (h : 0 < xs.length) : Lib.join (xs ++ [x]) sep = Lib.join xs sep ++ sep ++ x := by
  cases xs with
  | nil => simp at h
  | cons y r =>
    rw [List.cons_append, Lib.join_cons, Lib.join_cons]
    simp [Lib.joinTail]
theorem join_sum (xs : List (List UInt8)) (sep : List UInt8) : (Lib.join xs sep).length ≤ (xs.map fun x => x.length + sep.length).sum := by
  cases xs with
  | nil => simp [Lib.join_nil]
  | cons x r =>
    rw [Lib.join_length]
    have h : ∀ l : List (List UInt8), (l.map fun x => x.length + sep.length).sum = sep.length * l.length + Lib.lens l := fun l => by
      induction l with
      | nil => simp [Lib.lens]
      | cons y l ih =>
        simp only [List.map_cons, List.sum_cons, List.length_cons, Lib.lens, Nat.mul_succ] at ih ⊢
        omega
    rw [h, List.length_cons, Nat.mul_succ]
    omega
theorem join_mem {xs : List (List UInt8)} {x : List UInt8} (sep : List UInt8) (h : x ∈ xs) : x.length ≤ (Lib.join xs sep).length := by
  cases xs with
  | nil => cases h
  | cons y r =>
    rw [Lib.join_length]
    have h2 : ∀ l : List (List UInt8), x ∈ l → x.length ≤ Lib.lens l := fun l => by
      induction l with
      | nil => intro h; cases h
      | cons z l ih =>
        intro h
        simp only [Lib.lens, List.map_cons, List.sum_cons] at ih ⊢
        rcases List.mem_cons.1 h with rfl | h
        · omega
        · have := ih h; omega
    have := h2 _ h
    omega
/-- The numbers in it fit. -/
def okF : Flt → Prop
  | .any => True
  | .test _ lo hi => Bd lo ∧ Bd hi
  | .has _ lo => Bd lo
  | .not f => okF f
  | .many l _ => ∀ k, k ∈ l → okF k
theorem text_len : ∀ f : Flt, okF f → (textF f).length ≤ 25 * f.wt := by
  refine flt_ind ?_ ?_ ?_ ?_ ?_
  · intro _; rw [text_any, Flt.wt]; decide
  · intro i lo hi h
    rw [okF] at h
    have h1 := Lib.itoa_length_le lo h.1.1 h.1.2
    have h2 := Lib.itoa_length_le hi h.2.1 h.2.2
    have h3 := fname_len i
    rw [text_test, Flt.wt]
    by_cases e : lo = hi
    · rw [if_pos e]; simp only [List.length_append, List.length_cons, List.length_nil]; omega
    · rw [if_neg e]; simp only [List.length_append, List.length_cons, List.length_nil]; omega
  · intro i lo h
    rw [okF] at h
    have h1 := Lib.itoa_length_le lo h.1 h.2
    have h3 := fname_len i
    rw [text_has, Flt.wt]
    simp only [List.length_append, List.length_cons, List.length_nil]; omega
  · intro f ih h
    rw [okF] at h
    have := ih h
    rw [text_not, wt_not]
    simp only [List.length_append, List.length_cons, List.length_nil]; omega
  · intro l o ih h
    rw [okF] at h
    rw [text_many, wt_many]
    have h1 := join_sum (l.map textF) (sepL o)
    rw [List.map_map] at h1
    have h2 := sum_mono l ((fun x : List UInt8 => x.length + (sepL o).length) ∘ textF) (fun k => 25 * (k.wt + 1)) fun k hk => by
      have h3 := ih k hk (h k hk)
      have h4 := sepL_len o
      show (textF k).length + (sepL o).length ≤ _
      omega
    have h5 : ∀ l : List Flt, (l.map fun k => 25 * (k.wt + 1)).sum = 25 * (l.map fun k => k.wt + 1).sum := fun l => by
      induction l with
      | nil => rfl
      | cons x l ih =>
        simp only [List.map_cons, List.sum_cons]
        rw [show (fun k : Flt => 25 * (k.wt + 1)) = fun k => 25 * (k.wt + 1) from rfl] at ih
        omega
    rw [h5] at h2
    simp only [List.length_append, List.length_cons, List.length_nil]
    omega
theorem ins_ok : ∀ (f : Flt) (t : Bool), okF f → okF (insF t f) := by
  refine flt_ind ?_ ?_ ?_ ?_ ?_
  · intro t _; rw [ins_any]; cases t <;> simp [okF]
  · intro i a b t h; rw [ins_test]; cases t
    · exact h
    · show okF (.not _); rw [okF]; exact h
  · intro i a t h; rw [ins_has]; cases t
    · exact h
    · show okF (.not _); rw [okF]; exact h
  · intro f ih t h
    rw [okF] at h
    rw [ins_not]
    exact ih _ h
  · intro l o ih t h
    rw [okF] at h
    rw [ins_many, okF]
    intro k hk
    obtain ⟨k', h1, rfl⟩ := List.mem_map.1 hk
    exact ih k' h1 t (h k' h1)
/-- What is read has no more words than are read. -/
theorem pHeld_wt {i : Nat} {h : Bool} {L r : List Tok} {f : Flt} (e : pHeld i h L = .ok f r) : f.wt + r.length ≤ L.length + if h then 2 else 1 := by
  cases L with
  | nil => simp [pHeld] at e
  | cons t l =>
    rw [pHeld_cons] at e
    by_cases h1 : (cutT t.1 && h) = true
    · rw [if_pos h1] at e; cases e
    · rw [if_neg h1] at e
      by_cases h2 : codeOf (cutA t.1) ≠ 0
      · rw [if_pos h2] at e; cases e
      · rw [if_neg h2] at e
        by_cases h3 : cutT t.1 = true
        · rw [if_pos h3] at e
          by_cases h4 : codeOf (cutB t.1) ≠ 0
          · rw [if_pos h4] at e; cases e
          · rw [if_neg h4] at e
            by_cases h5 : numOf (cutB t.1) < numOf (cutA t.1)
            · rw [if_pos h5] at e; cases e
            · rw [if_neg h5] at e
              injection e with e1 e; subst e; subst e1
              rw [Flt.wt, List.length_cons]
              cases h <;> simp <;> omega
        · rw [if_neg h3] at e
          injection e with e1 e; subst e; subst e1
          rw [List.length_cons]
          cases h <;> simp [Flt.wt] <;> omega
theorem pTest_wt {i : Nat} {L r : List Tok} {f : Flt} (e : pTest i L = .ok f r) : f.wt + r.length ≤ L.length + 1 := by
  unfold pTest at e
  split at e
  · have h1 := pHeld_wt e
    have := isT_len (by assumption)
    rw [if_pos rfl] at h1
    omega
  · exact pHeld_wt e
theorem pFld_wt : ∀ {k : Nat} {L r : List Tok} {f : Flt}, pFld k L = .ok f r → f.wt + r.length ≤ L.length
  | 0, L, r, f, e => by simp [pFld] at e
  | k + 1, L, r, f, e => by
    unfold pFld at e
    split at e
    · have := pTest_wt e
      have := isT_len (by assumption)
      omega
    · exact pFld_wt e
theorem pList_wt {p : List Tok → PR} (hp : ∀ {L r : List Tok} {f : Flt}, p L = .ok f r → f.wt + r.length ≤ L.length) : ∀ {n : Nat} {L r : List Tok} {acc : List Flt} {wd : Nat} {f : Flt}, pList p n L acc wd = .ok f r → f.wt + r.length ≤ L.length + 1 + (acc.map fun k => k.wt + 1).sum
  | 0, L, r, acc, wd, f, e => by simp [pList] at e
  | n + 1, L, r, acc, wd, f, e => by
    unfold pList at e
    split at e
    · cases e
    · have h1 := hp (by assumption)
      split at e
      · injection e with e1 e; subst e; subst e1
        have := isT_len (by assumption)
        rw [wt_many, List.map_append, List.sum_append]
        simp only [List.map_cons, List.map_nil, List.sum_cons, List.sum_nil]
        omega
      · split at e
        · have h2 := pList_wt hp e
          rw [List.map_append, List.sum_append] at h2
          simp only [List.map_cons, List.map_nil, List.sum_cons, List.sum_nil] at h2
          have := isAnd_len (by assumption)
          omega
        · split at e
          · have h2 := pList_wt hp e
            rw [List.map_append, List.sum_append] at h2
            simp only [List.map_cons, List.map_nil, List.sum_cons, List.sum_nil] at h2
            have := isOr_len (by assumption)
            omega
          · cases e
theorem pOne_wt : ∀ {d : Nat} {L r : List Tok} {f : Flt}, pOne d L = .ok f r → f.wt + r.length ≤ L.length
  | 0, L, r, f, e => by simp [pOne] at e
  | d + 1, L, r, f, e => by
    unfold pOne at e
    split at e
    · injection e with e1 e; subst e; subst e1
      have := isT_len (by assumption)
      rw [Flt.wt]
      omega
    · split at e
      · have h1 := isT_len (by assumption)
        rename_i r1 _
        cases e2 : pOne d r1 with
        | err c x => rw [e2] at e; simp [pNot] at e
        | ok g x =>
          rw [e2] at e
          simp only [pNot] at e
          injection e with e3 e; subst e; subst e3
          have := pOne_wt e2
          rw [wt_not]
          omega
      · split at e
        · have h1 := isT_len (by assumption)
          have := pList_wt (fun h => pOne_wt h) e
          simp only [List.map_nil, List.sum_nil] at this
          omega
        · exact pFld_wt e
end Go.Proofs.YthkccohigoejgaaGreatDoor

/-
  What programs of actions do, in plain words: which may be, one action, all of them with a packet.
-/
import Derived.Test.YtjghgafeoimgiaaDoorBktO
import Derived.Test.YtjghgafeoimgiaaDoorBlk
import Derived.Test.YtjghgafeoimgiaaDoorItems
import Derived.Test.YtjghgafeoimgiaaDoorPlain
namespace Go.Proofs.YtjghgafeoimgiaaDoor
open Go.RowKit

def updS (f : Nat → BSt) (i : Nat) (s : BSt) : Nat → BSt := fun j => if j = i then s else f j
theorem updS_at (f : Nat → BSt) (i : Nat) (s : BSt) : updS f i s i = s := by simp [updS]
theorem updS_ne (f : Nat → BSt) {i j : Nat} (s : BSt) (h : j ≠ i) : updS f i s j = f j := by simp [updS, h]

/-- In the midst: the packet, the next action, the counters, the buckets' states. -/
structure ASt where
  x : Itm
  pc : Nat
  c : Nat → Int
  bs : Nat → BSt
/-- The most that A may be. -/
def topA (n m : Nat) (k : Int) : Int :=
  if k = 3 then 255 else if k = 4 then 7 else if k = 5 then 15 else if k = 6 then 7 else if k = 7 then (n : Int) else if k = 8 then 255 else if k = 9 then (m : Int) - 1 else 10000
/-- What is wrong with an action. -/
def actC (F : Nat → Nat → Int) (n m : Nat) (i : Nat) : Int :=
  if F i 0 < 1 ∨ 10 < F i 0 ∨ (F i 0 ≤ 2 ∧ F i 1 ≠ 0) ∨ (F i 0 ≤ 7 ∧ F i 2 ≠ 0) then 1
  else if (2 < F i 0 ∧ (F i 1 < 0 ∨ topA n m (F i 0) < F i 1)) ∨ (7 < F i 0 ∧ (F i 2 < 0 ∨ (n : Int) < F i 2)) then 2 else 0
/-- One action, neither Pass nor Drop. -/
def astep (F : Nat → Nat → Int) (Bk : Nat → Bkt) (s : ASt) : ASt :=
  if F s.pc 0 = 3 then { s with x := { s.x with mark := F s.pc 1 }, pc := s.pc + 1 }
  else if F s.pc 0 = 4 then { s with x := { s.x with band := F s.pc 1 }, pc := s.pc + 1 }
  else if F s.pc 0 = 5 then { s with x := { s.x with flow := F s.pc 1 }, pc := s.pc + 1 }
  else if F s.pc 0 = 6 then { s with c := upd s.c (F s.pc 1).toNat (wrap64 (s.c (F s.pc 1).toNat + 1)), pc := s.pc + 1 }
  else if F s.pc 0 = 7 then { s with pc := (F s.pc 1).toNat }
  else if F s.pc 0 = 8 then { s with pc := if s.x.mark = F s.pc 1 then (F s.pc 2).toNat else s.pc + 1 }
  else if F s.pc 0 = 9 then
    { s with
      bs := updS s.bs (F s.pc 1).toNat ((Bk (F s.pc 1).toNat).take (s.bs (F s.pc 1).toNat) s.x.t s.x.len).2
      pc := if ((Bk (F s.pc 1).toNat).take (s.bs (F s.pc 1).toNat) s.x.t s.x.len).1 then s.pc + 1 else (F s.pc 2).toNat }
  else { s with pc := if F s.pc 1 < s.x.len then (F s.pc 2).toNat else s.pc + 1 }
/-- So many actions at most: what it comes to; 0 it goes on, 1 it is thrown away, 2 too many. -/
def arun (F : Nat → Nat → Int) (n : Nat) (Bk : Nat → Bkt) : Nat → ASt → ASt × Int
  | 0, s => (s, 2)
  | f + 1, s => if n ≤ s.pc then (s, 0) else if F s.pc 0 = 1 then (s, 0) else if F s.pc 0 = 2 then (s, 1) else arun F n Bk f (astep F Bk s)
section
variable {F : Nat → Nat → Int} {n m : Nat} {Bk : Nat → Bkt} {f : Nat} {s : ASt}
theorem arun_zero : arun F n Bk 0 s = (s, 2) := rfl
theorem arun_out (h : n ≤ s.pc) : arun F n Bk (f + 1) s = (s, 0) := by rw [arun, if_pos h]
theorem arun_pass (h : s.pc < n) (h1 : F s.pc 0 = 1) : arun F n Bk (f + 1) s = (s, 0) := by rw [arun, if_neg (by omega), if_pos h1]
theorem arun_drop (h : s.pc < n) (h1 : F s.pc 0 = 2) : arun F n Bk (f + 1) s = (s, 1) := by rw [arun, if_neg (by omega), if_neg (by omega), if_pos h1]
theorem arun_next (h : s.pc < n) (h1 : 2 < F s.pc 0) : arun F n Bk (f + 1) s = arun F n Bk f (astep F Bk s) := by rw [arun, if_neg (by omega), if_neg (by omega), if_neg (by omega)]
/-- All actions may be. -/
def ActsOk (F : Nat → Nat → Int) (n m : Nat) : Prop := ∀ i, i < n → actC F n m i = 0
theorem ActsOk.kind (h : ActsOk F n m) {i : Nat} (hi : i < n) : 1 ≤ F i 0 ∧ F i 0 ≤ 10 ∧ (2 < F i 0 → 0 ≤ F i 1 ∧ F i 1 ≤ topA n m (F i 0)) ∧ (7 < F i 0 → 0 ≤ F i 2 ∧ F i 2 ≤ (n : Int)) := by
  have h1 := h i hi
  unfold actC at h1
  split at h1
  · omega
  · split at h1
    · omega
    · rename_i h2 h3
      refine ⟨by omega, by omega, fun h => ?_, fun h => ?_⟩
      · constructor
        · rcases Int.lt_or_le (F i 1) 0 with h4 | h4
          · exact absurd (.inl ⟨h, .inl h4⟩) h3
          · exact h4
        · rcases Int.lt_or_le (topA n m (F i 0)) (F i 1) with h4 | h4
          · exact absurd (.inl ⟨h, .inr h4⟩) h3
          · exact h4
      · constructor
        · rcases Int.lt_or_le (F i 2) 0 with h4 | h4
          · exact absurd (.inr ⟨h, .inl h4⟩) h3
          · exact h4
        · rcases Int.lt_or_le (n : Int) (F i 2) with h4 | h4
          · exact absurd (.inr ⟨h, .inr h4⟩) h3
          · exact h4
/-- The buckets' states may be. -/
def BsOk (Bk : Nat → Bkt) (m : Nat) (bs : Nat → BSt) : Prop := ∀ i, i < m → (Bk i).Ok (bs i)
theorem BsOk.upd {bs : Nat → BSt} (h : BsOk Bk m bs) (i : Nat) (t len : Int) : BsOk Bk m (updS bs i ((Bk i).take (bs i) t len).2) := by
  intro j hj
  by_cases e : j = i
  · subst e; rw [updS_at]; exact (Bk j).take_ok (h j hj) _ _
  · rw [updS_ne _ _ e]; exact h j hj
theorem BsOk.step (h : BsOk Bk m s.bs) : BsOk Bk m (astep F Bk s).bs := by
  unfold astep
  repeat' split
  all_goals first
    | exact h
    | exact h.upd _ _ _
theorem BsOk.run : ∀ {f : Nat} {s : ASt}, BsOk Bk m s.bs → BsOk Bk m (arun F n Bk f s).1.bs
  | 0, s, h => h
  | f + 1, s, h => by
    rw [arun]
    repeat' split
    · exact h
    · exact h
    · exact h
    · exact BsOk.run h.step
end
end Go.Proofs.YtjghgafeoimgiaaDoor

/-
  A queue that lets no more go than a bucket has, plainly. No program is named here.
-/
import Derived.Test.YtgifghbnpdanhaaGreatDoorShaperPlaysPart10
import Derived.Test.YtgifghbnpdanhaaGreatDoorShaperPlaysPart1
namespace Go.Proofs.YtgifghbnpdanhaaGreatDoor
open Go.RowKit

structure Shp (α : Type) where
  a : α
  t : BSt
  held : Option Hel
  lost : List Hel
section
variable {α : Type} (U : Mach α) (B : Bkt)
/-- The next one is at hand. -/
def shLook (s : Shp α) (now : Int) : Shp α := match s.held with
  | some _ => s
  | none => ⟨(U.take s.a now).1, s.t, if (U.take s.a now).2.2.2 = true then some (U.take s.a now).2.1 else none, s.lost ++ (U.take s.a now).2.2.1⟩
/-- What goes, the next one being at hand. -/
def shGo (s : Shp α) (now : Int) : Shp α × Hel × List Hel × Bool := match s.held with
  | none => (⟨s.a, s.t, none, []⟩, .zero, s.lost, false)
  | some x => if (B.take s.t now x.len).1 = true then (⟨s.a, (B.take s.t now x.len).2, none, []⟩, x, s.lost, true) else (⟨s.a, (B.take s.t now x.len).2, some x, []⟩, .zero, s.lost, false)
def shAsk (s : Shp α) (now : Int) : Shp α × Int × Bool := match s.held with
  | some x => (⟨s.a, (B.when s.t now x.len).2, some x, s.lost⟩, (B.when s.t now x.len).1)
  | none => (⟨(U.when_ s.a now).1, s.t, none, s.lost⟩, (U.when_ s.a now).2)
def shaper : Mach (Shp α) where
  put s now x := if (B.r : Int) < x.len then (s, [x]) else (⟨(U.put s.a now x).1, s.t, s.held, s.lost⟩, (U.put s.a now x).2)
  take s now := shGo B (shLook U s now) now
  when_ s now := shAsk U B (shLook U s now) now
  all s := s.held.toList ++ U.all s.a
def muS (mu : α → Nat) (s : Shp α) : Nat := mu s.a + s.held.toList.length + s.lost.length
end
end Go.Proofs.YtgifghbnpdanhaaGreatDoor
/-
  Who comes first goes first, plainly. No program is named here.
-/
namespace Go.Proofs.YtgifghbnpdanhaaGreatDoor
open Go.RowKit

/-- Is there no room for these? -/
def Full (P R : Int) (l : List Hel) : Prop := P < l.length ∨ R < sumLen l
instance (P R : Int) (l : List Hel) : Decidable (Full P R l) := by unfold Full; infer_instance
/-- What the head throws away, and what stays. -/
def shed (P R : Int) : List Hel → List Hel × List Hel
  | [] => ([], [])
  | x :: l => if Full P R (x :: l) then (x :: (shed P R l).1, (shed P R l).2) else ([], x :: l)
theorem shed_full {P R : Int} {x : Hel} {l : List Hel} (h : Full P R (x :: l)) : shed P R (x :: l) = (x :: (shed P R l).1, (shed P R l).2) := by rw [shed, if_pos h]
theorem shed_fits {P R : Int} {l : List Hel} (h : ¬ Full P R l) : shed P R l = ([], l) := by
  cases l with
  | nil => rfl
  | cons x l => rw [shed, if_neg h]
theorem shed_app (P R : Int) (l : List Hel) : (shed P R l).1 ++ (shed P R l).2 = l := by
  induction l with
  | nil => rfl
  | cons x l ih =>
    by_cases h : Full P R (x :: l)
    · rw [shed_full h]; simp [ih]
    · rw [shed_fits h]; rfl
theorem shed_len (P R : Int) (l : List Hel) : (shed P R l).1.length + (shed P R l).2.length = l.length := by
  have := congrArg List.length (shed_app P R l)
  simpa using this
theorem not_full_nil {P R : Int} (hP : 0 ≤ P) (hR : 0 ≤ R) : ¬ Full P R [] := by
  unfold Full; simp [sumLen]; omega
/-- The queue. -/
def fifo (P R : Int) (head : Bool) : Mach (List Hel) where
  put l _ x := if head = true then ((shed P R (l ++ [x])).2, (shed P R (l ++ [x])).1) else if Full P R (l ++ [x]) then (l, [x]) else (l ++ [x], [])
  take l _ := match l with | [] => ([], .zero, [], false) | x :: r => (r, x, [], true)
  when_ l t := (l, t, decide (0 < l.length))
  all l := l
theorem fifo_full {P R : Int} {l : List Hel} {x : Hel} {t : Int} (h : Full P R (l ++ [x])) : (fifo P R false).put l t x = (l, [x]) := by
  simp [fifo, h]
theorem fifo_fits {P R : Int} {l : List Hel} {x : Hel} {t : Int} (h : ¬ Full P R (l ++ [x])) : (fifo P R false).put l t x = (l ++ [x], []) := by
  simp [fifo, h]
theorem fifo_head {P R : Int} {l : List Hel} {x : Hel} {t : Int} : (fifo P R true).put l t x = ((shed P R (l ++ [x])).2, (shed P R (l ++ [x])).1) := rfl
theorem RowH.one (E : TypeId) (w : World) (x : Hel) {n : Nat} (hn : n = w.heap.size) : RowH E (w.alloc (.cells #[.int .i64 x.t, .int .i64 x.len, .int .i64 x.flow, .int .i64 x.band, .int .i64 x.mark, .int .i64 x.n] E)) (.slice (some ⟨n, 0, none⟩) 1 1) [x] := by
  subst hn
  refine ⟨by simp [flat, Hel.cells], .inr ⟨w.heap.size, 0, 1, _, rfl, heap_alloc_new w _, by simp, by decide, by simp, ?_, ?_⟩⟩
  · intro j u hu
    have hm := Array.mem_of_getElem? hu
    simp only [List.mem_toArray, List.mem_cons, List.not_mem_nil, or_false] at hm
    rcases hm with rfl | rfl | rfl | rfl | rfl | rfl <;> exact ⟨_, rfl⟩
  · intro j hj
    simp [flat, Hel.cells]
/-- What it holds is few, and of packets that may be. -/
structure FifoOk (l : List Hel) (n : Nat) : Prop where
  few : l.length ≤ n
  lens : Lens l
  n : n ≤ 200
theorem FifoOk.tail {x : Hel} {l : List Hel} {n : Nat} (h : FifoOk (x :: l) n) : FifoOk l n := ⟨by have := h.few; simp at this; omega, fun y hy => h.lens y (List.mem_cons_of_mem _ hy), h.n⟩
theorem FifoOk.snoc {x : Hel} {l : List Hel} {n : Nat} {t : Int} (h : FifoOk l n) (g : GoodPut t x n) : FifoOk (l ++ [x]) (n + 1) := by
  have := g.few
  have := h.few
  refine ⟨by simp; omega, fun y hy => ?_, by omega⟩
  rcases List.mem_append.1 hy with hy | hy
  · exact h.lens y hy
  · obtain rfl := List.mem_singleton.1 hy
    have := g.len
    omega
theorem FifoOk.up {l : List Hel} {n : Nat} (h : FifoOk l n) (hn : n < 200) : FifoOk l (n + 1) := ⟨by have := h.few; omega, h.lens, by omega⟩
theorem FifoOk.part {a b : List Hel} {n : Nat} (h : FifoOk (a ++ b) n) : FifoOk b n := ⟨by have := h.few; simp at this; omega, fun y hy => h.lens y (List.mem_append_right _ hy), h.n⟩
theorem fifo_put_ok {P R : Int} {head : Bool} {l : List Hel} {n : Nat} {t : Int} {x : Hel} (h : FifoOk l n) (g : GoodPut t x n) : FifoOk ((fifo P R head).put l t x).1 (n + 1) ∧ ((fifo P R head).put l t x).2.length ≤ 1000 := by
  have hs := h.snoc g
  have h1 := hs.few
  have h2 := hs.n
  cases head with
  | true =>
    rw [fifo_head]
    have h3 := shed_app P R (l ++ [x])
    rw [← h3] at hs
    have h4 := shed_len P R (l ++ [x])
    exact ⟨hs.part, by simp only; omega⟩
  | false =>
    by_cases hf : Full P R (l ++ [x])
    · rw [fifo_full hf]; exact ⟨h.up g.few, by simp⟩
    · rw [fifo_fits hf]; exact ⟨hs, by simp⟩
theorem fifo_take_ok {P R : Int} {head : Bool} {l : List Hel} {n : Nat} {t : Int} (h : FifoOk l n) : FifoOk ((fifo P R head).take l t).1 n ∧ ((fifo P R head).take l t).2.2.1 = [] := by
  cases l with
  | nil => exact ⟨h, rfl⟩
  | cons x r => exact ⟨h.tail, rfl⟩
end Go.Proofs.YtgifghbnpdanhaaGreatDoor
/-
  When steps are done, plainly. No program is named here.
-/
namespace Go.Proofs.YtgifghbnpdanhaaGreatDoor
open Go.RowKit

/-- A time and a bit. -/
def due (now later : Int) : Int := now + max 0 (min later 1000)
theorem due_le (now later : Int) : now ≤ due now later ∧ due now later ≤ now + 1000 := by unfold due; omega
/-- A step at its time. -/
noncomputable def stepAt (t : Int) (s : Stp) : Stp := ⟨@ite _ (s.what = 0 ∧ ¬ (⟨t, s.it.len, s.it.flow, s.it.band, s.it.mark⟩ : Itm).ok) (Classical.propDecidable _) 2 s.what, t, ⟨t, s.it.len, s.it.flow, s.it.band, s.it.mark⟩⟩
theorem stepAt_bad {t : Int} {s : Stp} (h : s.what = 0) (k : ¬ (⟨t, s.it.len, s.it.flow, s.it.band, s.it.mark⟩ : Itm).ok) : stepAt t s = ⟨2, t, ⟨t, s.it.len, s.it.flow, s.it.band, s.it.mark⟩⟩ := by
  unfold stepAt; rw [if_pos ⟨h, k⟩]
theorem stepAt_fine {t : Int} {s : Stp} (h : s.what = 0 → (⟨t, s.it.len, s.it.flow, s.it.band, s.it.mark⟩ : Itm).ok) : stepAt t s = ⟨s.what, t, ⟨t, s.it.len, s.it.flow, s.it.band, s.it.mark⟩⟩ := by
  unfold stepAt; rw [if_neg (fun hh => hh.2 (h hh.1))]
/-- The time of the last of some. -/
def clockOf (now : Int) : List Stp → Int
  | [] => now
  | s :: r => clockOf (due now s.later) r
/-- All of them, at their times. -/
noncomputable def timesOf (now : Int) : List Stp → List Stp
  | [] => []
  | s :: r => stepAt (due now s.later) s :: timesOf (due now s.later) r
theorem timesOf_length (now : Int) (l : List Stp) : (timesOf now l).length = l.length := by
  induction l generalizing now with
  | nil => rfl
  | cons s r ih => simp [timesOf, ih]
theorem timesOf_snoc (now : Int) (l : List Stp) (s : Stp) : timesOf now (l ++ [s]) = timesOf now l ++ [stepAt (due (clockOf now l) s.later) s] ∧ clockOf now (l ++ [s]) = due (clockOf now l) s.later := by
  induction l generalizing now with
  | nil => exact ⟨rfl, rfl⟩
  | cons x r ih => simp only [List.cons_append, timesOf, clockOf, ih]; exact ⟨trivial, trivial⟩
theorem clockOf_le (now : Int) (l : List Stp) : now ≤ clockOf now l ∧ clockOf now l ≤ now + 1000 * l.length := by
  induction l generalizing now with
  | nil => simp [clockOf]
  | cons s r ih =>
    have h1 := ih (due now s.later)
    have h2 := due_le now s.later
    simp only [clockOf, List.length_cons]
    omega
theorem GoodStp.at_ {t : Int} {s : Stp} {n : Nat} (h : Now t) (hn : n < 200) : GoodStp (stepAt t s) n := by
  by_cases hk : s.what = 0 → (⟨t, s.it.len, s.it.flow, s.it.band, s.it.mark⟩ : Itm).ok
  · rw [stepAt_fine hk]
    refine ⟨h, fun h0 => ?_⟩
    obtain ⟨_, h2, h3, h4, h5⟩ := hk h0
    exact ⟨h, rfl, h2, h3, h4, h5, rfl, hn⟩
  · have h1 : s.what = 0 := Classical.byContradiction fun e => hk fun e2 => absurd e2 e
    rw [stepAt_bad h1 (fun e => hk fun _ => e)]
    exact ⟨h, fun h0 => absurd (show (2 : Int) = 0 from h0) (by decide)⟩
theorem timesOf_good (now : Int) (l : List Stp) (h0 : 0 ≤ now) (h1 : now + 1000 * l.length ≤ 1000000) (n : Nat) (hn : n < 200) : ∀ s ∈ timesOf now l, GoodStp s n := by
  induction l generalizing now with
  | nil => intro s hs; cases hs
  | cons x r ih =>
    have h2 := due_le now x.later
    simp only [List.length_cons] at h1
    intro s hs
    rcases List.mem_cons.1 hs with rfl | hs
    · exact .at_ ⟨by omega, by omega⟩ hn
    · exact ih _ (by omega) (by omega) s hs
end Go.Proofs.YtgifghbnpdanhaaGreatDoor

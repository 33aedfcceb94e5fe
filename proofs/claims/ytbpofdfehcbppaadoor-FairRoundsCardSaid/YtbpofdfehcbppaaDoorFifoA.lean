/-
  Who comes first goes first, plainly. No program is named here.
-/
import Derived.Test.YtbpofdfehcbppaaDoorPlayA
namespace Go.Proofs.YtbpofdfehcbppaaDoor
open Go.RowKit

/-- Is there no room for these? -/
def Full (P R : Int) (l : List Hel) : Prop := P < l.length ∨ R < sumLen l
instance (P R : Int) (l : List Hel) : Decidable (Full P R l) := by unfold Full; infer_instance
/-- What the head throws away, and what stays. -/
def shed (P R : Int) : List Hel → List Hel × List Hel
  | [] => ([], [])
  | x :: l => if Full P R (x :: l) then (x :: (shed P R l).1, (shed P R l).2) else ([], x :: l)
theorem shed_full {P R : Int} {x : Hel} {l : List Hel} (h : Full P R (x :: l)) : shed P R (x :: l) = (x :: (shed P R l).1, (shed P R l).2) := by rw [shed, if_pos h]
theorem shed_fits {P R : Int} {l : List Hel} (h : ¬ Full P R l) : shed P R l = ([], l) := by
  cases l with
  | nil => rfl
  | cons x l => rw [shed, if_neg h]
theorem shed_app (P R : Int) (l : List Hel) : (shed P R l).1 ++ (shed P R l).2 = l := by
  induction l with
  | nil => rfl
  | cons x l ih =>
    by_cases h : Full P R (x :: l)
    · rw [shed_full h]; simp [ih]
    · rw [shed_fits h]; rfl
theorem shed_len (P R : Int) (l : List Hel) : (shed P R l).1.length + (shed P R l).2.length = l.length := by
  have := congrArg List.length (shed_app P R l)
  simpa using this
theorem not_full_nil {P R : Int} (hP : 0 ≤ P) (hR : 0 ≤ R) : ¬ Full P R [] := by
  unfold Full; simp [sumLen]; omega
/-- The queue. -/
def fifo (P R : Int) (head : Bool) : Mach (List Hel) where
  put l _ x := if head = true then ((shed P R (l ++ [x])).2, (shed P R (l ++ [x])).1) else if Full P R (l ++ [x]) then (l, [x]) else (l ++ [x], [])
  take l _ := match l with | [] => ([], .zero, [], false) | x :: r => (r, x, [], true)
  when_ l t := (l, t, decide (0 < l.length))
  all l := l
theorem fifo_full {P R : Int} {l : List Hel} {x : Hel} {t : Int} (h : Full P R (l ++ [x])) : (fifo P R false).put l t x = (l, [x]) := by
  simp [fifo, h]
theorem fifo_fits {P R : Int} {l : List Hel} {x : Hel} {t : Int} (h : ¬ Full P R (l ++ [x])) : (fifo P R false).put l t x = (l ++ [x], []) := by
  simp [fifo, h]
theorem fifo_head {P R : Int} {l : List Hel} {x : Hel} {t : Int} : (fifo P R true).put l t x = ((shed P R (l ++ [x])).2, (shed P R (l ++ [x])).1) := rfl
theorem RowH.one (E : TypeId) (w : World) (x : Hel) {n : Nat} (hn : n = w.heap.size) : RowH E (w.alloc (.cells #[.int .i64 x.t, .int .i64 x.len, .int .i64 x.flow, .int .i64 x.band, .int .i64 x.mark, .int .i64 x.n] E)) (.slice (some ⟨n, 0, none⟩) 1 1) [x] := by
  subst hn
  refine ⟨by simp [flat, Hel.cells], .inr ⟨w.heap.size, 0, 1, _, rfl, heap_alloc_new w _, by simp, by decide, by simp, ?_, ?_⟩⟩
  · intro j u hu
    have hm := Array.mem_of_getElem? hu
    simp only [List.mem_toArray, List.mem_cons, List.not_mem_nil, or_false] at hm
    rcases hm with rfl | rfl | rfl | rfl | rfl | rfl <;> exact ⟨_, rfl⟩
  · intro j hj
    simp [flat, Hel.cells]
/-- What it holds is few, and of packets that may be. -/
structure FifoOk (l : List Hel) (n : Nat) : Prop where
  few : l.length ≤ n
  lens : Lens l
  n : n ≤ 200
theorem FifoOk.tail {x : Hel} {l : List Hel} {n : Nat} (h : FifoOk (x :: l) n) : FifoOk l n := ⟨by have := h.few; simp at this; omega, fun y hy => h.lens y (List.mem_cons_of_mem _ hy), h.n⟩
theorem FifoOk.snoc {x : Hel} {l : List Hel} {n : Nat} {t : Int} (h : FifoOk l n) (g : GoodPut t x n) : FifoOk (l ++ [x]) (n + 1) := by
  have := g.few
  have := h.few
  refine ⟨by simp; omega, fun y hy => ?_, by omega⟩
  rcases List.mem_append.1 hy with hy | hy
  · exact h.lens y hy
  · obtain rfl := List.mem_singleton.1 hy
    have := g.len
    omega
theorem FifoOk.up {l : List Hel} {n : Nat} (h : FifoOk l n) (hn : n < 200) : FifoOk l (n + 1) := ⟨by have := h.few; omega, h.lens, by omega⟩
theorem FifoOk.part {a b : List Hel} {n : Nat} (h : FifoOk (a ++ b) n) : FifoOk b n := ⟨by have := h.few; simp at this; omega, fun y hy => h.lens y (List.mem_append_right _ hy), h.n⟩
theorem fifo_put_ok {P R : Int} {head : Bool} {l : List Hel} {n : Nat} {t : Int} {x : Hel} (h : FifoOk l n) (g : GoodPut t x n) : FifoOk ((fifo P R head).put l t x).1 (n + 1) ∧ ((fifo P R head).put l t x).2.length ≤ 1000 := by
  have hs := h.snoc g
  have h1 := hs.few
  have h2 := hs.n
  cases head with
  | true =>
    rw [fifo_head]
    have h3 := shed_app P R (l ++ [x])
    rw [← h3] at hs
    have h4 := shed_len P R (l ++ [x])
    exact ⟨hs.part, by simp only; omega⟩
  | false =>
    by_cases hf : Full P R (l ++ [x])
    · rw [fifo_full hf]; exact ⟨h.up g.few, by simp⟩
    · rw [fifo_fits hf]; exact ⟨hs, by simp⟩
theorem fifo_take_ok {P R : Int} {head : Bool} {l : List Hel} {n : Nat} {t : Int} (h : FifoOk l n) : FifoOk ((fifo P R head).take l t).1 n ∧ ((fifo P R head).take l t).2.2.1 = [] := by
  cases l with
  | nil => exact ⟨h, rfl⟩
  | cons x r => exact ⟨h.tail, rfl⟩
end Go.Proofs.YtbpofdfehcbppaaDoor

/-
  Flows that are put together by a hash, plainly. No program is named here.
-/
import Derived.Test.YtbpofdfehcbppaaDoorFifoA
import Derived.Test.YtbpofdfehcbppaaDoorPlain
namespace Go.Proofs.YtbpofdfehcbppaaDoor
open Go.RowKit

structure HasP where
  lists : Nat
  salt : Int
  room : Int
structure HasP.Ok (q : HasP) : Prop where
  lists : 1 ≤ q.lists ∧ q.lists ≤ 64
  salt : 0 ≤ q.salt ∧ q.salt ≤ 1000000
  room : 1 ≤ q.room ∧ q.room ≤ 1000000
structure HasS where
  l : List Hel
  turn : List Nat
/-- The list of a flow. -/
def hashI (q : HasP) (flow : Int) : Int := (31 * flow + 7 * q.salt + flow * q.salt) % q.lists
def hashOf (q : HasP) (flow : Int) : Nat := (hashI q flow).toNat
theorem hashI_in {q : HasP} (hq : q.Ok) (flow : Int) : 0 ≤ hashI q flow ∧ hashI q flow < q.lists := by
  have h := hq.lists
  unfold hashI
  exact ⟨Int.emod_nonneg _ (by omega), Int.emod_lt_of_pos _ (by omega)⟩
theorem hashOf_cast {q : HasP} (hq : q.Ok) (flow : Int) : ((hashOf q flow : Nat) : Int) = hashI q flow := Int.toNat_of_nonneg (hashI_in hq flow).1
theorem hashOf_lt {q : HasP} (hq : q.Ok) (flow : Int) : hashOf q flow < q.lists := by have h1 := hashOf_cast hq flow; have h2 := hashI_in hq flow; omega
def inK (q : HasP) (k : Nat) (x : Hel) : Bool := decide (hashOf q x.flow = k)
def ofK (q : HasP) (l : List Hel) (k : Nat) : List Hel := l.filter (inK q k)
def outN (l : List Hel) (m : Int) : List Hel := l.filter (fun y => decide (y.n ≠ m))
/-- The longest of the first so many (of like ones the first). -/
def longest (q : HasP) (l : List Hel) : Nat → Nat
  | 0 => 0
  | n + 1 => if (ofK q l (longest q l n)).length < (ofK q l n).length then n else longest q l n
theorem longest_le (q : HasP) (l : List Hel) : ∀ n k, k < n → (ofK q l k).length ≤ (ofK q l (longest q l n)).length := by
  intro n
  induction n with
  | zero => intro k h; omega
  | succ n ih =>
    intro k h
    rw [longest]
    split
    · rcases Nat.lt_or_ge k n with h1 | h1
      · have := ih k h1; omega
      · obtain rfl : k = n := by omega
        exact Nat.le_refl _
    · rcases Nat.lt_or_ge k n with h1 | h1
      · exact ih k h1
      · obtain rfl : k = n := by omega
        omega
theorem longest_lt (q : HasP) (l : List Hel) : ∀ n, 1 ≤ n → longest q l n < n := by
  intro n
  induction n with
  | zero => intro h; omega
  | succ n ih =>
    intro _
    rw [longest]
    split
    · omega
    · rcases Nat.eq_zero_or_pos n with h1 | h1
      · subst h1; simp [longest]
      · have := ih h1; omega
theorem longest_self (q : HasP) (l : List Hel) (n : Nat) : longest q l (n + 1) = if (ofK q l (longest q l n)).length < (ofK q l n).length then n else longest q l n := rfl
def hasTurn (q : HasP) (a : HasS) (x : Hel) : List Nat := if ofK q a.l (hashOf q x.flow) = [] then a.turn ++ [hashOf q x.flow] else a.turn
def hasLast (q : HasP) (l : List Hel) : Hel := (ofK q l (longest q l q.lists)).getLastD .zero
def hashed (q : HasP) : Mach HasS where
  put a _ x := if (((a.l ++ [x]).length : Nat) : Int) ≤ q.room then (⟨a.l ++ [x], hasTurn q a x⟩, [])
    else (⟨outN (a.l ++ [x]) (hasLast q (a.l ++ [x])).n, if (ofK q (a.l ++ [x]) (longest q (a.l ++ [x]) q.lists)).length = 1 then (hasTurn q a x).filter (fun i => decide (i ≠ longest q (a.l ++ [x]) q.lists)) else hasTurn q a x⟩, [hasLast q (a.l ++ [x])])
  take a _ := match a.turn with
    | [] => (a, .zero, [], false)
    | k :: r => match ofK q a.l k with
      | [] => (a, .zero, [], false)
      | x :: s => (⟨outN a.l x.n, if s = [] then r else r ++ [k]⟩, x, [], true)
  when_ a t := (a, t, decide (0 < a.l.length))
  all a := a.l
theorem hashed_fits {q : HasP} {a : HasS} {t : Int} {x : Hel} (h : ((a.l.length : Nat) : Int) + 1 ≤ q.room) : (hashed q).put a t x = (⟨a.l ++ [x], hasTurn q a x⟩, []) := by
  show (if _ then _ else _) = _
  rw [if_pos (by simp; omega)]
theorem hashed_full {q : HasP} {a : HasS} {t : Int} {x : Hel} (h : ¬ ((a.l.length : Nat) : Int) + 1 ≤ q.room) : (hashed q).put a t x = (⟨outN (a.l ++ [x]) (hasLast q (a.l ++ [x])).n, if (ofK q (a.l ++ [x]) (longest q (a.l ++ [x]) q.lists)).length = 1 then (hasTurn q a x).filter (fun i => decide (i ≠ longest q (a.l ++ [x]) q.lists)) else hasTurn q a x⟩, [hasLast q (a.l ++ [x])]) := by
  show (if _ then _ else _) = _
  rw [if_neg (by simp; omega)]
theorem hashed_none {q : HasP} {a : HasS} {t : Int} (h : a.turn = []) : (hashed q).take a t = (a, .zero, [], false) := by
  simp [hashed, h]
theorem hashed_some {q : HasP} {a : HasS} {t : Int} {k : Nat} {r : List Nat} {x : Hel} {s : List Hel} (h : a.turn = k :: r) (h2 : ofK q a.l k = x :: s) : (hashed q).take a t = (⟨outN a.l x.n, if s = [] then r else r ++ [k]⟩, x, [], true) := by
  simp [hashed, h, h2]
structure HasOk (q : HasP) (a : HasS) (n : Nat) : Prop where
  l : FifoOk a.l n
  nums : (a.l.map Hel.n).Nodup
  lt : ∀ x ∈ a.l, 0 ≤ x.n ∧ x.n < n
  flow : ∀ x ∈ a.l, 0 ≤ x.flow ∧ x.flow ≤ 15
  turn : ∀ k, k ∈ a.turn ↔ ofK q a.l k ≠ []
  nodup : a.turn.Nodup
  few : a.turn.length ≤ n
theorem ofK_app (q : HasP) (l r : List Hel) (k : Nat) : ofK q (l ++ r) k = ofK q l k ++ ofK q r k := List.filter_append ..
theorem ofK_one (q : HasP) (x : Hel) (k : Nat) : ofK q [x] k = if hashOf q x.flow = k then [x] else [] := by
  unfold ofK inK
  by_cases h : hashOf q x.flow = k <;> simp [h]
theorem ofK_mem {q : HasP} {l : List Hel} {k : Nat} {x : Hel} : x ∈ ofK q l k ↔ x ∈ l ∧ hashOf q x.flow = k := by
  unfold ofK inK
  simp
theorem ofK_out (q : HasP) (l : List Hel) (m : Int) (k : Nat) : ofK q (outN l m) k = outN (ofK q l k) m := by
  unfold ofK outN
  rw [List.filter_filter, List.filter_filter]
  congr 1
  funext x
  exact Bool.and_comm _ _
theorem outN_id {l : List Hel} {m : Int} (h : ∀ x ∈ l, x.n ≠ m) : outN l m = l := by
  unfold outN
  rw [List.filter_eq_self]
  intro x hx
  simpa using h x hx
theorem outN_last {l : List Hel} {y : Hel} (h : ((l ++ [y]).map Hel.n).Nodup) : outN (l ++ [y]) y.n = l := by
  have h1 : ∀ x ∈ l, x.n ≠ y.n := fun x hx e => by
    rw [List.map_append, List.nodup_append] at h
    exact h.2.2 _ (List.mem_map_of_mem hx) _ (by simp) e
  have h2 : outN (l ++ [y]) y.n = outN l y.n ++ outN [y] y.n := List.filter_append ..
  rw [h2, outN_id h1]
  simp [outN]
theorem outN_head {l : List Hel} {y : Hel} (h : ((y :: l).map Hel.n).Nodup) : outN (y :: l) y.n = l := by
  have h1 : ∀ x ∈ l, x.n ≠ y.n := fun x hx e => by
    rw [List.map_cons, List.nodup_cons] at h
    exact h.1 (by rw [← e]; exact List.mem_map_of_mem hx)
  have h2 : outN (y :: l) y.n = outN l y.n := by simp [outN]
  rw [h2, outN_id h1]
theorem ofK_nodup {q : HasP} {l : List Hel} {k : Nat} (h : (l.map Hel.n).Nodup) : ((ofK q l k).map Hel.n).Nodup := h.sublist (List.Sublist.map _ List.filter_sublist)
theorem outN_nodup {l : List Hel} {m : Int} (h : (l.map Hel.n).Nodup) : ((outN l m).map Hel.n).Nodup := h.sublist (List.Sublist.map _ List.filter_sublist)
theorem num_inj {l : List Hel} (h : (l.map Hel.n).Nodup) {x y : Hel} (hx : x ∈ l) (hy : y ∈ l) (e : x.n = y.n) : x = y := by
  induction l with
  | nil => cases hx
  | cons z r ih =>
    rw [List.map_cons, List.nodup_cons] at h
    rcases List.mem_cons.1 hx with rfl | hx'
    · rcases List.mem_cons.1 hy with rfl | hy'
      · rfl
      · exact absurd (by rw [e]; exact List.mem_map_of_mem hy') h.1
    · rcases List.mem_cons.1 hy with rfl | hy'
      · exact absurd (by rw [← e]; exact List.mem_map_of_mem hx') h.1
      · exact ih h.2 hx' hy'
/-- An element taken out: the others' lists stay. -/
theorem ofK_other {q : HasP} {l : List Hel} {y : Hel} (hy : y ∈ l) (h : (l.map Hel.n).Nodup) {k : Nat} (hk : hashOf q y.flow ≠ k) : ofK q (outN l y.n) k = ofK q l k := by
  rw [ofK_out]
  refine outN_id fun x hx e => ?_
  obtain ⟨h1, h2⟩ := ofK_mem.1 hx
  have : x = y := num_inj h h1 hy e
  rw [this] at h2
  exact hk h2
theorem outN_len {l : List Hel} {y : Hel} (hy : y ∈ l) (h : (l.map Hel.n).Nodup) : (outN l y.n).length + 1 = l.length := by
  obtain ⟨a, b, rfl⟩ := List.append_of_mem hy
  have h1 : ∀ x ∈ a, x.n ≠ y.n := fun x hx e => by
    rw [List.map_append, List.nodup_append] at h
    exact h.2.2 _ (List.mem_map_of_mem hx) _ (by simp) e
  have h2 : ∀ x ∈ b, x.n ≠ y.n := fun x hx e => by
    rw [List.map_append, List.nodup_append, List.map_cons, List.nodup_cons] at h
    exact h.2.1.1 (by rw [← e]; exact List.mem_map_of_mem hx)
  have h3 : outN (a ++ y :: b) y.n = outN a y.n ++ outN (y :: b) y.n := List.filter_append ..
  have h4 : outN (y :: b) y.n = outN b y.n := by simp [outN]
  rw [h3, h4, outN_id h1, outN_id h2]
  simp
  omega
/-- The longest list is not empty, and its last one. -/
theorem hasLast_is {q : HasP} (hq : q.Ok) {l : List Hel} (h0 : l ≠ []) : ∃ f, ofK q l (longest q l q.lists) = f ++ [hasLast q l] := by
  have hne : ofK q l (longest q l q.lists) ≠ [] := by
    intro e
    obtain ⟨x, hx⟩ := List.exists_mem_of_ne_nil l h0
    have h1 := longest_le q l q.lists (hashOf q x.flow) (hashOf_lt hq _)
    rw [e] at h1
    have h2 : x ∈ ofK q l (hashOf q x.flow) := ofK_mem.2 ⟨hx, rfl⟩
    have h3 := List.length_pos_of_mem h2
    simp at h1
    rw [h1] at h3
    simp at h3
  refine ⟨(ofK q l (longest q l q.lists)).dropLast, ?_⟩
  have e : hasLast q l = (ofK q l (longest q l q.lists)).getLast hne := by
    unfold hasLast
    rw [List.getLastD_eq_getLast?, List.getLast?_eq_some_getLast hne]
    rfl
  rw [e, List.dropLast_concat_getLast hne]
theorem FifoOk.out {l : List Hel} {n : Nat} (h : FifoOk l n) (m : Int) : FifoOk (outN l m) n :=
  ⟨Nat.le_trans (List.length_filter_le _ _) h.few, fun x hx => h.lens x (List.mem_filter.1 hx).1, h.n⟩
theorem hasOk_in {q : HasP} {a : HasS} {n : Nat} {t : Int} {x : Hel} (h : HasOk q a n) (g : GoodPut t x n) : HasOk q ⟨a.l ++ [x], hasTurn q a x⟩ (n + 1) := by
  have hx := g.num
  refine ⟨h.l.snoc g, ?_, fun y hy => ?_, fun y hy => ?_, fun k => ?_, ?_, ?_⟩
  · rw [List.map_append, List.nodup_append]
    refine ⟨h.nums, by simp, fun b hb c hc e => ?_⟩
    obtain ⟨y, hy, rfl⟩ := List.mem_map.1 hb
    simp at hc
    have := (h.lt y hy).2
    omega
  · rcases List.mem_append.1 hy with k | k
    · have := h.lt y k; omega
    · obtain rfl := List.mem_singleton.1 k; omega
  · rcases List.mem_append.1 hy with k | k
    · exact h.flow y k
    · obtain rfl := List.mem_singleton.1 k; exact g.flow
  · show k ∈ hasTurn q a x ↔ _
    rw [ofK_app, ofK_one]
    unfold hasTurn
    by_cases he : ofK q a.l (hashOf q x.flow) = []
    · rw [if_pos he]
      by_cases hk : hashOf q x.flow = k
      · subst hk; simp
      · rw [if_neg hk, List.append_nil, List.mem_append, h.turn k]
        simp
        omega
    · rw [if_neg he, h.turn k]
      by_cases hk : hashOf q x.flow = k
      · subst hk; simp [he]
      · simp [hk]
  · show (hasTurn q a x).Nodup
    unfold hasTurn
    split
    · rename_i he
      rw [List.nodup_append]
      refine ⟨h.nodup, by simp, fun b hb c hc e => ?_⟩
      simp at hc
      subst hc e
      exact ((h.turn _).1 hb) he
    · exact h.nodup
  · show (hasTurn q a x).length ≤ n + 1
    have := h.few
    unfold hasTurn
    split
    · simp; omega
    · omega
theorem hashed_put_ok {q : HasP} (hq : q.Ok) {a : HasS} {n : Nat} {t : Int} {x : Hel} (h : HasOk q a n) (g : GoodPut t x n) : HasOk q ((hashed q).put a t x).1 (n + 1) ∧ ((hashed q).put a t x).2.length ≤ 1000 := by
  have h1 := hasOk_in h g
  by_cases hf : ((a.l.length : Nat) : Int) + 1 ≤ q.room
  · rw [hashed_fits hf]; exact ⟨h1, Nat.zero_le _⟩
  · rw [hashed_full hf]
    refine ⟨?_, by simp⟩
    obtain ⟨f, hl⟩ := hasLast_is hq (l := a.l ++ [x]) (by simp)
    generalize hy : hasLast q (a.l ++ [x]) = y at *
    generalize hm : longest q (a.l ++ [x]) q.lists = m at *
    have hyl : y ∈ a.l ++ [x] ∧ hashOf q y.flow = m := ofK_mem.1 (by rw [hl]; simp)
    have hnd := h1.nums
    simp only at hnd
    have hk : ofK q (outN (a.l ++ [x]) y.n) m = f := by
      rw [ofK_out, hl]
      exact outN_last (by rw [← hl]; exact ofK_nodup hnd)
    have ho : ∀ k, k ≠ m → ofK q (outN (a.l ++ [x]) y.n) k = ofK q (a.l ++ [x]) k := fun k hkm => ofK_other hyl.1 hnd (by rw [hyl.2]; exact fun e => hkm e.symm)
    refine ⟨h1.l.out _, outN_nodup hnd, fun z hz => h1.lt z (List.mem_filter.1 hz).1, fun z hz => h1.flow z (List.mem_filter.1 hz).1, fun k => ?_, ?_, ?_⟩
    · have h2 := h1.turn k
      simp only at h2
      by_cases hlen : (ofK q (a.l ++ [x]) m).length = 1
      · rw [if_pos hlen, List.mem_filter, h2]
        have hf0 : f = [] := by rw [hl] at hlen; simp at hlen; exact hlen
        by_cases hkm : k = m
        · subst hkm; simp [hk, hf0]
        · rw [ho k hkm]; simp [hkm]
      · rw [if_neg hlen, h2]
        by_cases hkm : k = m
        · subst hkm
          rw [hk, hl]
          have : f ≠ [] := fun e => hlen (by rw [hl, e]; rfl)
          simp [this]
        · rw [ho k hkm]
    · simp only
      split
      · exact h1.nodup.sublist List.filter_sublist
      · exact h1.nodup
    · have h3 := h1.few
      simp only at h3 ⊢
      split
      · exact Nat.le_trans (List.length_filter_le _ _) h3
      · exact h3
theorem hashed_take_ok {q : HasP} {a : HasS} {n : Nat} {t : Int} (h : HasOk q a n) : HasOk q ((hashed q).take a t).1 n ∧ ((hashed q).take a t).2.2.1 = [] := by
  cases ht : a.turn with
  | nil => rw [hashed_none ht]; exact ⟨h, rfl⟩
  | cons k r =>
    have hk : ofK q a.l k ≠ [] := (h.turn k).1 (by rw [ht]; exact List.mem_cons_self ..)
    obtain ⟨x, s, hs⟩ := List.exists_cons_of_ne_nil hk
    rw [hashed_some ht hs]
    refine ⟨?_, rfl⟩
    have hxl : x ∈ a.l ∧ hashOf q x.flow = k := ofK_mem.1 (by rw [hs]; exact List.mem_cons_self ..)
    have hks : ofK q (outN a.l x.n) k = s := by
      rw [ofK_out, hs]
      exact outN_head (by rw [← hs]; exact ofK_nodup h.nums)
    have ho : ∀ j, j ≠ k → ofK q (outN a.l x.n) j = ofK q a.l j := fun j hj => ofK_other hxl.1 h.nums (by rw [hxl.2]; exact fun e => hj e.symm)
    have hnd := h.nodup
    rw [ht, List.nodup_cons] at hnd
    have hfew := h.few
    rw [ht] at hfew
    refine ⟨h.l.out _, outN_nodup h.nums, fun z hz => h.lt z (List.mem_filter.1 hz).1, fun z hz => h.flow z (List.mem_filter.1 hz).1, fun j => ?_, ?_, ?_⟩
    · have h2 := h.turn j
      rw [ht, List.mem_cons] at h2
      simp only
      by_cases hj : j = k
      · subst hj
        rw [hks]
        split
        · rename_i hs0; simp [hs0, hnd.1]
        · rename_i hs0; simp [hs0]
      · rw [ho j hj, ← h2]
        split <;> simp [hj]
    · simp only
      split
      · exact hnd.2
      · rw [List.nodup_append]
        exact ⟨hnd.2, by simp, fun b hb c hc e => by simp at hc; subst hc e; exact hnd.1 hb⟩
    · simp only
      simp at hfew
      split
      · omega
      · simp; omega
end Go.Proofs.YtbpofdfehcbppaaDoor

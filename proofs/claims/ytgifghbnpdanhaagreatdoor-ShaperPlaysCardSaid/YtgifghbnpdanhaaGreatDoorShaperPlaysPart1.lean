/-
  Words for worlds: 'Gr w w'': all that was there is there still. No program is named here.
-/
import Derived.WalkKit
import Derived.BigQuiet
import Derived.Lib.Hide
namespace Go.Proofs.YtgifghbnpdanhaaGreatDoor
open Go.RowKit

/-- All that was in w is in w' as it was. -/
def Gr (w w' : World) : Prop := Below w.heap.size w w'

theorem Gr.refl (w : World) : Gr w w := Below.refl _ _
theorem Gr.trans {a b c : World} (h : Gr a b) (k : Gr b c) : Gr a c := Below.trans h (Below.mono k (Below.size h))
theorem Gr.size {a b : World} (h : Gr a b) : a.heap.size ≤ b.heap.size := Below.size h
theorem Gr.alloc {a w : World} (h : Gr a w) (o : Obj) : Gr a (w.alloc o) := Below.alloc h (Below.size h) o
theorem Gr.drew {a w : World} (h : Gr a w) : Gr a w.drew := Below.drew h
theorem Gr.drewN {a w : World} (h : Gr a w) (n : Nat) : Gr a (w.drewN n) := ⟨h.os, h.tape, h.output, h.size, h.block⟩
theorem Gr.setCell {a w : World} (h : Gr a w) {p : Addr} (hp : a.heap.size ≤ p.block) (u : Value) : Gr a (w.setCell p u) := Below.setCell h hp u

theorem cell_lt {w : World} {p : Addr} {v : Value} (h : w.cell? p = some v) : p.block < w.heap.size := by
  rcases Nat.lt_or_ge p.block w.heap.size with k | k
  · exact k
  · simp [World.cell?, Array.getElem?_eq_none k] at h

theorem Gr.cell {a b : World} (h : Gr a b) {p : Addr} {v : Value} (hc : a.cell? p = some v) : b.cell? p = some v := by
  rw [Below.cell h (cell_lt hc)]; exact hc
theorem alloc_cell (w : World) (n : Nat) (hn : n = w.heap.size) {cs : Array Value} {t : TypeId} {o : Nat} : (w.alloc (.cells cs t)).cell? ⟨n, o, none⟩ = cs[o]? := by subst hn; simp
theorem Gr.frozen {a b : World} (h : Gr a b) {p : Addr} (hp : p.block < a.heap.size) : b.frozen? p = a.frozen? p := Below.frozen h hp
theorem Gr.cells {a b : World} (h : Gr a b) : ∀ k o, k < a.heap.size → b.cell? ⟨k, o, none⟩ = a.cell? ⟨k, o, none⟩ :=
  fun k o hk => Below.cell (p := ⟨k, o, none⟩) h hk
theorem Gr.block {a b : World} (h : Gr a b) {k : Nat} (hk : k < a.heap.size) : b.heap[k]? = a.heap[k]? := Below.block h k hk
theorem Gr.setCell' {a w : World} (h : Gr a w) {p : Addr} (hp : ¬ p.block < a.heap.size) (u : Value) : Gr a (w.setCell p u) := Gr.setCell h (Nat.le_of_not_lt hp) u
theorem Gr.grown {a w w' : World} {row : Option Nat} (h : Gr a w) (hg : w.grownBy w' row) (hr : ∀ k, row = some k → a.heap.size ≤ k) : Gr a w' := Below.grown h hg (Below.size h) hr
/-- A number that an int holds. -/
def Bd (x : Int) : Prop := -9223372036854775808 ≤ x ∧ x ≤ 9223372036854775807
end Go.Proofs.YtgifghbnpdanhaaGreatDoor
/-
  Plain words: the first fault among n, the cells of a slice of ints. No program is named here.
-/
namespace Go.Proofs.YtgifghbnpdanhaaGreatDoor
open Go.RowKit

/-- The first of f 0, f 1, .. f (n - 1) that is not 0; else 0. -/
def firstOf (f : Nat → Int) : Nat → Int
  | 0 => 0
  | n + 1 => if firstOf f n = 0 then f n else firstOf f n
theorem firstOf_zero {f : Nat → Int} {n : Nat} (h : ∀ j, j < n → f j = 0) : firstOf f n = 0 := by
  induction n with
  | zero => rfl
  | succ n ih => rw [firstOf, if_pos (ih fun j hj => h j (by omega))]; exact h n (by omega)
theorem firstOf_at {f : Nat → Int} {k n : Nat} {c : Int} (h : ∀ j, j < k → f j = 0) (hk : k < n) (hc : f k = c) (hne : c ≠ 0) : firstOf f n = c := by
  induction n with
  | zero => omega
  | succ n ih =>
    rcases Nat.lt_or_ge k n with h1 | h1
    · have := ih h1
      rw [firstOf, if_neg (by rw [this]; exact hne)]
      exact this
    · obtain rfl : k = n := by omega
      rw [firstOf, if_pos (firstOf_zero h)]
      exact hc
/-- one round more of a search for the first fault -/
theorem okTo_succ {f : Nat → Int} {k : Nat} (h : ∀ j, j < k → f j = 0) (hk : f k = 0) : ∀ j, j < k + 1 → f j = 0 := by
  intro j hj
  rcases Nat.lt_or_ge j k with h1 | h1
  · exact h j h1
  · obtain rfl : j = k := by omega
    exact hk

/-- the place of the first fault, -1 for none -/
def firstIx (f : Nat → Int) : Nat → Int
  | 0 => -1
  | n + 1 => if firstOf f n = 0 then (if f n = 0 then -1 else (n : Int)) else firstIx f n
theorem firstIx_zero {f : Nat → Int} {n : Nat} (h : ∀ j, j < n → f j = 0) : firstIx f n = -1 := by
  cases n with
  | zero => rfl
  | succ n => rw [firstIx, if_pos (firstOf_zero fun j hj => h j (by omega)), if_pos (h n (by omega))]
theorem firstIx_at {f : Nat → Int} {k n : Nat} (h : ∀ j, j < k → f j = 0) (hk : k < n) (hne : f k ≠ 0) : firstIx f n = (k : Int) := by
  induction n with
  | zero => omega
  | succ n ih =>
    rcases Nat.lt_or_ge k n with h1 | h1
    · rw [firstIx, if_neg (by rw [firstOf_at h h1 rfl hne]; exact hne)]
      exact ih h1
    · obtain rfl : k = n := by omega
      rw [firstIx, if_pos (firstOf_zero h), if_neg hne]

/-- v is a slice that holds the ints xs. -/
def Ints (w : World) (v : Value) (xs : List Int) : Prop :=
  (∃ a cap, v = .slice a 0 cap ∧ xs = []) ∨
    ∃ b off cap, v = .slice (some ⟨b, off, none⟩) xs.length cap ∧ 0 < xs.length ∧ (xs.length ≤ cap ∧ cap ≤ 9223372036854775807) ∧ ∀ i, i < xs.length → w.cell? ⟨b, off + i, none⟩ = some (.int .i64 (xs.getD i 0))
theorem Ints.gr {w w' : World} {v : Value} {xs : List Int} (h : Ints w v xs) (g : Gr w w') : Ints w' v xs := by
  rcases h with h | ⟨b, off, cap, h1, h2, h3, h4⟩
  · exact .inl h
  · exact .inr ⟨b, off, cap, h1, h2, h3, fun i hi => g.cell (h4 i hi)⟩
theorem ints_shape' {w : World} {v : Value} {xs : List Int} (h : Ints w v xs) : ∃ a cap, v = .slice a xs.length cap := by
  rcases h with ⟨a, cap, rfl, rfl⟩ | ⟨b, off, cap, rfl, _⟩
  · exact ⟨_, _, rfl⟩
  · exact ⟨_, _, rfl⟩
/-- A slice, whether it holds something or not: where it does, here are its cells. -/
theorem ints_any {w : World} {a : Option Addr} {n cap : Nat} {xs : List Int} (h : Ints w (.slice a n cap) xs) : 0 < xs.length → ∃ b off, a = some ⟨b, off, none⟩ ∧ ∀ i, i < xs.length → w.cell? ⟨b, off + i, none⟩ = some (.int .i64 (xs.getD i 0)) := by
  intro h0
  rcases h with ⟨_, _, _, rfl⟩ | ⟨b, off, cap, hv, _, _, h⟩
  · simp at h0
  · simp only [Value.slice.injEq] at hv
    exact ⟨b, off, hv.1, h⟩
theorem Ints.len {w : World} {v : Value} {xs : List Int} (h : Ints w v xs) : xs.length ≤ 9223372036854775807 := by
  rcases h with ⟨_, _, _, rfl⟩ | ⟨_, _, _, _, _, h, _⟩
  · simp
  · omega
end Go.Proofs.YtgifghbnpdanhaaGreatDoor
/-
  Packets, and slices of packets; slices of records of ints. No program is named here.
-/
namespace Go.Proofs.YtgifghbnpdanhaaGreatDoor
open Go.RowKit

/-- v is a slice of n records of m ints: F i j is number j of record i. -/
def Recs (m : Nat) (w : World) (v : Value) (n : Nat) (F : Nat → Nat → Int) : Prop :=
  (∃ a cap, v = .slice a 0 cap ∧ n = 0) ∨
    ∃ b off cap, v = .slice (some ⟨b, off, none⟩) n cap ∧ 0 < n ∧ (n ≤ cap ∧ cap ≤ 9223372036854775807) ∧ ∀ i, i < n → ∀ j, j < m → w.cell? ⟨b, off + i * m + j, none⟩ = some (.int .i64 (F i j))
theorem Recs.gr {m : Nat} {w w' : World} {v : Value} {n : Nat} {F : Nat → Nat → Int} (h : Recs m w v n F) (g : Gr w w') : Recs m w' v n F := by
  rcases h with h | ⟨b, off, cap, h1, h2, h3, h4⟩
  · exact .inl h
  · exact .inr ⟨b, off, cap, h1, h2, h3, fun i hi j hj => g.cell (h4 i hi j hj)⟩
theorem Recs.shape {m : Nat} {w : World} {v : Value} {n : Nat} {F : Nat → Nat → Int} (h : Recs m w v n F) : ∃ a cap, v = .slice a n cap := by
  rcases h with ⟨a, cap, rfl, rfl⟩ | ⟨b, off, cap, rfl, _⟩
  · exact ⟨_, _, rfl⟩
  · exact ⟨_, _, rfl⟩
theorem Recs.len {m : Nat} {w : World} {v : Value} {n : Nat} {F : Nat → Nat → Int} (h : Recs m w v n F) : n ≤ 9223372036854775807 := by
  rcases h with ⟨_, _, _, rfl⟩ | ⟨_, _, _, _, _, h, _⟩ <;> omega
theorem Recs.cells {m : Nat} {w : World} {v : Value} {n : Nat} {F : Nat → Nat → Int} (h : Recs m w v n F) (h0 : 0 < n) :
    ∃ b off cap, v = .slice (some ⟨b, off, none⟩) n cap ∧ n ≤ cap ∧ cap ≤ 9223372036854775807 ∧ Hid (∀ i, i < n → ∀ j, j < m → w.cell? ⟨b, off + i * m + j, none⟩ = some (.int .i64 (F i j))) := by
  rcases h with ⟨a, cap, rfl, rfl⟩ | ⟨b, off, cap, rfl, _, hcap, h⟩
  · omega
  · exact ⟨_, _, _, rfl, hcap.1, hcap.2, h⟩

/-- A slice, whether it holds something or not: where it does, here are its cells. -/
theorem Recs.any {m : Nat} {w : World} {v : Value} {n : Nat} {F : Nat → Nat → Int} (h : Recs m w v n F) :
    ∃ a cap, v = .slice a n cap ∧ Hid (0 < n → ∃ b off, a = some ⟨b, off, none⟩ ∧ ∀ i, i < n → ∀ j, j < m → w.cell? ⟨b, off + i * m + j, none⟩ = some (.int .i64 (F i j))) := by
  rcases h with ⟨a, cap, rfl, rfl⟩ | ⟨b, off, cap, rfl, _, hcap, h⟩
  · exact ⟨a, cap, rfl, fun hh => absurd hh (by omega)⟩
  · exact ⟨_, _, rfl, fun _ => ⟨b, off, rfl, h⟩⟩

structure Itm where
  t : Int
  len : Int
  flow : Int
  band : Int
  mark : Int

def Itm.val (x : Itm) : Value := .agg #[.int .i64 x.t, .int .i64 x.len, .int .i64 x.flow, .int .i64 x.band, .int .i64 x.mark]
def Itm.zero : Itm := ⟨0, 0, 0, 0, 0⟩
/-- A packet that may be. -/
def Itm.ok (x : Itm) : Prop := (0 ≤ x.t ∧ x.t ≤ 1000000000) ∧ (1 ≤ x.len ∧ x.len ≤ 10000) ∧ (0 ≤ x.flow ∧ x.flow ≤ 15) ∧ (0 ≤ x.band ∧ x.band ≤ 7) ∧ (0 ≤ x.mark ∧ x.mark ≤ 255)
noncomputable def ckItem (x : Itm) : Int := @ite _ x.ok (Classical.propDecidable _) 0 2
theorem ckItem_ok {x : Itm} (h : x.ok) : ckItem x = 0 := by unfold ckItem; rw [if_pos h]
theorem ckItem_no {x : Itm} (h : ¬ x.ok) : ckItem x = 2 := by unfold ckItem; rw [if_neg h]
theorem ckItem_zero {x : Itm} (h : ckItem x = 0) : x.ok := Classical.byContradiction fun hh => by rw [ckItem_no hh] at h; exact absurd h (by decide)

/-- The five cells of a packet. -/
structure ItemAt (w : World) (b o : Nat) (x : Itm) : Prop where
  c0 : w.cell? ⟨b, o, none⟩ = some (.int .i64 x.t)
  c1 : w.cell? ⟨b, o + 1, none⟩ = some (.int .i64 x.len)
  c2 : w.cell? ⟨b, o + 2, none⟩ = some (.int .i64 x.flow)
  c3 : w.cell? ⟨b, o + 3, none⟩ = some (.int .i64 x.band)
  c4 : w.cell? ⟨b, o + 4, none⟩ = some (.int .i64 x.mark)
theorem ItemAt.gr {w w' : World} {b o : Nat} {x : Itm} (h : ItemAt w b o x) (g : Gr w w') : ItemAt w' b o x :=
  ⟨g.cell h.c0, g.cell h.c1, g.cell h.c2, g.cell h.c3, g.cell h.c4⟩

/-- v is a slice that holds the packets l. -/
def Items (w : World) (v : Value) (l : List Itm) : Prop :=
  (∃ a cap, v = .slice a 0 cap ∧ l = []) ∨
    ∃ b off cap, v = .slice (some ⟨b, off, none⟩) l.length cap ∧ 0 < l.length ∧ (l.length ≤ cap ∧ cap ≤ 9223372036854775807) ∧ ∀ i, i < l.length → ItemAt w b (off + i * 5) (l.getD i .zero)
theorem Items.gr {w w' : World} {v : Value} {l : List Itm} (h : Items w v l) (g : Gr w w') : Items w' v l := by
  rcases h with h | ⟨b, off, cap, h1, h2, h3, h4⟩
  · exact .inl h
  · exact .inr ⟨b, off, cap, h1, h2, h3, fun i hi => (h4 i hi).gr g⟩
theorem Items.len {w : World} {v : Value} {l : List Itm} (h : Items w v l) : l.length ≤ 9223372036854775807 := by
  rcases h with ⟨_, _, _, rfl⟩ | ⟨_, _, _, _, _, h, _⟩
  · simp
  · omega
theorem items_shape {w : World} {v : Value} {l : List Itm} (h : Items w v l) : ∃ a cap, v = .slice a l.length cap := by
  rcases h with ⟨a, cap, rfl, rfl⟩ | ⟨b, off, cap, rfl, _⟩
  · exact ⟨_, _, rfl⟩
  · exact ⟨_, _, rfl⟩
theorem items_cells {w : World} {v : Value} {l : List Itm} (h : Items w v l) (h0 : 0 < l.length) : ∃ b off cap, v = .slice (some ⟨b, off, none⟩) l.length cap ∧ l.length ≤ cap ∧ cap ≤ 9223372036854775807 ∧ Hid (∀ i, i < l.length → ItemAt w b (off + i * 5) (l.getD i .zero)) := by
  rcases h with ⟨a, cap, rfl, rfl⟩ | ⟨b, off, cap, rfl, _, hcap, h⟩
  · simp at h0
  · exact ⟨_, _, _, rfl, hcap.1, hcap.2, h⟩

end Go.Proofs.YtgifghbnpdanhaaGreatDoor
/-
  Buckets: what one tells, in plain numbers. No program is named here.
-/
namespace Go.Proofs.YtgifghbnpdanhaaGreatDoor

/-- A bucket that may be: bytes in ticks, room. -/
structure Bkt where
  b : Nat
  t : Nat
  r : Nat
  hb : 1 ≤ b ∧ b ≤ 1000000
  ht : 1 ≤ t ∧ t ≤ 1000000
  hr : r ≤ 1000000
/-- What is in it (times t), and the last time. -/
structure BSt where
  last : Int
  x : Int
def Bkt.full (B : Bkt) : BSt := ⟨0, (B.r : Int) * (B.t : Int)⟩
structure Bkt.Ok (B : Bkt) (s : BSt) : Prop where
  l0 : 0 ≤ s.last
  l1 : s.last ≤ 1000000000
  x0 : 0 ≤ s.x
  x1 : s.x ≤ (B.r : Int) * (B.t : Int)
theorem Bkt.room (B : Bkt) : 0 ≤ (B.r : Int) * (B.t : Int) ∧ (B.r : Int) * (B.t : Int) ≤ 1000000000000 := by
  have h1 := B.hr
  have h2 := B.ht
  have h3 : B.r * B.t ≤ 1000000 * 1000000 := Nat.mul_le_mul h1 h2.2
  have h4 : ((B.r * B.t : Nat) : Int) = (B.r : Int) * (B.t : Int) := by simp
  omega
theorem Bkt.full_ok (B : Bkt) : B.Ok B.full := ⟨by simp [Bkt.full], by simp [Bkt.full], B.room.1, Int.le_refl _⟩
/-- .. filled up to a time. -/
def Bkt.fill (B : Bkt) (s : BSt) (now : Int) : BSt := if s.last < now then ⟨now, min ((B.r : Int) * (B.t : Int)) (s.x + (now - s.last) * (B.b : Int))⟩ else s
theorem Bkt.fill_yes (B : Bkt) {s : BSt} {now : Int} (h : s.last < now) : B.fill s now = ⟨now, min ((B.r : Int) * (B.t : Int)) (s.x + (now - s.last) * (B.b : Int))⟩ := by unfold Bkt.fill; rw [if_pos h]
theorem Bkt.fill_no (B : Bkt) {s : BSt} {now : Int} (h : ¬ s.last < now) : B.fill s now = s := by unfold Bkt.fill; rw [if_neg h]
theorem mul_in {a b m n : Int} (ha : 0 ≤ a ∧ a ≤ m) (hb : 0 ≤ b ∧ b ≤ n) : 0 ≤ a * b ∧ a * b ≤ m * n := by
  refine ⟨Int.mul_nonneg ha.1 hb.1, ?_⟩
  have h1 : a * b ≤ m * b := Int.mul_le_mul_of_nonneg_right ha.2 hb.1
  have h2 : m * b ≤ m * n := Int.mul_le_mul_of_nonneg_left hb.2 (by omega)
  omega
theorem Bkt.more (B : Bkt) {s : BSt} (h : B.Ok s) {now : Int} (hn : now ≤ 1000000000) (hl : s.last < now) : 0 ≤ (now - s.last) * (B.b : Int) ∧ (now - s.last) * (B.b : Int) ≤ 1000000000000000 := by
  have h1 := B.hb
  have h2 := h.l0
  exact mul_in (m := 1000000000) (n := 1000000) (by omega) (by omega)
theorem Bkt.fill_ok (B : Bkt) {s : BSt} (h : B.Ok s) {now : Int} (hn : now ≤ 1000000000) : B.Ok (B.fill s now) := by
  unfold Bkt.fill
  split
  · rename_i hl
    have h1 := B.more h hn hl
    have h2 := B.room
    have h3 := h.l0
    have h4 := h.x0
    exact ⟨by simp only; omega, by simp only; omega, by simp only; omega, by simp only; omega⟩
  · exact h
def Bkt.has (B : Bkt) (s : BSt) (now : Int) : Int × BSt := if 1000000000 < now then (0, s) else ((B.fill s now).x / (B.t : Int), B.fill s now)
def Bkt.take (B : Bkt) (s : BSt) (now n : Int) : Bool × BSt :=
  if 1000000000 < now ∨ n < 0 ∨ 1000000 < n then (false, s)
  else if (B.fill s now).x < n * (B.t : Int) then (false, B.fill s now) else (true, ⟨(B.fill s now).last, (B.fill s now).x - n * (B.t : Int)⟩)
/-- The first time, if n may be asked for. -/
def Bkt.at (B : Bkt) (s : BSt) (n : Int) : Int := s.last + max 0 (-((-(n * (B.t : Int) - s.x)) / (B.b : Int)))
def Bkt.when (B : Bkt) (s : BSt) (now n : Int) : (Int × Bool) × BSt :=
  if 1000000000 < now ∨ n < 0 ∨ (B.r : Int) < n then ((0, false), s) else ((B.at (B.fill s now) n, true), B.fill s now)
theorem Bkt.has_ok (B : Bkt) {s : BSt} (h : B.Ok s) (now : Int) : B.Ok (B.has s now).2 := by
  unfold Bkt.has
  split
  · exact h
  · exact B.fill_ok h (by omega)
theorem Bkt.need (B : Bkt) {n : Int} (h : 0 ≤ n ∧ n ≤ 1000000) : 0 ≤ n * (B.t : Int) ∧ n * (B.t : Int) ≤ 1000000000000 := by
  have h1 := B.ht
  exact mul_in (m := 1000000) (n := 1000000) h (by omega)
theorem Bkt.take_ok (B : Bkt) {s : BSt} (h : B.Ok s) (now n : Int) : B.Ok (B.take s now n).2 := by
  unfold Bkt.take
  split
  · exact h
  · rename_i hh
    have h1 := B.fill_ok h (now := now) (by omega)
    split
    · exact h1
    · have h2 := B.need (n := n) (by omega)
      have h3 := h1.x1
      exact ⟨h1.l0, h1.l1, by simp only; omega, by simp only; omega⟩
theorem Bkt.when_ok (B : Bkt) {s : BSt} (h : B.Ok s) (now n : Int) : B.Ok (B.when s now n).2 := by
  unfold Bkt.when
  split
  · exact h
  · exact B.fill_ok h (by omega)
end Go.Proofs.YtgifghbnpdanhaaGreatDoor

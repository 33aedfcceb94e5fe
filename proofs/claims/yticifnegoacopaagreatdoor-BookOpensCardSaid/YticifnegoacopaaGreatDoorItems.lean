/-
  Packets, and slices of packets; slices of records of ints. No program is named here.
-/
import Derived.Test.YticifnegoacopaaGreatDoorBase
namespace Go.Proofs.YticifnegoacopaaGreatDoor
open Go.RowKit

/-- v is a slice of n records of m ints: F i j is number j of record i. -/
def Recs (m : Nat) (w : World) (v : Value) (n : Nat) (F : Nat → Nat → Int) : Prop :=
  (∃ a cap, v = .slice a 0 cap ∧ n = 0) ∨
    ∃ b off cap, v = .slice (some ⟨b, off, none⟩) n cap ∧ 0 < n ∧ (n ≤ cap ∧ cap ≤ 9223372036854775807) ∧ ∀ i, i < n → ∀ j, j < m → w.cell? ⟨b, off + i * m + j, none⟩ = some (.int .i64 (F i j))
theorem Recs.gr {m : Nat} {w w' : World} {v : Value} {n : Nat} {F : Nat → Nat → Int} (h : Recs m w v n F) (g : Gr w w') : Recs m w' v n F := by
  rcases h with h | ⟨b, off, cap, h1, h2, h3, h4⟩
  · exact .inl h
  · exact .inr ⟨b, off, cap, h1, h2, h3, fun i hi j hj => g.cell (h4 i hi j hj)⟩
theorem Recs.shape {m : Nat} {w : World} {v : Value} {n : Nat} {F : Nat → Nat → Int} (h : Recs m w v n F) : ∃ a cap, v = .slice a n cap := by
  rcases h with ⟨a, cap, rfl, rfl⟩ | ⟨b, off, cap, rfl, _⟩
  · exact ⟨_, _, rfl⟩
  · exact ⟨_, _, rfl⟩
theorem Recs.len {m : Nat} {w : World} {v : Value} {n : Nat} {F : Nat → Nat → Int} (h : Recs m w v n F) : n ≤ 9223372036854775807 := by
  rcases h with ⟨_, _, _, rfl⟩ | ⟨_, _, _, _, _, h, _⟩ <;> omega
theorem Recs.cells {m : Nat} {w : World} {v : Value} {n : Nat} {F : Nat → Nat → Int} (h : Recs m w v n F) (h0 : 0 < n) :
    ∃ b off cap, v = .slice (some ⟨b, off, none⟩) n cap ∧ n ≤ cap ∧ cap ≤ 9223372036854775807 ∧ Hid (∀ i, i < n → ∀ j, j < m → w.cell? ⟨b, off + i * m + j, none⟩ = some (.int .i64 (F i j))) := by
  rcases h with ⟨a, cap, rfl, rfl⟩ | ⟨b, off, cap, rfl, _, hcap, h⟩
  · omega
  · exact ⟨_, _, _, rfl, hcap.1, hcap.2, h⟩

/-- A slice, whether it holds something or not: where it does, here are its cells. -/
theorem Recs.any {m : Nat} {w : World} {v : Value} {n : Nat} {F : Nat → Nat → Int} (h : Recs m w v n F) :
    ∃ a cap, v = .slice a n cap ∧ Hid (0 < n → ∃ b off, a = some ⟨b, off, none⟩ ∧ ∀ i, i < n → ∀ j, j < m → w.cell? ⟨b, off + i * m + j, none⟩ = some (.int .i64 (F i j))) := by
  rcases h with ⟨a, cap, rfl, rfl⟩ | ⟨b, off, cap, rfl, _, hcap, h⟩
  · exact ⟨a, cap, rfl, fun hh => absurd hh (by omega)⟩
  · exact ⟨_, _, rfl, fun _ => ⟨b, off, rfl, h⟩⟩

structure Itm where
  t : Int
  len : Int
  flow : Int
  band : Int
  mark : Int

def Itm.val (x : Itm) : Value := .agg #[.int .i64 x.t, .int .i64 x.len, .int .i64 x.flow, .int .i64 x.band, .int .i64 x.mark]
def Itm.zero : Itm := ⟨0, 0, 0, 0, 0⟩
/-- A packet that may be. -/
def Itm.ok (x : Itm) : Prop := (0 ≤ x.t ∧ x.t ≤ 1000000000) ∧ (1 ≤ x.len ∧ x.len ≤ 10000) ∧ (0 ≤ x.flow ∧ x.flow ≤ 15) ∧ (0 ≤ x.band ∧ x.band ≤ 7) ∧ (0 ≤ x.mark ∧ x.mark ≤ 255)
noncomputable def ckItem (x : Itm) : Int := @ite _ x.ok (Classical.propDecidable _) 0 2
theorem ckItem_ok {x : Itm} (h : x.ok) : ckItem x = 0 := by unfold ckItem; rw [if_pos h]
theorem ckItem_no {x : Itm} (h : ¬ x.ok) : ckItem x = 2 := by unfold ckItem; rw [if_neg h]
theorem ckItem_zero {x : Itm} (h : ckItem x = 0) : x.ok := Classical.byContradiction fun hh => by rw [ckItem_no hh] at h; exact absurd h (by decide)

/-- The five cells of a packet. -/
structure ItemAt (w : World) (b o : Nat) (x : Itm) : Prop where
  c0 : w.cell? ⟨b, o, none⟩ = some (.int .i64 x.t)
  c1 : w.cell? ⟨b, o + 1, none⟩ = some (.int .i64 x.len)
  c2 : w.cell? ⟨b, o + 2, none⟩ = some (.int .i64 x.flow)
  c3 : w.cell? ⟨b, o + 3, none⟩ = some (.int .i64 x.band)
  c4 : w.cell? ⟨b, o + 4, none⟩ = some (.int .i64 x.mark)
theorem ItemAt.gr {w w' : World} {b o : Nat} {x : Itm} (h : ItemAt w b o x) (g : Gr w w') : ItemAt w' b o x :=
  ⟨g.cell h.c0, g.cell h.c1, g.cell h.c2, g.cell h.c3, g.cell h.c4⟩

/-- v is a slice that holds the packets l. -/
def Items (w : World) (v : Value) (l : List Itm) : Prop :=
  (∃ a cap, v = .slice a 0 cap ∧ l = []) ∨
    ∃ b off cap, v = .slice (some ⟨b, off, none⟩) l.length cap ∧ 0 < l.length ∧ (l.length ≤ cap ∧ cap ≤ 9223372036854775807) ∧ ∀ i, i < l.length → ItemAt w b (off + i * 5) (l.getD i .zero)
theorem Items.gr {w w' : World} {v : Value} {l : List Itm} (h : Items w v l) (g : Gr w w') : Items w' v l := by
  rcases h with h | ⟨b, off, cap, h1, h2, h3, h4⟩
  · exact .inl h
  · exact .inr ⟨b, off, cap, h1, h2, h3, fun i hi => (h4 i hi).gr g⟩
theorem Items.len {w : World} {v : Value} {l : List Itm} (h : Items w v l) : l.length ≤ 9223372036854775807 := by
  rcases h with ⟨_, _, _, rfl⟩ | ⟨_, _, _, _, _, h, _⟩
  · simp
  · omega
theorem items_shape {w : World} {v : Value} {l : List Itm} (h : Items w v l) : ∃ a cap, v = .slice a l.length cap := by
  rcases h with ⟨a, cap, rfl, rfl⟩ | ⟨b, off, cap, rfl, _⟩
  · exact ⟨_, _, rfl⟩
  · exact ⟨_, _, rfl⟩
theorem items_cells {w : World} {v : Value} {l : List Itm} (h : Items w v l) (h0 : 0 < l.length) : ∃ b off cap, v = .slice (some ⟨b, off, none⟩) l.length cap ∧ l.length ≤ cap ∧ cap ≤ 9223372036854775807 ∧ Hid (∀ i, i < l.length → ItemAt w b (off + i * 5) (l.getD i .zero)) := by
  rcases h with ⟨a, cap, rfl, rfl⟩ | ⟨b, off, cap, rfl, _, hcap, h⟩
  · simp at h0
  · exact ⟨_, _, _, rfl, hcap.1, hcap.2, h⟩

end Go.Proofs.YticifnegoacopaaGreatDoor

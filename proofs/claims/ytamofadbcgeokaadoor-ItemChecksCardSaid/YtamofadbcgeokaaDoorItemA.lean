/-
  Packets: item.Check, millraceref.ItemCheck; slices of packets.
-/
import Derived.Test.YtamofadbcgeokaaDoorErr
import Derived.Test.YtamofadbcgeokaaDoorPlain
import Derived.BigGuardPart
import Derived.Test.YtamofadbcgeokaaDoorWithin
namespace Go.Proofs.YtamofadbcgeokaaDoor
open Go.RowKit Go.Extern.Stop Go.Stop Go.Extern

structure Itm where
  t : Int
  len : Int
  flow : Int
  band : Int
  mark : Int

def Itm.val (x : Itm) : Value := .agg #[.int .i64 x.t, .int .i64 x.len, .int .i64 x.flow, .int .i64 x.band, .int .i64 x.mark]
def Itm.zero : Itm := ⟨0, 0, 0, 0, 0⟩
/-- A packet that may be. -/
def Itm.ok (x : Itm) : Prop := (0 ≤ x.t ∧ x.t ≤ 1000000000) ∧ (1 ≤ x.len ∧ x.len ≤ 10000) ∧ (0 ≤ x.flow ∧ x.flow ≤ 15) ∧ (0 ≤ x.band ∧ x.band ≤ 7) ∧ (0 ≤ x.mark ∧ x.mark ≤ 255)
noncomputable def ckItem (x : Itm) : Int := @ite _ x.ok (Classical.propDecidable _) 0 2
theorem ckItem_ok {x : Itm} (h : x.ok) : ckItem x = 0 := by unfold ckItem; rw [if_pos h]
theorem ckItem_no {x : Itm} (h : ¬ x.ok) : ckItem x = 2 := by unfold ckItem; rw [if_neg h]
theorem ckItem_zero {x : Itm} (h : ckItem x = 0) : x.ok := Classical.byContradiction fun hh => by rw [ckItem_no hh] at h; exact absurd h (by decide)

/-- The five cells of a packet. -/
structure ItemAt (w : World) (b o : Nat) (x : Itm) : Prop where
  c0 : w.cell? ⟨b, o, none⟩ = some (.int .i64 x.t)
  c1 : w.cell? ⟨b, o + 1, none⟩ = some (.int .i64 x.len)
  c2 : w.cell? ⟨b, o + 2, none⟩ = some (.int .i64 x.flow)
  c3 : w.cell? ⟨b, o + 3, none⟩ = some (.int .i64 x.band)
  c4 : w.cell? ⟨b, o + 4, none⟩ = some (.int .i64 x.mark)
theorem ItemAt.gr {w w' : World} {b o : Nat} {x : Itm} (h : ItemAt w b o x) (g : Gr w w') : ItemAt w' b o x :=
  ⟨g.cell h.c0, g.cell h.c1, g.cell h.c2, g.cell h.c3, g.cell h.c4⟩

/-- v is a slice that holds the packets l. -/
def Items (w : World) (v : Value) (l : List Itm) : Prop :=
  (∃ a cap, v = .slice a 0 cap ∧ l = []) ∨
    ∃ b off cap, v = .slice (some ⟨b, off, none⟩) l.length cap ∧ 0 < l.length ∧ (l.length ≤ cap ∧ cap ≤ 9223372036854775807) ∧ ∀ i, i < l.length → ItemAt w b (off + i * 5) (l.getD i .zero)
theorem Items.gr {w w' : World} {v : Value} {l : List Itm} (h : Items w v l) (g : Gr w w') : Items w' v l := by
  rcases h with h | ⟨b, off, cap, h1, h2, h3, h4⟩
  · exact .inl h
  · exact .inr ⟨b, off, cap, h1, h2, h3, fun i hi => (h4 i hi).gr g⟩
theorem Items.len {w : World} {v : Value} {l : List Itm} (h : Items w v l) : l.length ≤ 9223372036854775807 := by
  rcases h with ⟨_, _, _, rfl⟩ | ⟨_, _, _, _, _, h, _⟩
  · simp
  · omega
theorem items_shape {w : World} {v : Value} {l : List Itm} (h : Items w v l) : ∃ a cap, v = .slice a l.length cap := by
  rcases h with ⟨a, cap, rfl, rfl⟩ | ⟨b, off, cap, rfl, _⟩
  · exact ⟨_, _, rfl⟩
  · exact ⟨_, _, rfl⟩
theorem items_cells {w : World} {v : Value} {l : List Itm} (h : Items w v l) (h0 : 0 < l.length) : ∃ b off cap, v = .slice (some ⟨b, off, none⟩) l.length cap ∧ l.length ≤ cap ∧ cap ≤ 9223372036854775807 ∧ Hid (∀ i, i < l.length → ItemAt w b (off + i * 5) (l.getD i .zero)) := by
  rcases h with ⟨a, cap, rfl, rfl⟩ | ⟨b, off, cap, rfl, _, hcap, h⟩
  · simp at h0
  · exact ⟨_, _, _, rfl, hcap.1, hcap.2, h⟩

set_option maxHeartbeats 4000000 in
theorem icheck_agg (t len flow band mark : Int) (w : World) :
    Calls Tryd.prog 20 #[.agg #[.int .i64 t, .int .i64 len, .int .i64 flow, .int .i64 band, .int .i64 mark]] w fun e w' => e = .returned (errV (ckItem ⟨t, len, flow, band, mark⟩)) ∧ Gr w w' := by
  go_enter Tryd.func20, Tryd.ntmps20
  go_wp2
  all_goals
    go_ret
    refine ⟨?_, (Gr.refl _).alloc _⟩
    first
      | (rw [ckItem_no (by unfold Itm.ok; simp only; omega)]; rfl)
      | (rw [ckItem_ok (by unfold Itm.ok; simp only; omega)]; rfl)
theorem icheck_ok (x : Itm) (w : World) (h : x.ok) :
    Calls Tryd.prog 20 #[x.val] w fun e w' => e = .returned .nilIface ∧ Gr w w' := by
  have := icheck_agg x.t x.len x.flow x.band x.mark w
  rw [show (⟨x.t, x.len, x.flow, x.band, x.mark⟩ : Itm) = x from rfl, ckItem_ok h] at this
  exact this
theorem icheck_bad (x : Itm) (w : World) (h : ¬ x.ok) :
    Calls Tryd.prog 20 #[x.val] w fun e w' => e = .returned (.iface 24 (.int .i64 2)) ∧ Gr w w' := by
  have := icheck_agg x.t x.len x.flow x.band x.mark w
  rw [show (⟨x.t, x.len, x.flow, x.band, x.mark⟩ : Itm) = x from rfl, ckItem_no h] at this
  exact this
theorem icheck_any (x : Itm) (w : World) :
    Calls Tryd.prog 20 #[x.val] w fun e w' => e = .returned (errV (ckItem x)) ∧ Gr w w' := by
  exact icheck_agg x.t x.len x.flow x.band x.mark w
set_option maxHeartbeats 4000000 in
theorem richeck_agg (t len flow band mark : Int) (w : World) :
    Calls Tryd.prog 21 #[.agg #[.int .i64 t, .int .i64 len, .int .i64 flow, .int .i64 band, .int .i64 mark]] w fun e w' => e = .returned (.int .i64 (ckItem ⟨t, len, flow, band, mark⟩)) ∧ Gr w w' := by
  go_enter Tryd.func21, Tryd.ntmps21
  go_wp2_with (go_at_call 44; refine (within_B _ _ _ _).mono ?_; rintro e w' ⟨B, rfl, hB1, hB2, rfl⟩; cases B <;> (first | (have hb := hB2 rfl; clear hB1 hB2) | (have hb := hB1 rfl; clear hB1 hB2)))
  all_goals
    go_ret
    refine ⟨?_, (Gr.refl _).alloc _⟩
    first
      | (rw [ckItem_no (by unfold Itm.ok; simp only; omega)]; rfl)
      | (rw [ckItem_ok (by unfold Itm.ok; simp only; omega)]; rfl)
theorem richeck_any (x : Itm) (w : World) :
    Calls Tryd.prog 21 #[x.val] w fun e w' => e = .returned (.int .i64 (ckItem x)) ∧ Gr w w' := by
  exact richeck_agg x.t x.len x.flow x.band x.mark w
end Go.Proofs.YtamofadbcgeokaaDoor

/-
  Packets: item.Check, millraceref.ItemCheck; slices of packets.
-/
import Derived.Test.YtgifghbnpdanhaaGreatDoorShaperPlaysPart5
import Derived.Test.YtgifghbnpdanhaaGreatDoorShaperPlaysPart1
import Derived.BigGuardPart
namespace Go.Proofs.YtgifghbnpdanhaaGreatDoor
open Go.RowKit Go.Extern.Stop Go.Stop Go.Extern

set_option maxHeartbeats 4000000 in
theorem icheck_agg (t len flow band mark : Int) (w : World) :
    Calls Tryz.prog 33 #[.agg #[.int .i64 t, .int .i64 len, .int .i64 flow, .int .i64 band, .int .i64 mark]] w fun e w' => e = .returned (errV (ckItem ⟨t, len, flow, band, mark⟩)) ∧ Gr w w' := by
  go_enter Tryz.func33, Tryz.ntmps33
  go_wp2
  all_goals
    go_ret
    refine ⟨?_, (Gr.refl _).alloc _⟩
    first
      | (rw [ckItem_no (by unfold Itm.ok; simp only; omega)]; rfl)
      | (rw [ckItem_ok (by unfold Itm.ok; simp only; omega)]; rfl)
theorem icheck_ok (x : Itm) (w : World) (h : x.ok) :
    Calls Tryz.prog 33 #[x.val] w fun e w' => e = .returned .nilIface ∧ Gr w w' := by
  have := icheck_agg x.t x.len x.flow x.band x.mark w
  rw [show (⟨x.t, x.len, x.flow, x.band, x.mark⟩ : Itm) = x from rfl, ckItem_ok h] at this
  exact this
theorem icheck_bad (x : Itm) (w : World) (h : ¬ x.ok) :
    Calls Tryz.prog 33 #[x.val] w fun e w' => e = .returned (.iface 33 (.int .i64 2)) ∧ Gr w w' := by
  have := icheck_agg x.t x.len x.flow x.band x.mark w
  rw [show (⟨x.t, x.len, x.flow, x.band, x.mark⟩ : Itm) = x from rfl, ckItem_no h] at this
  exact this
theorem icheck_any (x : Itm) (w : World) :
    Calls Tryz.prog 33 #[x.val] w fun e w' => e = .returned (errV (ckItem x)) ∧ Gr w w' := by
  exact icheck_agg x.t x.len x.flow x.band x.mark w
end Go.Proofs.YtgifghbnpdanhaaGreatDoor
/-
  item.List, millraceref.ListCheck.
-/
namespace Go.Proofs.YtgifghbnpdanhaaGreatDoor
open Go.RowKit Go.Extern.Stop Go.Stop Go.Extern

/-- millraceref.Fine is laid. -/

noncomputable def listAt (l : List Itm) (i : Nat) : Int :=
  if ckItem (l.getD i .zero) ≠ 0 then 2 else if 0 < i ∧ (l.getD i .zero).t < (l.getD (i - 1) .zero).t then 10 else 0
noncomputable def listCode (l : List Itm) : Int := if 100 < l.length then 4 else firstOf (listAt l) l.length
noncomputable def listPlace (l : List Itm) : Int := if 100 < l.length then -1 else firstIx (listAt l) l.length

theorem listAt_bad {l : List Itm} {i : Nat} {x : Itm} (hx : l.getD i .zero = x) (h : ¬ x.ok) : listAt l i = 2 := by
  unfold listAt; rw [hx, ckItem_no h, if_pos (by decide)]
theorem listAt_order {l : List Itm} {i : Nat} {x y : Itm} (hx : l.getD i .zero = x) (hy : l.getD (i - 1) .zero = y) (h : x.ok) (h0 : 0 < i) (h1 : x.t < y.t) : listAt l i = 10 := by
  unfold listAt; rw [hx, hy, ckItem_ok h, if_neg (by decide), if_pos ⟨h0, h1⟩]
theorem listAt_ok {l : List Itm} {i : Nat} {x y : Itm} (hx : l.getD i .zero = x) (hy : l.getD (i - 1) .zero = y) (h : x.ok) (h1 : 0 < i → ¬ x.t < y.t) : listAt l i = 0 := by
  unfold listAt; rw [hx, hy, ckItem_ok h, if_neg (by decide), if_neg (fun hh => h1 hh.1 hh.2)]
theorem list_many {l : List Itm} (h : 100 < l.length) : listCode l = 4 ∧ listPlace l = -1 := by
  unfold listCode listPlace; rw [if_pos h, if_pos h]; exact ⟨rfl, rfl⟩
theorem list_at {l : List Itm} {n k : Nat} {c : Int} (hn : l.length = n) (h : ¬ 100 < n) (hj : ∀ j, j < k → listAt l j = 0) (hk : k < n) (hc : listAt l k = c) (h0 : c ≠ 0) : listCode l = c ∧ listPlace l = (k : Int) := by
  unfold listCode listPlace; rw [hn, if_neg h, if_neg h]; exact ⟨firstOf_at hj hk hc h0, firstIx_at hj hk (by rw [hc]; exact h0)⟩
theorem list_fine {l : List Itm} {n : Nat} (hn : l.length = n) (h : ¬ 100 < n) (hj : ∀ j, j < n → listAt l j = 0) : listCode l = 0 ∧ listPlace l = -1 := by
  unfold listCode listPlace; rw [hn, if_neg h, if_neg h]; exact ⟨firstOf_zero hj, firstIx_zero hj⟩

/-- What item.List tells. -/
def ListIs (w : World) (l : List Itm) (e : Ending) (w' : World) : Prop :=
  ∃ v, e = .returned v ∧ ErrIs w' v (listCode l) (listPlace l) ∧ (listCode l = 0 → v = .nilIface) ∧ (listCode l ≠ 0 → ∃ t x, v = .iface t x) ∧ Gr w w'
theorem ListIs.nil {w w' : World} {l : List Itm} (h : listCode l = 0 ∧ listPlace l = -1) (hg : Gr w w') : ListIs w l (.returned .nilIface) w' :=
  ⟨_, rfl, .inl ⟨rfl, h.1, h.2⟩, fun _ => rfl, fun hh => absurd h.1 hh, hg⟩
theorem ListIs.no {w w' : World} {l : List Itm} {c : Int} (h : listCode l = c ∧ listPlace l = -1) (h0 : c ≠ 0) (hg : Gr w w') : ListIs w l (.returned (.iface 33 (.int .i64 c))) w' :=
  ⟨_, rfl, .inr (.inl ⟨by rw [h.1], h.2⟩), fun hh => absurd (h.1.symm.trans hh) h0, fun _ => ⟨_, _, rfl⟩, hg⟩
theorem ListIs.at {w w' : World} {l : List Itm} {c k : Int} {b o : Nat} (h : listCode l = c ∧ listPlace l = k) (h0 : c ≠ 0) (hc : w'.cell? ⟨b, o, none⟩ = some (.int .i64 c)) (hk : w'.cell? ⟨b, o + 1, none⟩ = some (.int .i64 k)) (hg : Gr w w') : ListIs w l (.returned (.iface 115 (.pointer (some ⟨b, o, none⟩)))) w' :=
  ⟨_, rfl, .inr (.inr ⟨b, o, rfl, by rw [h.1]; exact hc, by rw [h.2]; exact hk⟩), fun hh => absurd (h.1.symm.trans hh) h0, fun _ => ⟨_, _, rfl⟩, hg⟩
def faultV (c p : Int) : Value := .agg #[.int .i64 c, .int .i64 p]
end Go.Proofs.YtgifghbnpdanhaaGreatDoor

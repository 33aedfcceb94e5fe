/-
  Packets: item.Check, millraceref.ItemCheck; slices of packets.
-/
import Derived.Test.YtofhmbbodoedjaaDoorErr
import Derived.Test.YtofhmbbodoedjaaDoorPlain
import Derived.Test.YtofhmbbodoedjaaDoorItems
import Derived.BigGuardPart
import Derived.Test.YtofhmbbodoedjaaDoorWithin
namespace Go.Proofs.YtofhmbbodoedjaaDoor
open Go.RowKit Go.Extern.Stop Go.Stop Go.Extern

set_option maxHeartbeats 4000000 in
theorem icheck_agg (t len flow band mark : Int) (w : World) :
    Calls Tryd.prog 24 #[.agg #[.int .i64 t, .int .i64 len, .int .i64 flow, .int .i64 band, .int .i64 mark]] w fun e w' => e = .returned (errV (ckItem ⟨t, len, flow, band, mark⟩)) ∧ Gr w w' := by
  go_enter Tryd.func24, Tryd.ntmps24
  go_wp2
  all_goals
    go_ret
    refine ⟨?_, (Gr.refl _).alloc _⟩
    first
      | (rw [ckItem_no (by unfold Itm.ok; simp only; omega)]; rfl)
      | (rw [ckItem_ok (by unfold Itm.ok; simp only; omega)]; rfl)
theorem icheck_ok (x : Itm) (w : World) (h : x.ok) :
    Calls Tryd.prog 24 #[x.val] w fun e w' => e = .returned .nilIface ∧ Gr w w' := by
  have := icheck_agg x.t x.len x.flow x.band x.mark w
  rw [show (⟨x.t, x.len, x.flow, x.band, x.mark⟩ : Itm) = x from rfl, ckItem_ok h] at this
  exact this
theorem icheck_bad (x : Itm) (w : World) (h : ¬ x.ok) :
    Calls Tryd.prog 24 #[x.val] w fun e w' => e = .returned (.iface 23 (.int .i64 2)) ∧ Gr w w' := by
  have := icheck_agg x.t x.len x.flow x.band x.mark w
  rw [show (⟨x.t, x.len, x.flow, x.band, x.mark⟩ : Itm) = x from rfl, ckItem_no h] at this
  exact this
theorem icheck_any (x : Itm) (w : World) :
    Calls Tryd.prog 24 #[x.val] w fun e w' => e = .returned (errV (ckItem x)) ∧ Gr w w' := by
  exact icheck_agg x.t x.len x.flow x.band x.mark w
set_option maxHeartbeats 4000000 in
theorem richeck_agg (t len flow band mark : Int) (w : World) :
    Calls Tryd.prog 20 #[.agg #[.int .i64 t, .int .i64 len, .int .i64 flow, .int .i64 band, .int .i64 mark]] w fun e w' => e = .returned (.int .i64 (ckItem ⟨t, len, flow, band, mark⟩)) ∧ Gr w w' := by
  go_enter Tryd.func20, Tryd.ntmps20
  go_wp2_with (go_at_call 32; refine (within_B _ _ _ _).mono ?_; rintro e w' ⟨B, rfl, hB1, hB2, rfl⟩; cases B <;> (first | (have hb := hB2 rfl; clear hB1 hB2) | (have hb := hB1 rfl; clear hB1 hB2)))
  all_goals
    go_ret
    refine ⟨?_, (Gr.refl _).alloc _⟩
    first
      | (rw [ckItem_no (by unfold Itm.ok; simp only; omega)]; rfl)
      | (rw [ckItem_ok (by unfold Itm.ok; simp only; omega)]; rfl)
theorem richeck_any (x : Itm) (w : World) :
    Calls Tryd.prog 20 #[x.val] w fun e w' => e = .returned (.int .i64 (ckItem x)) ∧ Gr w w' := by
  exact richeck_agg x.t x.len x.flow x.band x.mark w
end Go.Proofs.YtofhmbbodoedjaaDoor

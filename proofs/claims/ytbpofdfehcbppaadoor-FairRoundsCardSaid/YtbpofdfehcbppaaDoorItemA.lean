/-
  Packets: item.Check, millraceref.ItemCheck; slices of packets.
-/
import Derived.Test.YtbpofdfehcbppaaDoorErr
import Derived.Test.YtbpofdfehcbppaaDoorPlain
import Derived.Test.YtbpofdfehcbppaaDoorItems
import Derived.BigGuardPart
import Derived.Test.YtbpofdfehcbppaaDoorWithin
namespace Go.Proofs.YtbpofdfehcbppaaDoor
open Go.RowKit Go.Extern.Stop Go.Stop Go.Extern

set_option maxHeartbeats 4000000 in
theorem icheck_agg (t len flow band mark : Int) (w : World) :
    Calls Tryd.prog 42 #[.agg #[.int .i64 t, .int .i64 len, .int .i64 flow, .int .i64 band, .int .i64 mark]] w fun e w' => e = .returned (errV (ckItem ⟨t, len, flow, band, mark⟩)) ∧ Gr w w' := by
  go_enter Tryd.func42, Tryd.ntmps42
  go_wp2
  all_goals
    go_ret
    refine ⟨?_, (Gr.refl _).alloc _⟩
    first
      | (rw [ckItem_no (by unfold Itm.ok; simp only; omega)]; rfl)
      | (rw [ckItem_ok (by unfold Itm.ok; simp only; omega)]; rfl)
theorem icheck_ok (x : Itm) (w : World) (h : x.ok) :
    Calls Tryd.prog 42 #[x.val] w fun e w' => e = .returned .nilIface ∧ Gr w w' := by
  have := icheck_agg x.t x.len x.flow x.band x.mark w
  rw [show (⟨x.t, x.len, x.flow, x.band, x.mark⟩ : Itm) = x from rfl, ckItem_ok h] at this
  exact this
theorem icheck_bad (x : Itm) (w : World) (h : ¬ x.ok) :
    Calls Tryd.prog 42 #[x.val] w fun e w' => e = .returned (.iface 23 (.int .i64 2)) ∧ Gr w w' := by
  have := icheck_agg x.t x.len x.flow x.band x.mark w
  rw [show (⟨x.t, x.len, x.flow, x.band, x.mark⟩ : Itm) = x from rfl, ckItem_no h] at this
  exact this
theorem icheck_any (x : Itm) (w : World) :
    Calls Tryd.prog 42 #[x.val] w fun e w' => e = .returned (errV (ckItem x)) ∧ Gr w w' := by
  exact icheck_agg x.t x.len x.flow x.band x.mark w
end Go.Proofs.YtbpofdfehcbppaaDoor

/-
  The records that the laws of this seat take: packets, what was sent, a wire's log.
-/
import Derived.Test.YtllmoagnkagalaaFrameP
import Derived.Lib.SmallJoins
namespace Go.Proofs.Ytllmoagnkagalaa
open Go.ChangeShapes Go.WideShapes Go.ChangeAt Go.RowKit Go.Deep

theorem rec_item : IntRec 30 5 := ⟨by kernel_rfl, _, Try.underlying30, rfl, fun j hj => by
  match j, hj with
  | 0, _ => exact ⟨_, rfl, rfl, rfl⟩
  | 1, _ => exact ⟨_, rfl, rfl, rfl⟩
  | 2, _ => exact ⟨_, rfl, rfl, rfl⟩
  | 3, _ => exact ⟨_, rfl, rfl, rfl⟩
  | 4, _ => exact ⟨_, rfl, rfl, rfl⟩⟩
theorem rec_move : IntRec 27 2 := ⟨by kernel_rfl, _, Try.underlying27, rfl, fun j hj => by
  match j, hj with
  | 0, _ => exact ⟨_, rfl, rfl, rfl⟩
  | 1, _ => exact ⟨_, rfl, rfl, rfl⟩⟩
end Go.Proofs.Ytllmoagnkagalaa

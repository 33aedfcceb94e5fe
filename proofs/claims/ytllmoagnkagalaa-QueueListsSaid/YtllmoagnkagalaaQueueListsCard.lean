/-
  millracelaw.QueueLists answers true at every input: its row and its tied card. Conditions: none beyond the row's own (package-level variables start as the program's text lays them).
-/
import Derived.Test.YtllmoagnkagalaaQLst
import Derived.Test.YtllmoagnkagalaaRecL
import Derived.Test.YtllmoagnkagalaaFrameP
namespace Go.Proofs.Ytllmoagnkagalaa.queueLists
open Go.ChangeShapes Go.WideShapes Go.ChangeAt Go.RowKit Go.Deep

set_option maxRecDepth 100000 in
theorem contract {H : Type} {enc : TypeId × Value → H} (W : World) (base : Nat) (args : Array Value) (ds gs : List (DataW H)) (before : List MemPlace)
    (hval : ∀ (j : Nat) t v, Try.f3.params[j]? = some t → args[j]? = some v → Value.okWide Try.prog W .any base t v)
    (hW : DataW.Whole enc Try.prog Try.f3.params.toList Rows.queueListsSpec.vars false W args.toList ds gs before) (_hL : laidMetH Try.prog Rows.queueListsRow.laid W) :
    Calls Try.prog 3 args W fun e W' => e = .returned (.bool true) ∧ Gr W W' := by
  obtain ⟨p, q, hA0, hV, rfl, hfz, hnd⟩ := hW
  have hA : DataW.TrodAll enc Try.prog W 0 (fun _ => true) true Try.f3.params.toList args.toList ds p := hA0
  rw [Try.params3] at hA hval
  obtain ⟨v0, vs0, d0, ds0, p0, q0, hargs, rfl, rfl, h0, r0⟩ := trodAll_cons hA
  obtain ⟨rfl, rfl, rfl⟩ := trodAll_nil r0
  obtain rfl : args = #[v0] := by cases args; simp_all
  obtain ⟨k0, F0, hx0, hb0⟩ := recs_of_trod Try.underlying22 rec_move (by omega) (hval 0 _ v0 rfl rfl) h0
  exact queueLists_walk W  hx0 hb0

/-- A world for the witness: the settled one, the listed variables laid. -/
noncomputable def laidWorld (os : Os) : World :=
  { World.holding Try.prog os ⟨#[], #[], []⟩ with heap := (World.holding Try.prog os ⟨#[], #[], []⟩).heap }
noncomputable def wArgs : Array Value := #[Value.slice none 0 0]
theorem laid_met (os : Os) : laidMetH Try.prog Rows.queueListsRow.laid ((laidWorld os).forCall (fun _ _ => 0) ⟨#[], wArgs, []⟩).memory :=
  laidMet_nil _ _
theorem reads (os : Os) {H : Type} (enc : TypeId × Value → H) : ∃ places, DataW.whole enc Try.prog ((laidWorld os).forCall (fun _ _ => 0) ⟨#[], wArgs, []⟩).memory Try.f3.params.toList Rows.queueListsSpec.vars false wArgs.toList 8 = some ([.nil], [], places) :=
  ⟨[], by kernel_rfl⟩

set_option maxRecDepth 100000 in
theorem lifted (os : Os) (started : os.Started) (H : Type) (enc : TypeId × Value → H) (F : Stop.Interp) :
    ReturnsInHanded {} Try.checked os 3 .any ((OpenSpec.ofChange Rows.queueListsSpec).preRow enc Try.prog Try.f3 Rows.queueListsRow.domain false Rows.queueListsRow.laid) (((OpenSpec.ofChange Rows.queueListsSpec).at F).post enc Try.prog Try.f3 false true false false) := by
  obtain ⟨places, hx⟩ := reads os enc
  refine returnsInHanded_of_row (C := Try.checked) (s := OpenSpec.ofChange Rows.queueListsSpec) own started (by kernel_rfl) Try.func3
    (witness_row_at (enc := enc) (C := Try.checked) false (laidWorld os) wArgs rfl (by kernel_rfl) (by kernel_rfl) (by kernel_rfl)
      (OpenSpec.preRow_of_cond 8 hx (by kernel_rfl) (fun k hk => by cases hk) (by kernel_rfl) (laid_met os))) ?_
  intro W base args ds gs before hval hW _ _ _ hL _ _
  refine (contract W base args ds gs before hval hW hL).mono fun e W' ⟨he, hG⟩ => ?_
  subst he
  exact ⟨_, rfl, law_post rfl (by kernel_rfl) (show Try.f3.resultTypes = #[4] from by kernel_rfl) Try.underlying4 (fun ds hds => by
    rw [Try.params3] at hds
    match ds, hds with
    | [_], _ => rfl) hW hG⟩

theorem said : Rows.QueueListsSaid :=
  OpenClaim.holds_of_cond 3 Try.f3 rfl rfl rfl rfl rfl rfl rfl ⟨rfl, rfl, rfl, rfl, rfl⟩ rfl rfl rfl rfl rfl (by kernel_rfl) Try.func3 (by kernel_rfl)
    (of_decide_eq_true (by kernel_rfl)) (by unfold Func.isWrapper; first | (rw [if_pos (by decide +kernel)]; kernel_rfl) | (rw [if_neg (by decide +kernel)]; exact ⟨rfl, rfl⟩))
    (fun os started H enc _ F => by rw [OpenClaim.pre_eq_preRow]; exact lifted os started H enc F)

end Go.Proofs.Ytllmoagnkagalaa.queueLists

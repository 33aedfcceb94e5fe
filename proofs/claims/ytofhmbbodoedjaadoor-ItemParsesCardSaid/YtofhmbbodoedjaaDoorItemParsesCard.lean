/-
  millracelaw.ItemParses answers true at every input: its row and its tied card. Conditions: none beyond the row's own (package-level variables start as the program's text lays them).
-/
import Derived.Test.YtofhmbbodoedjaaDoorIpW
import Derived.Test.YtofhmbbodoedjaaDoorIpZ
import Derived.Test.YtofhmbbodoedjaaDoorFrame
namespace Go.Proofs.YtofhmbbodoedjaaDoor.itemParses
open Go.ChangeShapes Go.WideShapes Go.ChangeAt Go.RowKit

set_option maxRecDepth 100000 in
theorem contract {H : Type} {enc : TypeId × Value → H} (W : World) (base : Nat) (args : Array Value) (ds gs : List (DataW H)) (before : List MemPlace)
    (hval : ∀ (j : Nat) t v, Tryd.f3.params[j]? = some t → args[j]? = some v → Value.okWide Tryd.prog W .any base t v)
    (hW : DataW.Whole enc Tryd.prog Tryd.f3.params.toList Rows.itemParsesSpec.vars false W args.toList ds gs before) (hL : laidMetH Tryd.prog Rows.itemParsesRow.laid W) (hsh : W.ShapedOpen Tryd.prog) :
    Calls Tryd.prog 3 args W fun e W' => e = .returned (.bool true) ∧ Gr W W' := by
  have h' : laidMet Tryd.prog laidI W ∧ handlesMet Tryd.prog [("errors.errorType", Rows.laid_errors_errorType)] W := hL
  have hg := glob_of_handles h'.2 (by simp)
  obtain ⟨hf, hfi⟩ := env_of_laid h'.1 hsh
  obtain ⟨p, q, hA0, hV, rfl, hfz, hnd⟩ := hW
  have hA : DataW.TrodAll enc Tryd.prog W 0 (fun _ => true) true Tryd.f3.params.toList args.toList ds p := hA0
  rw [Tryd.params3] at hA hval
  obtain ⟨v0, vs0, d0, ds0, p0, q0, hargs, rfl, rfl, h0, r0⟩ := trodAll_cons hA
  obtain ⟨rfl, rfl, rfl⟩ := trodAll_nil r0
  obtain rfl : args = #[v0] := by cases args; simp_all
  obtain ⟨s0, rfl, rfl, rfl, z0⟩ := Go.ChangeMaps.open_string Tryd.underlying9 (hval 0 _ v0 rfl rfl) h0
  exact itemParses_walk W hf hfi hg s0

/-- A world for the witness: the settled one, the listed variables laid. -/
noncomputable def laidWorld (os : Os) : World :=
  { World.holding Tryd.prog os ⟨#[], #[], []⟩ with heap := ((((((((((((World.holding Tryd.prog os ⟨#[], #[], []⟩).heap.modify 1 fun
      | .cells _ t frozen => .cells #[.iface 108 (.agg #[.pointer (some ⟨10, 29, none⟩)])] t frozen
      | o => o).modify 8 fun
      | .cells _ t frozen => .cells (laidCells Rows.laid_math_bits_deBruijn32tab) t frozen
      | o => o).modify 9 fun
      | .cells _ t frozen => .cells (laidCells Rows.laid_math_bits_deBruijn64tab) t frozen
      | o => o).modify 5 fun
      | .cells _ t frozen => .cells (laidCells Rows.laid_internal_strconv_uint64pow10) t frozen
      | o => o).modify 7 fun
      | .cells _ t frozen => .cells (laidCells Rows.laid_unicode_utf8_acceptRanges) t frozen
      | o => o).modify 6 fun
      | .cells _ t frozen => .cells (laidCells Rows.laid_unicode_utf8_first) t frozen
      | o => o).modify 4 fun
      | .cells _ t frozen => .cells (#[.iface 138 (.pointer (some ⟨(World.holding Tryd.prog os ⟨#[], #[], []⟩).heap.size, 0, none⟩))]) t frozen
      | o => o).modify 3 fun
      | .cells _ t frozen => .cells (#[.iface 138 (.pointer (some ⟨(World.holding Tryd.prog os ⟨#[], #[], []⟩).heap.size + 1, 0, none⟩))]) t frozen
      | o => o).modify 0 fun
      | .cells _ t frozen => .cells (laidCells Rows.laid_millrace_millraceref_Fine) t frozen
      | o => o).push (.cells (laidCells Rows.laid_strconv_ErrRange) 140)).push (.cells (laidCells Rows.laid_strconv_ErrSyntax) 140)) }
noncomputable def wArgs : Array Value := #[Value.string ByteArray.empty]
theorem laid_met (os : Os) : laidMetH Tryd.prog Rows.itemParsesRow.laid ((laidWorld os).forCall (fun _ _ => 0) ⟨#[], wArgs, []⟩).memory :=
  laidMetH_of_parts (laidMet_of_run' 8 (by kernel_rfl) (by kernel_rfl)) (by kernel_rfl)
theorem reads (os : Os) {H : Type} (enc : TypeId × Value → H) : ∃ places, DataW.whole enc Tryd.prog ((laidWorld os).forCall (fun _ _ => 0) ⟨#[], wArgs, []⟩).memory Tryd.f3.params.toList Rows.itemParsesSpec.vars false wArgs.toList 8 = some ([.lit (.string [])], [], places) :=
  ⟨[], by kernel_rfl⟩

set_option maxRecDepth 100000 in
theorem lifted (os : Os) (started : os.Started) (H : Type) (enc : TypeId × Value → H) (F : Stop.Interp) :
    ReturnsInHanded {} Tryd.checked os 3 .any ((OpenSpec.ofChange Rows.itemParsesSpec).preRow enc Tryd.prog Tryd.f3 Rows.itemParsesRow.domain false Rows.itemParsesRow.laid) (((OpenSpec.ofChange Rows.itemParsesSpec).at F).post enc Tryd.prog Tryd.f3 false true false false) := by
  obtain ⟨places, hx⟩ := reads os enc
  refine returnsInHanded_of_row (C := Tryd.checked) (s := OpenSpec.ofChange Rows.itemParsesSpec) own started (by kernel_rfl) Tryd.func3
    (witness_row_atRef (enc := enc) (C := Tryd.checked) false (laidWorld os) wArgs rfl (by kernel_rfl) (by kernel_rfl) (by kernel_rfl)
      (OpenSpec.preRow_of_cond 8 hx (by kernel_rfl) (fun k hk => by cases hk) (by kernel_rfl) (laid_met os))) ?_
  intro W base args ds gs before hval hW _ _ _ hL hsh _
  refine (contract W base args ds gs before hval hW hL hsh).mono fun e W' ⟨he, hG⟩ => ?_
  subst he
  exact ⟨_, rfl, law_post rfl (by kernel_rfl) (show Tryd.f3.resultTypes = #[4] from by kernel_rfl) Tryd.underlying4 (fun ds hds => by
    rw [Tryd.params3] at hds
    match ds, hds with
    | [_], _ => rfl) hW hG⟩

theorem said : Rows.ItemParsesSaid :=
  OpenClaim.holds_of_cond 3 Tryd.f3 rfl rfl rfl rfl rfl rfl rfl ⟨rfl, rfl, rfl, rfl, rfl⟩ rfl rfl rfl rfl rfl (by kernel_rfl) Tryd.func3 (by kernel_rfl)
    (of_decide_eq_true (by kernel_rfl)) (by unfold Func.isWrapper; first | (rw [if_pos (by decide +kernel)]; kernel_rfl) | (rw [if_neg (by decide +kernel)]; exact ⟨rfl, rfl⟩))
    (fun os started H enc _ F => by rw [OpenClaim.pre_eq_preRow]; exact lifted os started H enc F)

/-- No parameter wants a stand-in; the program's own looks are as the card has it. -/
theorem plain (f : FuncId) (fn : Func) (hf : Tryd.pinned.checked.prog.funcNamed "millrace/millracelaw.ItemParses" = some f) (hfn : Tryd.pinned.checked.prog.funcs[f]? = some fn) :
    true = Tryd.pinned.checked.prog.looks [] ∧ ∀ (j : Nat) t, fn.params[j]? = some t → Tryd.pinned.checked.prog.wantsStandIn t = false := by
  obtain rfl : f = 3 := Option.some.inj ((show Tryd.prog.funcNamed "millrace/millracelaw.ItemParses" = some 3 by kernel_rfl).symm.trans hf) |>.symm
  obtain rfl : fn = Tryd.f3 := (Option.some.inj (Tryd.func3.symm.trans hfn)).symm
  refine ⟨by kernel_rfl, fun j t ht => ?_⟩
  have hall : Tryd.f3.params.all (fun t => !Tryd.prog.wantsStandIn t) = true := by kernel_rfl
  have := Array.all_eq_true'.1 hall t (Array.mem_of_getElem? ht)
  have h2 : Tryd.prog.wantsStandIn t = false := by simpa using this
  exact h2

/-- The card. -/
theorem card : Rows.ItemParsesCardSaid :=
  Claim7.holds_tied_plain_at .later [] _ _ _ _ said (fun _ h => by cases h) (by kernel_rfl) (fun _ h => by cases h) itemParses_row_tie rfl ⟨rfl, rfl⟩ (by kernel_rfl) rfl plain (by kernel_rfl)
end Go.Proofs.YtofhmbbodoedjaaDoor.itemParses

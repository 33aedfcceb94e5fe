/-
  millracelaw.BookPlays answers true at every input: its row and its tied card. Conditions: none beyond the row's own (package-level variables start as the program's text lays them).
-/
import Derived.Test.YticifnegoacopaaGreatDoorBokW
import Derived.Test.YticifnegoacopaaGreatDoorBokF
import Derived.Test.YticifnegoacopaaGreatDoorFrame
namespace Go.Proofs.YticifnegoacopaaGreatDoor.bookPlays
open Go.ChangeShapes Go.WideShapes Go.ChangeAt Go.RowKit

set_option maxRecDepth 100000 in
theorem contract {H : Type} {enc : TypeId × Value → H} (W : World) (base : Nat) (args : Array Value) (ds gs : List (DataW H)) (before : List MemPlace)
    (hval : ∀ (j : Nat) t v, Tryz.f3.params[j]? = some t → args[j]? = some v → Value.okWide Tryz.prog W .any base t v)
    (hW : DataW.Whole enc Tryz.prog Tryz.f3.params.toList Rows.bookPlaysSpec.vars false W args.toList ds gs before) (hL : laidMetH Tryz.prog Rows.bookPlaysRow.laid W) :
    Calls Tryz.prog 3 args W fun e W' => e = .returned (.bool true) ∧ Gr W W' := by
  have h' : laidMet Tryz.prog laidB W ∧ handlesMet Tryz.prog [("errors.errorType", Rows.laid_errors_errorType)] W := hL
  have hg := glob_of_handles h'.2 (by simp)
  have hf := tab_of_laidB h'.1
  obtain ⟨p, q, hA0, hV, rfl, hfz, hnd⟩ := hW
  have hA : DataW.TrodAll enc Tryz.prog W 0 (fun _ => true) true Tryz.f3.params.toList args.toList ds p := hA0
  rw [Tryz.params3] at hA hval
  obtain ⟨v0, vs0, d0, ds0, p0, q0, hargs, rfl, rfl, h0, r0⟩ := trodAll_cons hA
  obtain ⟨v1, vs1, d1, ds1, p1, q1, rfl, rfl, rfl, h1, r1⟩ := trodAll_cons r0
  obtain ⟨v2, vs2, d2, ds2, p2, q2, rfl, rfl, rfl, h2, r2⟩ := trodAll_cons r1
  obtain ⟨v3, vs3, d3, ds3, p3, q3, rfl, rfl, rfl, h3, r3⟩ := trodAll_cons r2
  obtain ⟨v4, vs4, d4, ds4, p4, q4, rfl, rfl, rfl, h4, r4⟩ := trodAll_cons r3
  obtain ⟨rfl, rfl, rfl⟩ := trodAll_nil r4
  obtain rfl : args = #[v0, v1, v2, v3, v4] := by cases args; simp_all
  obtain ⟨k0, T0, hx0⟩ := strs_of_trod (hval 0 _ v0 rfl rfl) h0
  obtain ⟨xs1, hx1, hb1⟩ := ints_of_trod Tryz.underlying23 Tryz.underlying3 (by kernel_rfl) (hval 1 _ v1 rfl rfl) h1
  obtain ⟨k2, B2, hx2⟩ := bools_of_trod (hval 2 _ v2 rfl rfl) h2
  obtain ⟨n3, rfl, rfl, rfl, wn3⟩ := open_int Tryz.underlying3 (hval 3 _ v3 rfl rfl) h3
  have b3 := int_bounds wn3
  obtain ⟨x4, hx4⟩ := bytes_of_trod (hval 4 _ v4 rfl rfl) h4
  exact bookPlays_walk W hf hg hx0 hx1 hb1 hx2 n3 b3.1 b3.2 hx4

/-- A world for the witness: the settled one, the listed variables laid. -/
noncomputable def laidWorld (os : Os) : World :=
  { World.holding Tryz.prog os ⟨#[], #[], []⟩ with heap := (((((((World.holding Tryz.prog os ⟨#[], #[], []⟩).heap.modify 3 fun
      | .cells _ t frozen => .cells #[.iface 183 (.agg #[.pointer (some ⟨9, 35, none⟩)])] t frozen
      | o => o).modify 7 fun
      | .cells _ t frozen => .cells (laidCells Rows.laid_math_bits_deBruijn32tab) t frozen
      | o => o).modify 8 fun
      | .cells _ t frozen => .cells (laidCells Rows.laid_math_bits_deBruijn64tab) t frozen
      | o => o).modify 6 fun
      | .cells _ t frozen => .cells (laidCells Rows.laid_internal_strconv_uint64pow10) t frozen
      | o => o).modify 5 fun
      | .cells _ t frozen => .cells (laidCells Rows.laid_unicode_utf8_acceptRanges) t frozen
      | o => o).modify 4 fun
      | .cells _ t frozen => .cells (laidCells Rows.laid_unicode_utf8_first) t frozen
      | o => o) }
noncomputable def wArgs : Array Value := #[Value.slice none 0 0, Value.slice none 0 0, Value.slice none 0 0, Value.int .i64 0, Value.slice none 0 0]
theorem laid_met (os : Os) : laidMetH Tryz.prog Rows.bookPlaysRow.laid ((laidWorld os).forCall (fun _ _ => 0) ⟨#[], wArgs, []⟩).memory :=
  laidMetH_of_parts (laidMet_of_run' 8 (by kernel_rfl) (by kernel_rfl)) (by kernel_rfl)
theorem reads (os : Os) {H : Type} (enc : TypeId × Value → H) : ∃ places, DataW.whole enc Tryz.prog ((laidWorld os).forCall (fun _ _ => 0) ⟨#[], wArgs, []⟩).memory Tryz.f3.params.toList Rows.bookPlaysSpec.vars false wArgs.toList 8 = some ([.nil, .nil, .nil, .lit (.int .i64 0), .nil], [], places) :=
  ⟨[], by kernel_rfl⟩

set_option maxRecDepth 100000 in
theorem lifted (os : Os) (started : os.Started) (H : Type) (enc : TypeId × Value → H) (F : Stop.Interp) :
    ReturnsInHanded {} Tryz.checked os 3 .any ((OpenSpec.ofChange Rows.bookPlaysSpec).preRow enc Tryz.prog Tryz.f3 Rows.bookPlaysRow.domain false Rows.bookPlaysRow.laid) (((OpenSpec.ofChange Rows.bookPlaysSpec).at F).post enc Tryz.prog Tryz.f3 false true false false) := by
  obtain ⟨places, hx⟩ := reads os enc
  refine returnsInHanded_of_row (C := Tryz.checked) (s := OpenSpec.ofChange Rows.bookPlaysSpec) own started (by kernel_rfl) Tryz.func3
    (witness_row_at (enc := enc) (C := Tryz.checked) false (laidWorld os) wArgs rfl (by kernel_rfl) (by kernel_rfl) (by kernel_rfl)
      (OpenSpec.preRow_of_cond 8 hx (by kernel_rfl) (fun k hk => by cases hk) (by kernel_rfl) (laid_met os))) ?_
  intro W base args ds gs before hval hW _ _ _ hL _ _
  refine (contract W base args ds gs before hval hW hL).mono fun e W' ⟨he, hG⟩ => ?_
  subst he
  exact ⟨_, rfl, law_post rfl (by kernel_rfl) (show Tryz.f3.resultTypes = #[4] from by kernel_rfl) Tryz.underlying4 (fun ds hds => by
    rw [Tryz.params3] at hds
    match ds, hds with
    | [_, _, _, _, _], _ => rfl) hW hG⟩

theorem said : Rows.BookPlaysSaid :=
  OpenClaim.holds_of_cond 3 Tryz.f3 rfl rfl rfl rfl rfl rfl rfl ⟨rfl, rfl, rfl, rfl, rfl⟩ rfl rfl rfl rfl rfl (by kernel_rfl) Tryz.func3 (by kernel_rfl)
    (of_decide_eq_true (by kernel_rfl)) (by unfold Func.isWrapper; first | (rw [if_pos (by decide +kernel)]; kernel_rfl) | (rw [if_neg (by decide +kernel)]; exact ⟨rfl, rfl⟩))
    (fun os started H enc _ F => by rw [OpenClaim.pre_eq_preRow]; exact lifted os started H enc F)

/-- No parameter wants a stand-in; the program's own looks are as the card has it. -/
theorem plain (f : FuncId) (fn : Func) (hf : Tryz.pinned.checked.prog.funcNamed "millrace/millracelaw.BookPlays" = some f) (hfn : Tryz.pinned.checked.prog.funcs[f]? = some fn) :
    true = Tryz.pinned.checked.prog.looks [] ∧ ∀ (j : Nat) t, fn.params[j]? = some t → Tryz.pinned.checked.prog.wantsStandIn t = false := by
  obtain rfl : f = 3 := Option.some.inj ((show Tryz.prog.funcNamed "millrace/millracelaw.BookPlays" = some 3 by kernel_rfl).symm.trans hf) |>.symm
  obtain rfl : fn = Tryz.f3 := (Option.some.inj (Tryz.func3.symm.trans hfn)).symm
  refine ⟨by kernel_rfl, fun j t ht => ?_⟩
  have hall : Tryz.f3.params.all (fun t => !Tryz.prog.wantsStandIn t) = true := by kernel_rfl
  have := Array.all_eq_true'.1 hall t (Array.mem_of_getElem? ht)
  have h2 : Tryz.prog.wantsStandIn t = false := by simpa using this
  exact h2

/-- The card. -/
theorem card : Rows.BookPlaysCardSaid :=
  Claim7.holds_tied_plain_at .later [] _ _ _ _ said (fun _ h => by cases h) (by kernel_rfl) (fun _ h => by cases h) bookPlays_row_tie rfl ⟨rfl, rfl⟩ (by kernel_rfl) rfl plain (by kernel_rfl)
end Go.Proofs.YticifnegoacopaaGreatDoor.bookPlays

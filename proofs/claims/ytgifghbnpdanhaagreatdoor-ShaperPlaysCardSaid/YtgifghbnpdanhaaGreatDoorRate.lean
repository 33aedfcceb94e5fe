/-
  Rates: which may be (millraceref.RateCheck, item.Speed); a rate that came in.
-/
import Derived.Test.YtgifghbnpdanhaaGreatDoorFrameP
import Derived.Test.YtgifghbnpdanhaaGreatDoorShaperPlaysPart5
import Derived.BigGuardPart
namespace Go.Proofs.YtgifghbnpdanhaaGreatDoor
open Go.ChangeShapes Go.WideShapes Go.ChangeAt Go.RowKit Go.Deep

theorem rec_rate : IntRec 23 2 := ⟨by kernel_rfl, _, Tryz.underlying23, rfl, fun j hj => by
  match j, hj with
  | 0, _ => exact ⟨_, rfl, rfl, rfl⟩
  | 1, _ => exact ⟨_, rfl, rfl, rfl⟩⟩
set_option maxRecDepth 100000 in
theorem rate_of_trod {H : Type} {enc : TypeId × Value → H} {W : World} {base : Nat} {v : Value} {d : DataW H} {ps : List MemPlace} (hok : Value.okWide Tryz.prog W .any base 23 v) (h : DataW.Trod enc Tryz.prog W 0 (fun _ => true) true 23 v d ps) :
    ∃ b t : Int, v = .agg #[.int .i64 b, .int .i64 t] ∧ Bd b ∧ Bd t := by
  obtain ⟨cs, rfl, _⟩ := okWide_struct Tryz.underlying23 hok
  obtain ⟨fuel, hf⟩ := h
  obtain ⟨F, hl, hF⟩ := rec_of_cells rec_rate (show DataW.trod enc Tryz.prog W 0 (fun _ => true) true fuel 23 cs.toList = some _ from hf)
  obtain ⟨l⟩ := cs
  match l, hl with
  | [c0, c1], _ =>
    have h0 := hF 0 (by omega)
    have h1 := hF 1 (by omega)
    simp at h0 h1
    obtain ⟨rfl, b0⟩ := h0
    obtain ⟨rfl, b1⟩ := h1
    exact ⟨_, _, rfl, b0, b1⟩

/-- A rate that may be. -/
def RateIn (b t : Int) : Prop := (1 ≤ b ∧ b ≤ 1000000) ∧ (1 ≤ t ∧ t ≤ 1000000)
/-- What is wrong with a rate. -/
noncomputable def ckRate (b t : Int) : Int := @ite _ (RateIn b t) (Classical.propDecidable _) 0 2
theorem ckRate_ok {b t : Int} (h : RateIn b t) : ckRate b t = 0 := by unfold ckRate; rw [if_pos h]
theorem ckRate_no {b t : Int} (h : ¬ RateIn b t) : ckRate b t = 2 := by unfold ckRate; rw [if_neg h]

set_option maxRecDepth 100000 in
set_option maxHeartbeats 4000000 in
theorem rateCheck_any (b t : Int) (w : World) : Calls Tryz.prog 22 #[.agg #[.int .i64 b, .int .i64 t]] w fun e w' => e = .returned (.int .i64 (ckRate b t)) ∧ Gr w w' := by
  have HG := Lib.hid ((Gr.refl w).alloc (.cells #[.int .i64 b, .int .i64 t] 23))
  by_cases h1 : 1 ≤ b ∧ b ≤ 1000000
  · by_cases h2 : 1 ≤ t ∧ t ≤ 1000000
    · have HC := Lib.hid (ckRate_ok ⟨h1, h2⟩)
      have H1 := Lib.hid h1
      have H2 := Lib.hid h2
      clear h1 h2
      have tok1 := trivial
      go_enter Tryz.func22, Tryz.ntmps22
      go_wp2_with (first
        | (go_at_call 23; have _ := tok1; refine (within_yes _ _ _ _ H1.out.1 H1.out.2).mono ?_; rintro e w' ⟨rfl, rfl⟩; clear tok1; have tok2 := trivial)
        | (go_at_call 23; have _ := tok2; refine (within_yes _ _ _ _ H2.out.1 H2.out.2).mono ?_; rintro e w' ⟨rfl, rfl⟩; clear tok2))
      go_ret
      exact ⟨by rw [HC.out]; rfl, HG.out⟩
    · have HC := Lib.hid (ckRate_no (b := b) (t := t) (fun h => h2 h.2))
      have H1 := Lib.hid h1
      have H2 := Lib.hid (show t < 1 ∨ 1000000 < t by omega)
      clear h1 h2
      have tok1 := trivial
      go_enter Tryz.func22, Tryz.ntmps22
      go_wp2_with (first
        | (go_at_call 23; have _ := tok1; refine (within_yes _ _ _ _ H1.out.1 H1.out.2).mono ?_; rintro e w' ⟨rfl, rfl⟩; clear tok1; have tok2 := trivial)
        | (go_at_call 23; have _ := tok2; refine (within_no _ _ _ _ H2.out).mono ?_; rintro e w' ⟨rfl, rfl⟩; clear tok2))
      go_ret
      exact ⟨by rw [HC.out]; rfl, HG.out⟩
  · have HC := Lib.hid (ckRate_no (b := b) (t := t) (fun h => h1 h.1))
    have H1 := Lib.hid (show b < 1 ∨ 1000000 < b by omega)
    clear h1
    go_enter Tryz.func22, Tryz.ntmps22
    go_wp2_with (go_at_call 23; refine (within_no _ _ _ _ H1.out).mono ?_; rintro e w' ⟨rfl, rfl⟩)
    go_ret
    exact ⟨by rw [HC.out]; rfl, HG.out⟩

set_option maxRecDepth 100000 in
set_option maxHeartbeats 4000000 in
theorem speed_check (b t : Int) (w : World) (hb : Bd b) (ht : Bd t) : Calls Tryz.prog 35 #[.agg #[.int .i64 b, .int .i64 t]] w fun e w' => e = .returned (errV (ckRate b t)) ∧ Gr w w' := by
  have HG := Lib.hid ((Gr.refl w).alloc (.cells #[.int .i64 b, .int .i64 t] 23))
  have x1 := hb.1
  have x2 := hb.2
  have x3 := ht.1
  have x4 := ht.2
  clear hb ht
  by_cases h : RateIn b t
  · have HC : Hid (errV (ckRate b t) = .nilIface) := Lib.hid (errV_zero (ckRate_ok h))
    obtain ⟨⟨y1, y2⟩, y3, y4⟩ := h
    go_enter Tryz.func35, Tryz.ntmps35
    go_wp2
    all_goals (try (exfalso; omega))
    go_ret
    exact ⟨by rw [HC.out]; rfl, HG.out⟩
  · have HC : Hid (errV (ckRate b t) = .iface 33 (.int .i64 2)) := Lib.hid (by rw [ckRate_no h]; exact errV_ne (by decide))
    have hh : b < 1 ∨ 1000000 < b ∨ t < 1 ∨ 1000000 < t := by unfold RateIn at h; omega
    clear h
    go_enter Tryz.func35, Tryz.ntmps35
    go_wp2
    all_goals (try (exfalso; omega))
    all_goals
      go_ret
      exact ⟨by rw [HC.out]; rfl, HG.out⟩
end Go.Proofs.YtgifghbnpdanhaaGreatDoor

/-
  The law ScedMakes where flows may not be.
-/
import Derived.Test.YtfdmmfjheiiiiaaDoorSmL
import Derived.Test.YtfdmmfjheiiiiaaDoorSmM
namespace Go.Proofs.YtfdmmfjheiiiiaaDoor
open Go.RowKit Go.Extern.Stop Go.Stop Go.Extern

set_option maxRecDepth 100000 in
set_option maxHeartbeats 8000000 in
theorem scedMakes_flows (w : World) (hg : Glob w) {v : Value} {n : Nat} {F : Nat → Flw} (hF : Flows w v n F) (hn : n * 48 ≤ 140737488351232) (T : Int) (hc : scCk F n ≠ 0) :
    Calls Tryd.prog 3 #[v, .int .i64 T] w fun e w' => e = .returned (.bool true) ∧ Gr w w' := by
  obtain ⟨la, lc, rfl, hl, _, _⟩ := id hF
  have HFL := Lib.hid (flows_any w hF hn)
  have HF := Lib.hid hF
  have HGL := Lib.hid hg
  obtain ⟨c, hcc⟩ : ∃ c, c = scCk F n := ⟨_, rfl⟩
  have HC := Lib.hid hcc
  have c0 : ¬ c = 0 := by rw [hcc]; exact hc
  have HC0 := Lib.hid hc
  have HEV : Hid (errV c = .iface 26 (.int .i64 c)) := Lib.hid (errV_ne c0)
  clear hF hn hg hcc hc
  go_enter Tryd.func3, Tryd.ntmps3
  go_upto_region 2 with (go_at_call 4; refine HFL.out.mono ?_; rintro e w1 ⟨r, b, rfl, ⟨bb, rfl⟩, hr, hg1⟩; have HR := Lib.hid hr; have HG1 := Lib.hid hg1; obtain ⟨ra, rc, er, hrl, _, _⟩ := id hr; subst er; clear hr hg1)
  cases bb with
  | false =>
    go_wp2
    go_ret
    exact ⟨rfl, HG1.out⟩
  | true =>
    have HRC : Hid (Calls Tryd.prog 5 #[.slice ra n rc] w1 fun e w' => e = .returned (.int .i64 c) ∧ Gr w1 w') := Lib.hid (by rw [HC.out]; exact rscheck_any w1 HR.out)
    go_upto_region 5 with (go_at_call 5; refine HRC.out.mono ?_; rintro e w2 ⟨rfl, hg2⟩; have HG2 := Lib.hid (HG1.out.trans hg2); clear hg2)
    go_wp2
    go_loopw [7, 9] (fun ev s wr => ev = .int .i64 c ∧ s = .int .i64 0 ∧ wr = w2) (fun _ _ _ => 0)
    case atStart => exact ⟨rfl, rfl, rfl⟩
    case round =>
      obtain ⟨rfl, rfl, rfl⟩ := hrel
      by_cases h0 : 0 < n
      · have h1 : (0 : Int) < (n : Int) := by omega
        have HMK : Hid (Calls Tryd.prog 7 #[.slice la n lc, .int .i64 T] wr fun e w' => e = .returned (.tuple #[.agg #[.slice none 0 0, .slice none 0 0, .slice none 0 0], .iface 26 (.int .i64 c)]) ∧ Gr wr w') := Lib.hid (by have h := make_flows la lc n T F wr (HF.out.gr HG2.out) HC0.out; rw [← HC.out, HEV.out] at h; exact h)
        go_wp2_with (first
          | (go_at_call 7; refine HMK.out.mono ?_; rintro e w3 ⟨rfl, hg3⟩; have HG3 := Lib.hid ((HG2.out.trans hg3).alloc (.cells #[.slice none 0 0, .slice none 0 0, .slice none 0 0] 35)); have HP3 := Lib.hid (planB_new w3); clear hg3)
          | (go_at_call 8; refine (bare_true (n := c) _ (HGL.out.gr HG3.out) (by rw [← HEV.out]; exact errV_is _ _)).mono ?_; rintro e w4 ⟨rfl, hg4⟩; have HG4 := Lib.hid (HG3.out.trans hg4); have HP4 := Lib.hid (HP3.out.gr hg4); have d0 := HP4.out.2.1 0 (by omega); have d1 := HP4.out.2.1 1 (by omega); have d2 := HP4.out.2.1 2 (by omega); clear hg4)
          | (go_at_call 9; refine (sameInts_any (xs := []) _ (.inl ⟨_, _, rfl, rfl⟩) (.inl ⟨_, _, rfl, rfl⟩)).mono ?_; rintro e w5 ⟨rfl, hg5⟩; have HG5 := Lib.hid (HG4.out.trans hg5); have HP5 := Lib.hid (HP4.out.gr hg5); have d1 := HP5.out.2.1 1 (by omega); have d2 := HP5.out.2.1 2 (by omega); clear hg5)
          | (go_at_call 10; have _ := tok1; refine (sameLists_nil _).mono ?_; rintro e w7 ⟨rfl, hg7⟩; have HG7 := Lib.hid (HG6.out.trans hg7); clear hg7 tok1)
          | (go_at_call 10; refine (sameLists_nil _).mono ?_; rintro e w6 ⟨rfl, hg6⟩; have HG6 := Lib.hid (HG5.out.trans hg6); have HP6 := Lib.hid (HP5.out.gr hg6); have d2 := HP6.out.2.1 2 (by omega); have tok1 := trivial; clear hg6))
        go_ret
        exact ⟨rfl, HG7.out⟩
      · have h1 : ¬ (0 : Int) < (n : Int) := by omega
        have HMK : Hid (Calls Tryd.prog 7 #[.slice la n lc, .int .i64 T] wr fun e w' => e = .returned (.tuple #[.agg #[.slice none 0 0, .slice none 0 0, .slice none 0 0], .iface 26 (.int .i64 c)]) ∧ Gr wr w') := Lib.hid (by have h := make_flows la lc n T F wr (HF.out.gr HG2.out) HC0.out; rw [← HC.out, HEV.out] at h; exact h)
        go_wp2_with (first
          | (go_at_call 7; refine HMK.out.mono ?_; rintro e w3 ⟨rfl, hg3⟩; have HG3 := Lib.hid ((HG2.out.trans hg3).alloc (.cells #[.slice none 0 0, .slice none 0 0, .slice none 0 0] 35)); have HP3 := Lib.hid (planB_new w3); clear hg3)
          | (go_at_call 8; refine (bare_true (n := c) _ (HGL.out.gr HG3.out) (by rw [← HEV.out]; exact errV_is _ _)).mono ?_; rintro e w4 ⟨rfl, hg4⟩; have HG4 := Lib.hid (HG3.out.trans hg4); have HP4 := Lib.hid (HP3.out.gr hg4); have d0 := HP4.out.2.1 0 (by omega); have d1 := HP4.out.2.1 1 (by omega); have d2 := HP4.out.2.1 2 (by omega); clear hg4)
          | (go_at_call 9; refine (sameInts_any (xs := []) _ (.inl ⟨_, _, rfl, rfl⟩) (.inl ⟨_, _, rfl, rfl⟩)).mono ?_; rintro e w5 ⟨rfl, hg5⟩; have HG5 := Lib.hid (HG4.out.trans hg5); have HP5 := Lib.hid (HP4.out.gr hg5); have d1 := HP5.out.2.1 1 (by omega); have d2 := HP5.out.2.1 2 (by omega); clear hg5)
          | (go_at_call 10; have _ := tok1; refine (sameLists_nil _).mono ?_; rintro e w7 ⟨rfl, hg7⟩; have HG7 := Lib.hid (HG6.out.trans hg7); clear hg7 tok1)
          | (go_at_call 10; refine (sameLists_nil _).mono ?_; rintro e w6 ⟨rfl, hg6⟩; have HG6 := Lib.hid (HG5.out.trans hg6); have HP6 := Lib.hid (HP5.out.gr hg6); have d2 := HP6.out.2.1 2 (by omega); have tok1 := trivial; clear hg6))
        go_ret
        exact ⟨rfl, HG7.out⟩
end Go.Proofs.YtfdmmfjheiiiiaaDoor

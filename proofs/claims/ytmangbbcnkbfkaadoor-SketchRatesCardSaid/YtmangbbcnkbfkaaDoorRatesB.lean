/-
  The law SketchRates at every input.
-/
import Derived.Test.YtmangbbcnkbfkaaDoorRatesA
namespace Go.Proofs.YtmangbbcnkbfkaaDoor
open Go.RowKit Go.Extern.Stop Go.Stop Go.Extern

set_option maxRecDepth 100000 in
set_option maxHeartbeats 4000000 in
theorem sketchRates_ok {xs : List Int} (a : Option Addr) (n cap h : Nat) (w : World) (hg : Glob w) (hh : h ≤ 10) (hn : n ≤ 100) (hx : Hid (∀ i, i < n → ckMean (xs.getD i 0) = 0))
    (hA : Hid (0 < n → ∃ b off, a = some ⟨b, off, none⟩ ∧ ∀ i, i < n → w.cell? ⟨b, off + i, none⟩ = some (.int .i64 (xs.getD i 0)))) :
    Calls Tryd.prog 3 #[.slice a n cap, .int .i64 (h : Int)] w fun e w' => e = .returned (.bool true) ∧ Gr w w' := by
  have g0 : (0 : Int) ≤ (h : Int) := by omega
  have g1 : (h : Int) ≤ 10 := by omega
  have g2 : (n : Int) ≤ 100 := by omega
  have g3 : (n : Int) ≤ 150 := by omega
  have HM := Lib.hid (fun W (g : Gr w W) => rmeans_ok (xs := xs) a n cap h W hh hn hx (fun h0 => by obtain ⟨b, off, h1, h2⟩ := hA.out h0; exact ⟨b, off, h1, fun i hi => g.cell (h2 i hi)⟩))
  have HR := Lib.hid (fun W (g : Gr w W) => rate_ok (xs := xs) a n cap h W hh hn hx (fun h0 => by obtain ⟨b, off, h1, h2⟩ := hA.out h0; exact ⟨b, off, h1, fun i hi => g.cell (h2 i hi)⟩))
  have HGL := Lib.hid hg
  have HHH := Lib.hid hh
  clear hg hh
  go_enter Tryd.func3, Tryd.ntmps3
  go_wp2
  go_loopw [5, 6] (fun e i wr => ∃ k : Nat, k ≤ n ∧ i = .int .i64 k ∧ e = .int .i64 0 ∧ Hid (w = wr)) (fun _ i _ => n - (intOf i).toNat)
  case atStart => exact ⟨0, Nat.zero_le _, rfl, rfl, rfl⟩
  case round =>
    obtain ⟨k, hk, rfl, rfl, HW⟩ := hrel
    obtain rfl := HW.out
    have i0 : (0 : Int) ≤ (k : Int) := by omega
    by_cases hlt : k < n
    · obtain ⟨b, off, rfl, hA2⟩ := hA.out (by omega)
      have c0 := hA2 k hlt
      have hnj := ckMean_zero (hx.out k hlt)
      have i1 : (k : Int) < (n : Int) := by omega
      clear hA2
      generalize xs.getD k 0 = x at c0 hnj
      go_wp2
      go_roundw
      case rel => exact ⟨k + 1, by omega, by go_num, rfl, trivial⟩
      case measure => simp [intOf]; omega
    · obtain rfl : k = n := by omega
      go_wp2_with (first
        | (go_at_call 7; refine (HM.out _ (Gr.refl _)).mono ?_; rintro e w1 ⟨r1, rfl, hr1, hg1⟩; have HR1 := Lib.hid hr1; have HG1 := Lib.hid hg1; clear hr1 hg1)
        | (go_at_call 8; refine (HR.out _ HG1.out).mono ?_; rintro e w2 ⟨r2, rfl, hr2, hg2⟩; have HR2 := Lib.hid hr2; have HG2 := Lib.hid hg2; clear hr2 hg2)
        | (go_at_call 9; refine (bare_true _ ((HGL.out.gr HG1.out).gr HG2.out) (ErrIs.nil _)).mono ?_; rintro e w3 ⟨rfl, hg3⟩; have HG3 := Lib.hid hg3; clear hg3)
        | (go_at_call 10; refine (sameInts_any _ (HR2.out.gr HG3.out) ((HR1.out.gr HG2.out).gr HG3.out)).mono ?_; rintro e w4 ⟨rfl, hg4⟩; have HG4 := Lib.hid hg4; clear hg4))
      go_ret
      exact ⟨rfl, ((HG1.out.trans HG2.out).trans HG3.out).trans HG4.out⟩

set_option maxRecDepth 100000 in
set_option maxHeartbeats 4000000 in
theorem sketchRates_low (a : Option Addr) (n cap : Nat) (h : Int) (hh : -9223372036854775808 ≤ h ∧ h < 0) (hn : n ≤ 150) (w : World) (hg : Glob w) :
    Calls Tryd.prog 3 #[.slice a n cap, .int .i64 h] w fun e w' => e = .returned (.bool true) ∧ Gr w w' := by
  have g3 : (n : Int) ≤ 150 := by omega
  have g4 := hh.1
  have g5 := hh.2
  have HR := Lib.hid (fun W (_ : Gr w W) => rate_range a n cap h W ⟨by omega, by omega⟩ (.inl hh.2))
  have HGL := Lib.hid hg
  clear hg hh
  go_enter Tryd.func3, Tryd.ntmps3
  go_wp2
  refine wp_loop_rounds 1 ?_
  rw [rounds_succ]
  go_wp2_with (first
    | (go_at_call 8; refine (HR.out _ (Gr.refl _)).mono ?_; rintro e w2 ⟨rfl, hg2⟩; have HG2 := Lib.hid hg2; clear hg2)
    | (go_at_call 9; refine (bare_true _ (HGL.out.gr HG2.out) (ErrIs.no _ _)).mono ?_; rintro e w3 ⟨rfl, hg3⟩; have HG3 := Lib.hid hg3; clear hg3)
    | (go_at_call 10; refine (sameInts_nil _ _ _ _ _).mono ?_; rintro e w4 ⟨rfl, hg4⟩; have HG4 := Lib.hid hg4; clear hg4))
  all_goals
    go_ret
    exact ⟨rfl, (HG2.out.trans HG3.out).trans HG4.out⟩

set_option maxRecDepth 100000 in
set_option maxHeartbeats 4000000 in
theorem sketchRates_high (a : Option Addr) (n cap : Nat) (h : Int) (hh : 10 < h ∧ h ≤ 9223372036854775807) (hn : n ≤ 150) (w : World) (hg : Glob w) :
    Calls Tryd.prog 3 #[.slice a n cap, .int .i64 h] w fun e w' => e = .returned (.bool true) ∧ Gr w w' := by
  have g3 : (n : Int) ≤ 150 := by omega
  have g4 := hh.1
  have g5 := hh.2
  have g6 : ¬ h < 0 := by omega
  have HR := Lib.hid (fun W (_ : Gr w W) => rate_range a n cap h W ⟨by omega, by omega⟩ (.inr hh.1))
  have HGL := Lib.hid hg
  clear hg hh
  go_enter Tryd.func3, Tryd.ntmps3
  go_wp2
  refine wp_loop_rounds 1 ?_
  rw [rounds_succ]
  go_wp2_with (first
    | (go_at_call 8; refine (HR.out _ (Gr.refl _)).mono ?_; rintro e w2 ⟨rfl, hg2⟩; have HG2 := Lib.hid hg2; clear hg2)
    | (go_at_call 9; refine (bare_true _ (HGL.out.gr HG2.out) (ErrIs.no _ _)).mono ?_; rintro e w3 ⟨rfl, hg3⟩; have HG3 := Lib.hid hg3; clear hg3)
    | (go_at_call 10; refine (sameInts_nil _ _ _ _ _).mono ?_; rintro e w4 ⟨rfl, hg4⟩; have HG4 := Lib.hid hg4; clear hg4))
  all_goals
    go_ret
    exact ⟨rfl, (HG2.out.trans HG3.out).trans HG4.out⟩

set_option maxRecDepth 100000 in
set_option maxHeartbeats 4000000 in
theorem sketchRates_long (a : Option Addr) (n cap : Nat) (h : Nat) (hh : h ≤ 10) (hn : 100 < n) (hm : n ≤ 150) (w : World) (hg : Glob w) :
    Calls Tryd.prog 3 #[.slice a n cap, .int .i64 (h : Int)] w fun e w' => e = .returned (.bool true) ∧ Gr w w' := by
  have g3 : (n : Int) ≤ 150 := by omega
  have g4 : (0 : Int) ≤ (h : Int) := by omega
  have g5 : (h : Int) ≤ 10 := by omega
  have g6 : (100 : Int) < (n : Int) := by omega
  have HR := Lib.hid (fun W (_ : Gr w W) => rate_long a n cap h W hh hn hm)
  have HGL := Lib.hid hg
  clear hg
  go_enter Tryd.func3, Tryd.ntmps3
  go_wp2
  refine wp_loop_rounds 1 ?_
  rw [rounds_succ]
  go_wp2_with (first
    | (go_at_call 8; refine (HR.out _ (Gr.refl _)).mono ?_; rintro e w2 ⟨rfl, hg2⟩; have HG2 := Lib.hid hg2; clear hg2)
    | (go_at_call 9; refine (bare_true _ (HGL.out.gr HG2.out) (ErrIs.no _ _)).mono ?_; rintro e w3 ⟨rfl, hg3⟩; have HG3 := Lib.hid hg3; clear hg3)
    | (go_at_call 10; refine (sameInts_nil _ _ _ _ _).mono ?_; rintro e w4 ⟨rfl, hg4⟩; have HG4 := Lib.hid hg4; clear hg4))
  all_goals
    go_ret
    exact ⟨rfl, (HG2.out.trans HG3.out).trans HG4.out⟩

set_option maxRecDepth 100000 in
set_option maxHeartbeats 4000000 in
theorem sketchRates_bad {xs : List Int} (a : Option Addr) (n cap h q : Nat) (w : World) (hg : Glob w) (hh : h ≤ 10) (hn : n ≤ 100) (hqn : q < n) (hx : Hid (∀ i, i < q → ckMean (xs.getD i 0) = 0)) (hxq : ckMean (xs.getD q 0) ≠ 0) (hb : Hid (∀ i, i < n → Bd (xs.getD i 0)))
    (hA : Hid (0 < n → ∃ b off, a = some ⟨b, off, none⟩ ∧ ∀ i, i < n → w.cell? ⟨b, off + i, none⟩ = some (.int .i64 (xs.getD i 0)))) :
    Calls Tryd.prog 3 #[.slice a n cap, .int .i64 (h : Int)] w fun e w' => e = .returned (.bool true) ∧ Gr w w' := by
  have g0 : (0 : Int) ≤ (h : Int) := by omega
  have g1 : (h : Int) ≤ 10 := by omega
  have g2 : (n : Int) ≤ 100 := by omega
  have g3 : (n : Int) ≤ 150 := by omega
  have HR := Lib.hid (fun W (g : Gr w W) => rate_bad (xs := xs) a n cap h q W hh hn hqn hx hxq hb (fun h0 => by obtain ⟨b, off, h1, h2⟩ := hA.out h0; exact ⟨b, off, h1, fun i hi => g.cell (h2 i hi)⟩))
  have HGL := Lib.hid hg
  have HHH := Lib.hid hh
  have HXQ := Lib.hid hxq
  clear hg hh hxq
  go_enter Tryd.func3, Tryd.ntmps3
  go_wp2
  go_loopw [5, 6] (fun e i wr => ∃ k : Nat, i = .int .i64 k ∧ (k ≤ q ∧ e = .int .i64 0 ∨ k = q + 1 ∧ e = .int .i64 2) ∧ Hid (w = wr)) (fun _ i _ => n - (intOf i).toNat)
  case atStart => exact ⟨0, rfl, .inl ⟨Nat.zero_le _, rfl⟩, rfl⟩
  case round =>
    obtain ⟨k, rfl, hk, HW⟩ := hrel
    obtain rfl := HW.out
    have i0 : (0 : Int) ≤ (k : Int) := by omega
    rcases hk with ⟨hk, rfl⟩ | ⟨rfl, rfl⟩
    · have i1 : (k : Int) < (n : Int) := by omega
      obtain ⟨b, off, rfl, hA2⟩ := hA.out (by omega)
      have c0 := hA2 k (by omega)
      have hbk := hb.out k (by omega)
      have hbl := hbk.1
      have hbr := hbk.2
      clear hA2 hbk
      by_cases hlt : k < q
      · have hnj := ckMean_zero (hx.out k hlt)
        clear hbl hbr
        generalize xs.getD k 0 = x at c0 hnj
        go_wp2
        go_roundw
        case rel => exact ⟨k + 1, by go_num, .inl ⟨by omega, rfl⟩, trivial⟩
        case measure => simp [intOf]; omega
      · obtain rfl : k = q := by omega
        have hno : xs.getD k 0 < 0 ∨ 1000000 < xs.getD k 0 := Classical.byContradiction fun hh => HXQ.out (ckMean_ok (by omega))
        generalize xs.getD k 0 = x at c0 hno hbl hbr
        rcases hno with hno | hno
        · go_wp2
          go_roundw
          case rel => exact ⟨k + 1, by go_num, .inr ⟨rfl, rfl⟩, trivial⟩
          case measure => simp [intOf]; omega
        · have hno2 : ¬ x < 0 := by omega
          go_wp2
          go_roundw
          case rel => exact ⟨k + 1, by go_num, .inr ⟨rfl, rfl⟩, trivial⟩
          case measure => simp [intOf]; omega
    · have i1 : ((q + 1 : Nat) : Int) ≤ (n : Int) := by omega
      have hlast : ((q + 1 : Nat) : Int) < (n : Int) ∨ ((q + 1 : Nat) : Int) = (n : Int) := by omega
      generalize ((q + 1 : Nat) : Int) = qq at *
      rcases hlast with hlast | hlast
      · go_wp2_with (first
        | (go_at_call 8; refine (HR.out _ (Gr.refl _)).mono ?_; rintro e w2 ⟨rfl, hg2⟩; have HG2 := Lib.hid hg2; clear hg2)
        | (go_at_call 9; refine (bare_true _ (HGL.out.gr HG2.out) (ErrIs.no _ _)).mono ?_; rintro e w3 ⟨rfl, hg3⟩; have HG3 := Lib.hid hg3; clear hg3)
        | (go_at_call 10; refine (sameInts_nil _ _ _ _ _).mono ?_; rintro e w4 ⟨rfl, hg4⟩; have HG4 := Lib.hid hg4; clear hg4))
        go_ret
        exact ⟨rfl, (HG2.out.trans HG3.out).trans HG4.out⟩
      · go_wp2_with (first
        | (go_at_call 8; refine (HR.out _ (Gr.refl _)).mono ?_; rintro e w2 ⟨rfl, hg2⟩; have HG2 := Lib.hid hg2; clear hg2)
        | (go_at_call 9; refine (bare_true _ (HGL.out.gr HG2.out) (ErrIs.no _ _)).mono ?_; rintro e w3 ⟨rfl, hg3⟩; have HG3 := Lib.hid hg3; clear hg3)
        | (go_at_call 10; refine (sameInts_nil _ _ _ _ _).mono ?_; rintro e w4 ⟨rfl, hg4⟩; have HG4 := Lib.hid hg4; clear hg4))
        go_ret
        exact ⟨rfl, (HG2.out.trans HG3.out).trans HG4.out⟩

theorem first_bad {f : Nat → Int} (n : Nat) : (∀ i, i < n → f i = 0) ∨ ∃ q, q < n ∧ (∀ i, i < q → f i = 0) ∧ f q ≠ 0 := by
  induction n with
  | zero => exact .inl fun i hi => absurd hi (by omega)
  | succ n ih =>
    rcases ih with ih | ⟨q, h1, h2, h3⟩
    · by_cases h : f n = 0
      · exact .inl (okTo_succ ih h)
      · exact .inr ⟨n, by omega, ih, h⟩
    · exact .inr ⟨q, by omega, h2, h3⟩

set_option maxRecDepth 100000 in
set_option maxHeartbeats 4000000 in
theorem sketchRates_walk (w : World) (hg : Glob w) {v : Value} {xs : List Int} (hx : Ints w v xs) (hb : ∀ x ∈ xs, -9223372036854775808 ≤ x ∧ x ≤ 9223372036854775807) (h : Int) (h1 : -9223372036854775808 ≤ h) (h2 : h ≤ 9223372036854775807) :
    Calls Tryd.prog 3 #[v, .int .i64 h] w fun e w' => e = .returned (.bool true) ∧ Gr w w' := by
  obtain ⟨a, cap, rfl⟩ := ints_shape hx
  have hl := hx.len
  have hA := Lib.hid (ints_any hx)
  have hB := Lib.hid (show ∀ i, i < xs.length → Bd (xs.getD i 0) from fun i hi => hb _ (by simp [List.getD_eq_getElem?_getD, hi]))
  by_cases hn : xs.length ≤ 150
  · by_cases l1 : h < 0
    · exact sketchRates_low a _ cap h ⟨h1, l1⟩ hn w hg
    · by_cases l2 : 10 < h
      · exact sketchRates_high a _ cap h ⟨l2, h2⟩ hn w hg
      · obtain ⟨h, rfl⟩ := Int.eq_ofNat_of_zero_le (show 0 ≤ h by omega)
        by_cases l3 : xs.length ≤ 100
        · rcases first_bad (f := fun i => ckMean (xs.getD i 0)) xs.length with hk | ⟨q, q1, q2, q3⟩
          · exact sketchRates_ok a _ cap h w hg (by omega) l3 hk hA
          · exact sketchRates_bad a _ cap h q w hg (by omega) l3 q1 q2 q3 hB hA
        · exact sketchRates_long a _ cap h (by omega) (by omega) hn w hg
  · have hgn : (150 : Int) < (xs.length : Int) := by omega
    clear hx hb hA hB hn
    generalize xs.length = n at *
    go_enter Tryd.func3, Tryd.ntmps3
    go_wp2
    go_ret
    exact ⟨rfl, Gr.refl _⟩
end Go.Proofs.YtmangbbcnkbfkaaDoor

/-
  The law SketchTops at every input.
-/
import Derived.Test.YtcfajegdlaeekaaDoorTopK
import Derived.Test.YtcfajegdlaeekaaDoorTopV
import Derived.Test.YtcfajegdlaeekaaDoorErr
namespace Go.Proofs.YtcfajegdlaeekaaDoor
open Go Go.RowKit Go.Maps

set_option maxRecDepth 100000 in
set_option maxHeartbeats 1000000 in
theorem top_no (kv : Value) (c : Int) (w : World) (c1 : -9223372036854775808 ≤ c) (c2 : c ≤ 9223372036854775807) (h : c < 1 ∨ 100 < c) :
    Calls Tryd.prog 5 #[kv, .int .i64 c] w fun e w' => e = .returned (.tuple #[.slice none 0 0, .iface 24 (.int .i64 2)]) ∧ w' = w := by
  go_enter Tryd.func5, Tryd.ntmps5
  go_wp2
  all_goals (try (exfalso; omega))
  all_goals exact bodyPost_ret (v := .tuple #[_, _]) (by simp [results, Tryd.results5, go_sem]) rfl ⟨rfl, rfl⟩

set_option maxRecDepth 100000 in
set_option maxHeartbeats 4000000 in
theorem sketchTops_walk (w : World) (hg : Glob w) {v : Value} {xs : List Int} (hx : Ints w v xs) (hb : ∀ x ∈ xs, -9223372036854775808 ≤ x ∧ x ≤ 9223372036854775807) (c : Int) (c1 : -9223372036854775808 ≤ c) (c2 : c ≤ 9223372036854775807) :
    Calls Tryd.prog 3 #[v, .int .i64 c] w fun e w' => e = .returned (.bool true) ∧ Gr w w' := by
  have HGL := Lib.hid hg
  have HK := Lib.hid hx
  have HB : Hid (∀ x ∈ xs, Bd x) := Lib.hid hb
  have HLM := Lib.hid hx.len
  obtain ⟨ka, kc, rfl⟩ := ints_shape hx
  clear hx hb hg
  by_cases hl : xs.length ≤ 200
  · obtain ⟨n, hn⟩ : ∃ n, n = xs.length := ⟨_, rfl⟩
    have hln : n ≤ 200 := by rw [hn]; exact hl
    have HLL := Lib.hid hl
    clear hl HLM
    have HTN := Lib.hid (fun W (_ : Gr w W) (h : c < 1 ∨ 100 < c) => top_no (.slice ka xs.length kc) c W c1 c2 h)
    have HTY := Lib.hid (fun W (g : Gr w W) (h1 : 1 ≤ c) (h2 : c ≤ 100) => top_any (HK.out.gr g) HB.out HLL.out h1 h2)
    have HTR := Lib.hid (fun W (g : Gr w W) (h1 : 1 ≤ c) (h2 : c ≤ 100) => rtop_any (HK.out.gr g) HB.out HLL.out h1 h2)
    have HEX := Lib.hid (fun W (g : Gr w W) => exact_any (HK.out.gr g) HB.out HLL.out)
    rw [← hn] at HTN HTY HTR HEX ⊢
    have HN := Lib.hid hn
    clear hn
    have HM0 := Lib.hid (CMap.made w)
    have hmm := @run_makeMap Tryd.prog
    go_enter Tryd.func3, Tryd.ntmps3
    go_wp2
    all_goals (try (exfalso; omega))
    obtain ⟨b, hb⟩ : ∃ b, b = w.heap.size := ⟨_, rfl⟩
    rw [← hb] at HM0 ⊢
    have HBB := Lib.hid hb
    clear hb
    go_loopw [6] (fun s wr => ∃ i : Nat, i ≤ n ∧ s = .int .i64 (i : Int) ∧ Hid (CMap wr b i (cntF xs i)) ∧ Hid (Gr w wr)) (fun s _ => n - (intOf s).toNat)
    case atStart => exact ⟨0, Nat.zero_le _, rfl, HM0, Lib.hid ((Gr.refl w).alloc _)⟩
    case round =>
      obtain ⟨i, hi, rfl, HC, HG⟩ := hrel
      by_cases hlt : i < n
      · have hlk : i < xs.length := by rw [← HN.out]; exact hlt
        obtain ⟨kb, ko, kc', e, hcell⟩ := ints_cells HK.out (by omega)
        cases e
        have c0 := HG.out.cell (hcell.out i hlk)
        have HX := Lib.hid (HB.out _ (getD_mem hlk))
        have HF := Lib.hid (cntF_in xs i (xs.getD i 0))
        have HS : Hid (cntF xs (i + 1) = bump (cntF xs i) (xs.getD i 0)) := Lib.hid rfl
        clear HTN HTY HTR HEX
        generalize cntF xs i = f at *
        generalize xs.getD i 0 = x at *
        have i0 : (0 : Int) ≤ (i : Int) := by omega
        have i1 : (i : Int) < (n : Int) := by omega
        have HW : Hid (wrap64 (f x + 1) = f x + 1) := Lib.hid (by have := HF.out; unfold wrap64; omega)
        clear hcell hlk
        go_wp2_with (first
          | (at_lookup; refine wpList_look_mapI (by rfl) _ _ (by rfl) b i f (has_ f) (by rfl) HC.out x (by rfl) HX.out ?_)
          | (at_mapUpdate; rw [HW.out]; (refine wpList_set_mapI (by rfl) _ _ _ (by rfl) b i f (has_ f) (by rfl) HC.out (by omega) x (f x + 1) (by rfl) (by rfl) HX.out (by have := HF.out; unfold Bd; omega) ?_); intro w2 hm2 _ hs2; have HM2 := Lib.hid (CMap.bump hm2 HF.out.1); have HG2 := Lib.hid (hs2.gr HG.out (fun q e => by rw [e, HBB.out]; exact Nat.le_refl _)); clear hm2 hs2)
          | go_in)
        go_roundw
        case rel => exact ⟨i + 1, by omega, by go_num, by rw [HS.out]; exact HM2, HG2⟩
        case measure => simp [intOf]; omega
      · obtain rfl : i = n := by omega
        have HNN := HLL
        clear HK HB HLL HBB hmm
        by_cases n1 : c < 1
        · have HNO := Lib.hid (HTN.out)
          go_wp2_with (first
            | (go_at_call 5; refine (HNO.out _ HG.out (by omega)).mono ?_; rintro e w2 ⟨rfl, hww⟩; replace hww := hww.symm; subst hww)
            | (go_at_call 6; refine (bare_true _ (HGL.out.gr HG.out) (ErrIs.no _ _)).mono ?_; rintro e w3 ⟨rfl, g3⟩; have HP3 := Lib.hid (PRow.nil 44 w3); have HQ3 := Lib.hid (PRow.nil 45 w3); have HL2 : Hid (([] : List (Int × Int)).length ≤ 1000) := Lib.hid (by simp); have HT3 := Lib.hid (HG.out.trans g3); have HC3 := Lib.hid (MapI.gr HC.out g3); clear g3)
            | (go_at_call 7; have _ := tok1; refine (samePairs_any HP5.out HQ6.out HL5.out).mono ?_; rintro e w7 ⟨rfl, g7⟩; have HT7 := Lib.hid (HT6.out.trans g7); clear g7)
            | (go_at_call 7; refine (samePairs_any HP3.out HQ3.out HL2.out).mono ?_; rintro e w4 ⟨rfl, g4⟩; have HT4 := Lib.hid (HT3.out.trans g4); have HC4 := Lib.hid (MapI.gr HC3.out g4); have tok1 := trivial; clear g4)
            | (go_at_call 8; refine (HEX.out _ HT4.out).mono ?_; rintro e w5 ⟨v5, L5, rfl, q1, q2, q3, g5⟩; have HE5 := Lib.hid (And.intro q1 (And.intro q2 q3)); have HT5 := Lib.hid (HT4.out.trans g5); have HC5 := Lib.hid (MapI.gr HC4.out g5); clear q1 q2 q3 g5)
            | (go_at_call 9; refine (rsorted_any b i (cntF xs i) _ HC5.out (by omega)).mono ?_; rintro e w6 ⟨v6, L6, rfl, q1, q2, q3, g6⟩; obtain rfl : L6 = L5 := q2.uniq HE5.out.2.1; have HQ6 := Lib.hid q1; have HL5 := Lib.hid q3; have HP5 := Lib.hid (HE5.out.1.gr g6); have HT6 := Lib.hid (HT5.out.trans g6); clear q1 q2 q3 g6))
          go_ret
          exact ⟨rfl, HT7.out⟩
        · by_cases n2 : 100 < c
          · have HNO := Lib.hid (HTN.out)
            go_wp2_with (first
              | (go_at_call 5; refine (HNO.out _ HG.out (by omega)).mono ?_; rintro e w2 ⟨rfl, hww⟩; replace hww := hww.symm; subst hww)
              | (go_at_call 6; refine (bare_true _ (HGL.out.gr HG.out) (ErrIs.no _ _)).mono ?_; rintro e w3 ⟨rfl, g3⟩; have HP3 := Lib.hid (PRow.nil 44 w3); have HQ3 := Lib.hid (PRow.nil 45 w3); have HL2 : Hid (([] : List (Int × Int)).length ≤ 1000) := Lib.hid (by simp); have HT3 := Lib.hid (HG.out.trans g3); have HC3 := Lib.hid (MapI.gr HC.out g3); clear g3)
              | (go_at_call 7; have _ := tok1; refine (samePairs_any HP5.out HQ6.out HL5.out).mono ?_; rintro e w7 ⟨rfl, g7⟩; have HT7 := Lib.hid (HT6.out.trans g7); clear g7)
              | (go_at_call 7; refine (samePairs_any HP3.out HQ3.out HL2.out).mono ?_; rintro e w4 ⟨rfl, g4⟩; have HT4 := Lib.hid (HT3.out.trans g4); have HC4 := Lib.hid (MapI.gr HC3.out g4); have tok1 := trivial; clear g4)
              | (go_at_call 8; refine (HEX.out _ HT4.out).mono ?_; rintro e w5 ⟨v5, L5, rfl, q1, q2, q3, g5⟩; have HE5 := Lib.hid (And.intro q1 (And.intro q2 q3)); have HT5 := Lib.hid (HT4.out.trans g5); have HC5 := Lib.hid (MapI.gr HC4.out g5); clear q1 q2 q3 g5)
              | (go_at_call 9; refine (rsorted_any b i (cntF xs i) _ HC5.out (by omega)).mono ?_; rintro e w6 ⟨v6, L6, rfl, q1, q2, q3, g6⟩; obtain rfl : L6 = L5 := q2.uniq HE5.out.2.1; have HQ6 := Lib.hid q1; have HL5 := Lib.hid q3; have HP5 := Lib.hid (HE5.out.1.gr g6); have HT6 := Lib.hid (HT5.out.trans g6); clear q1 q2 q3 g6))
            go_ret
            exact ⟨rfl, HT7.out⟩
          · have h1 : Hid (1 ≤ c) := Lib.hid (by omega)
            have h2 : Hid (c ≤ 100) := Lib.hid (by omega)
            go_wp2_with (first
              | (go_at_call 4; refine (HTR.out _ HG.out h1.out h2.out).mono ?_; rintro e w1 ⟨v1, L1, rfl, p1, p2, p3, g1⟩; have HR := Lib.hid (And.intro p1 (And.intro p2 p3)); have HT1 := Lib.hid (HG.out.trans g1); have HC1 := Lib.hid (MapI.gr HC.out g1); clear p1 p2 p3 g1)
              | (go_at_call 5; refine (HTY.out _ HT1.out h1.out h2.out).mono ?_; rintro e w2 ⟨v2, L2, rfl, q1, q2, q3, g2⟩; obtain rfl : L2 = L1 := q2.uniq HR.out.2.1; have HP := Lib.hid q1; have HQ := Lib.hid (HR.out.1.gr g2); have HL2 := Lib.hid q3; have HT2 := Lib.hid (HT1.out.trans g2); have HC2 := Lib.hid (MapI.gr HC1.out g2); clear q1 q2 q3 g2)
              | (go_at_call 6; refine (bare_true _ (HGL.out.gr HT2.out) (ErrIs.nil _)).mono ?_; rintro e w3 ⟨rfl, g3⟩; have HP3 := Lib.hid (HP.out.gr g3); have HQ3 := Lib.hid (HQ.out.gr g3); have HT3 := Lib.hid (HT2.out.trans g3); have HC3 := Lib.hid (MapI.gr HC2.out g3); clear g3)
              | (go_at_call 7; have _ := tok1; refine (samePairs_any HP5.out HQ6.out HL5.out).mono ?_; rintro e w7 ⟨rfl, g7⟩; have HT7 := Lib.hid (HT6.out.trans g7); clear g7)
              | (go_at_call 7; refine (samePairs_any HP3.out HQ3.out HL2.out).mono ?_; rintro e w4 ⟨rfl, g4⟩; have HT4 := Lib.hid (HT3.out.trans g4); have HC4 := Lib.hid (MapI.gr HC3.out g4); have tok1 := trivial; clear g4)
              | (go_at_call 8; refine (HEX.out _ HT4.out).mono ?_; rintro e w5 ⟨v5, L5, rfl, q1, q2, q3, g5⟩; have HE5 := Lib.hid (And.intro q1 (And.intro q2 q3)); have HT5 := Lib.hid (HT4.out.trans g5); have HC5 := Lib.hid (MapI.gr HC4.out g5); clear q1 q2 q3 g5)
              | (go_at_call 9; refine (rsorted_any b i (cntF xs i) _ HC5.out (by omega)).mono ?_; rintro e w6 ⟨v6, L6, rfl, q1, q2, q3, g6⟩; obtain rfl : L6 = L5 := q2.uniq HE5.out.2.1; have HQ6 := Lib.hid q1; have HL5 := Lib.hid q3; have HP5 := Lib.hid (HE5.out.1.gr g6); have HT6 := Lib.hid (HT5.out.trans g6); clear q1 q2 q3 g6))
            go_ret
            exact ⟨rfl, HT7.out⟩
  · have hgn : (200 : Int) < (xs.length : Int) := by omega
    clear HK HB hl HGL
    have hlm := HLM.out
    clear HLM
    generalize xs.length = n at *
    go_enter Tryd.func3, Tryd.ntmps3
    go_wp2
    go_ret
    exact ⟨rfl, Gr.refl _⟩
end Go.Proofs.YtcfajegdlaeekaaDoor

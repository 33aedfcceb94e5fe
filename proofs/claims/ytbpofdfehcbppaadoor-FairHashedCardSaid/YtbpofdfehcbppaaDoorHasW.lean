/-
  millracelaw.FairHashed, walked.
-/
import Derived.Test.YtbpofdfehcbppaaDoorHasM
import Derived.Test.YtbpofdfehcbppaaDoorPlayD
import Derived.BigGuardPart
namespace Go.Proofs.YtbpofdfehcbppaaDoor
open Go.RowKit Go.Extern.Stop Go.Stop Go.Extern

theorem hashed_play (W Wn : World) {q : HasP} (hq : q.Ok) {p ob pr : Nat} (ha : HasC Wn p ob q (.slice none 0 0) (fun _ => .slice none 0 0) (fun _ => []) [] 0) (hr : RHasC Wn pr q (.slice none 0 0) (.slice none 0 0) [] []) (hg : Gr W Wn)
    (h1 : W.heap.size ≤ p) (h1' : W.heap.size ≤ ob) (h2 : W.heap.size ≤ pr) (h3 : pr ≠ p ∧ pr ≠ ob) {v : Value} {xs : List Stp} (hx : StpIn Wn v xs) (hl : xs.length ≤ 120) :
    Calls Tryd.prog 12 #[.iface 86 (.pointer (some ⟨p, 0, none⟩)), .iface 89 (.pointer (some ⟨pr, 0, none⟩)), v, .nilFunc] Wn fun e w' => e = .returned (.bool true) ∧ Gr W w' := by
  have ok0 : HasOk q ⟨[], []⟩ 0 := ⟨.nil, List.nodup_nil, (fun x hx => by cases hx), (fun x hx => by cases hx), (fun k => ⟨(fun e => by cases e), (fun e => absurd rfl e)⟩), List.nodup_nil, Nat.le_refl _⟩
  have hlo : ∀ g, HFoot p ob q (.slice none 0 0) (fun _ => .slice none 0 0) g → W.heap.size ≤ g := by
    intro g hg
    rcases hg with e | e | e | ⟨k, _, e⟩
    · rw [e]; exact h1
    · rw [e]; exact h1'
    · cases e
    · cases e
  have hlr : ∀ g, RHFoot pr (.slice none 0 0) (.slice none 0 0) g → g = pr := by
    intro g hg
    rcases hg with e | e | e
    · exact e
    · cases e
    · cases e
  refine (played_any (N0 := W.heap.size) (S := hasSide W.heap.size p ob q) (T := rhasSide W.heap.size pr q) (has_pside hq) (rhas_side hq) Wn (.slice none 0 0, fun _ => .slice none 0 0) (.slice none 0 0, .slice none 0 0) ⟨[], []⟩ ⟨⟨ha, ok0, hlo⟩, ⟨hr, ok0, fun g hg => by rw [hlr g hg]; exact h2⟩, ?_⟩ hg.size v xs hx hl .nilFunc (.inl rfl)).mono fun e w' ⟨h3, h4⟩ => ⟨h3, Sav.gr hg h4 fun q hq => hq⟩
  intro g hg hg'
  obtain rfl := hlr g hg'
  rcases hg with e | e | e | ⟨k, _, e⟩
  · exact h3.1 e
  · exact h3.2 e
  · cases e
  · cases e
set_option maxRecDepth 100000 in
set_option maxHeartbeats 4000000 in
theorem fairHashed_walk (W : World) (hg : Glob W) (lists : Int) (_ : -9223372036854775808 ≤ lists) (_ : lists ≤ 9223372036854775807) (salt : Int) (_ : -9223372036854775808 ≤ salt) (_ : salt ≤ 9223372036854775807) (room : Int) (_ : -9223372036854775808 ≤ room) (_ : room ≤ 9223372036854775807) {v : Value} {xs : List Stp} (hx : StpIn W v xs) :
    Calls Tryd.prog 8 #[.int .i64 lists, .int .i64 salt, .int .i64 room, v] W fun e W' => e = .returned (.bool true) ∧ Gr W W' := by
  have HX := Lib.hid hx
  have HGL := Lib.hid hg
  obtain ⟨sa, sc, rfl, _⟩ := hx
  clear hg
  by_cases hl : 120 < xs.length
  · go_enter Tryd.func8, Tryd.ntmps8
    go_wp2
    all_goals first
      | (exfalso; omega)
      | (go_ret; exact ⟨rfl, Gr.refl _⟩)
  · have HL := Lib.hid (show xs.length ≤ 120 by omega)
    by_cases hd : HshOk lists salt room
    · obtain ⟨q, hq1, hq2, hq3⟩ : ∃ q : HasP, lists = (q.lists : Int) ∧ salt = q.salt ∧ room = q.room := ⟨⟨lists.toNat, salt, room⟩, by have := hd.1; simp; omega, rfl, rfl⟩
      subst hq1 hq2 hq3
      have HD := Lib.hid hd
      have HQ : Hid q.Ok := Lib.hid ⟨by have := hd.1; omega, hd.2.1, hd.2.2⟩
      clear hd
      go_enter Tryd.func8, Tryd.ntmps8
      go_upto_region 9 with (first
        | (go_at_call 25; refine (hasck_ok _ _ _ _ HD.out).mono ?_; rintro e w1 ⟨rfl, rfl⟩)
        | (go_at_call 26; refine (newhas_ok q HQ.out _).mono ?_; rintro e w1 ⟨p, ob, rfl, hc, hg1, hp1, hp2⟩; have HC := Lib.hid hc; have HG1 := Lib.hid hg1; have HP := Lib.hid (And.intro hp1 hp2); clear hc hg1 hp1 hp2))
      all_goals try (exfalso; omega)
      go_upto_region 10 with fail
      obtain ⟨w2, hw2⟩ : ∃ u, u = w1.alloc (.cells #[.int .i64 (q.lists : Int), .int .i64 q.salt, .int .i64 q.room, .slice none 0 0, .slice none 0 0] 91) := ⟨_, rfl⟩
      obtain ⟨pr, hpr⟩ : ∃ u, u = w1.heap.size := ⟨_, rfl⟩
      have HR2 : Hid (RHasC w2 pr q (.slice none 0 0) (.slice none 0 0) [] []) := Lib.hid (by rw [hw2, hpr]; exact ⟨by simp, by simp, by simp, by simp, by simp, by simp, by simp, RowH.nil _ _, IntRow.nil _, (fun g hg => by cases hg), (fun e => by cases e)⟩)
      have HG2 : Hid (Gr w1 w2) := Lib.hid (by rw [hw2]; exact (Gr.refl _).alloc _)
      have HC2 := Lib.hid (HC.out.gr HG2.out)
      have HNE : Hid (pr ≠ p ∧ pr ≠ ob) := Lib.hid (by have := HC.out.lt; omega)
      have HPR : Hid (W.heap.size ≤ pr) := Lib.hid (by have := HG1.out.size; omega)
      rw [← hw2, ← hpr]
      clear hw2 hpr
      go_wp2
      go_loopw [13] (fun s13 wr => ∃ (ii : Nat), ii ≤ 16 ∧ s13 = .int .i64 (ii : Int) ∧ Hid (Gr w2 wr)) (fun s _ => 16 - (intOf s).toNat)
      case atStart => exact ⟨0, by omega, rfl, Lib.hid (Gr.refl _)⟩
      case round =>
        obtain ⟨ii, hi, rfl, HGR⟩ := hrel
        by_cases hlt : ii < 16
        · have j1 : (ii : Int) < 16 := by omega
          have HFL := Lib.hid (show 0 ≤ (ii : Int) ∧ (ii : Int) ≤ 15 by omega)
          have HC3 := Lib.hid (HC2.out.gr HGR.out)
          have HR3 := Lib.hid (HR2.out.gr HGR.out)
          go_wp2_with (first
            | (go_at_call 27; refine (where_any p ob q HQ.out (ii : Int) HFL.out _ HC3.out.c0 HC3.out.c1).mono ?_; rintro e w4 ⟨rfl, hg4⟩; have HG4 := Lib.hid hg4; clear hg4)
            | (go_at_call 28; refine (rwhere_any pr q HQ.out (ii : Int) HFL.out _ (HR3.out.gr HG4.out).c0 (HR3.out.gr HG4.out).c1).mono ?_; rintro e w5 ⟨rfl, hg5⟩; have HG5 := Lib.hid hg5; clear hg5))
          go_roundw
          case measure => simp [intOf]; omega
          case rel => exact ⟨ii + 1, by omega, by go_num, Lib.hid ((HGR.out.trans HG4.out).trans HG5.out)⟩
        · obtain rfl : ii = 16 := by omega
          have j1 : ¬ ((16 : Nat) : Int) < 16 := by omega
          have HG3 := Lib.hid ((HG1.out.trans HG2.out).trans HGR.out)
          go_wp2_with (go_at_call 12; refine (hashed_play W _ HQ.out (HC2.out.gr HGR.out) (HR2.out.gr HGR.out) HG3.out HP.out.1 HP.out.2 HPR.out HNE.out (HX.out.gr HG3.out) HL.out).mono ?_; rintro e w5 ⟨rfl, hg5⟩; have HG5 := Lib.hid hg5; clear hg5)
          go_ret
          exact ⟨rfl, HG5.out⟩
    · have HD := Lib.hid hd
      clear hd
      go_enter Tryd.func8, Tryd.ntmps8
      go_wp2_with (first
        | (go_at_call 25; refine (hasck_bad _ _ _ _ HD.out).mono ?_; rintro e w1 ⟨rfl, rfl⟩)
        | (go_at_call 26; refine (newhas_bad _ _ _ _ HD.out).mono ?_; rintro e w1 ⟨rfl, hg1⟩; have HG1 := Lib.hid hg1; clear hg1)
        | (go_at_call 11; refine (bare_true _ (HGL.out.gr HG1.out) (ErrIs.no _ _)).mono ?_; rintro e w4 ⟨rfl, hg4⟩; have HG4 := Lib.hid (HG1.out.trans hg4); clear hg4))
      all_goals first
        | (exfalso; omega)
        | (go_ret; exact ⟨rfl, HG4.out⟩)
end Go.Proofs.YtbpofdfehcbppaaDoor

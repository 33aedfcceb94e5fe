/-
  millracebig.Int: QuoRem, Uint64, Int64. millracebig: common, of what has at most two words below. millracebig.Rat: den, norm, SetFrac. millracebig.Rat: SetFrac.
-/
import Derived.Test.YtgifghbnpdanhaaGreatDoorBigI
import Derived.Test.YtgifghbnpdanhaaGreatDoorBigY
import Derived.Deep.RegionHeld3
namespace Go.Proofs.YtgifghbnpdanhaaGreatDoor
open Go.RowKit

/-- What div serves: a divisor of at most two words. -/
structure DivOk (A B : Nat) : Prop where
  pos : 0 < B
  small : A < B ∨ (A : Int) < Bp 2 ∨ ((B : Int) < Bp 2 ∧ (A : Int) < Bp 40)
theorem div_any {v v' : Value} {A B : Nat} (w : World) (h : Num w v A) (h' : Num w v' B) (k : DivOk A B) :
    Calls Tryz.prog 53 #[v, v'] w fun e w' => Gives2 (A / B) (A % B) e w' ∧ Gr w w' := by
  obtain ⟨h0, hc⟩ := k
  rcases Nat.lt_or_ge A B with h1 | h1
  · exact div_less w h h' h1
  · by_cases h2 : (A : Int) < Bp 2
    · exact div_two w h h' h0 h1 h2
    · rcases hc with hc | hc | hc
      · omega
      · exact absurd hc h2
      · by_cases h3 : B < 4294967296
        · exact div_one w h h' h0 h3 (by omega) hc.2
        · exact div_long w h h' (by omega) (by have e : Bp 2 = 18446744073709551616 := rfl; omega) (by omega) hc.2

theorem signed_quo {x y : Int} : signed (!(decide (x < 0) == decide (y < 0))) (x.natAbs / y.natAbs) = x.tdiv y := by
  unfold signed
  by_cases h1 : x < 0 <;> by_cases h2 : y < 0
  · rw [decide_eq_true h1, decide_eq_true h2]
    obtain ⟨a, rfl⟩ : ∃ a : Nat, x = -(a : Int) := ⟨x.natAbs, by omega⟩
    obtain ⟨b, rfl⟩ : ∃ b : Nat, y = -(b : Int) := ⟨y.natAbs, by omega⟩
    simp [Int.neg_tdiv, Int.tdiv_neg, Int.natCast_tdiv_eq_ediv]
  · rw [decide_eq_true h1, decide_eq_false h2]
    obtain ⟨a, rfl⟩ : ∃ a : Nat, x = -(a : Int) := ⟨x.natAbs, by omega⟩
    obtain ⟨b, rfl⟩ : ∃ b : Nat, y = (b : Int) := ⟨y.natAbs, by omega⟩
    simp [Int.neg_tdiv]
  · rw [decide_eq_false h1, decide_eq_true h2]
    obtain ⟨a, rfl⟩ : ∃ a : Nat, x = (a : Int) := ⟨x.natAbs, by omega⟩
    obtain ⟨b, rfl⟩ : ∃ b : Nat, y = -(b : Int) := ⟨y.natAbs, by omega⟩
    simp [Int.tdiv_neg]
  · rw [decide_eq_false h1, decide_eq_false h2]
    obtain ⟨a, rfl⟩ : ∃ a : Nat, x = (a : Int) := ⟨x.natAbs, by omega⟩
    obtain ⟨b, rfl⟩ : ∃ b : Nat, y = (b : Int) := ⟨y.natAbs, by omega⟩
    simp
theorem signed_rem {x y : Int} : signed (decide (x < 0)) (x.natAbs % y.natAbs) = x.tmod y := by
  unfold signed
  by_cases h1 : x < 0
  · rw [decide_eq_true h1]
    obtain ⟨a, rfl⟩ : ∃ a : Nat, x = -(a : Int) := ⟨x.natAbs, by omega⟩
    rcases Int.natAbs_eq y with e | e <;> (rw [e]; simp [Int.neg_tmod, Int.tmod_neg]; exact (Int.tmod_eq_emod_of_nonneg (by omega)).symm)
  · rw [decide_eq_false h1]
    obtain ⟨a, rfl⟩ : ∃ a : Nat, x = (a : Int) := ⟨x.natAbs, by omega⟩
    rcases Int.natAbs_eq y with e | e <;> (rw [e]; simp [Int.tmod_neg]; exact (Int.tmod_eq_emod_of_nonneg (by omega)).symm)

set_option maxRecDepth 100000 in
set_option maxHeartbeats 8000000 in
/-- z and r apart: the quotient and the rest. -/
theorem quoRem_any (p o q r s t p' o' : Nat) (x y : Int) (w : World) (hs : Slot w p o) (hs' : Slot w p' o') (hx : IntAt w q r x) (hy : IntAt w s t y) (hd : DivOk x.natAbs y.natAbs) (hne : p' ≠ p) :
    Calls Tryz.prog 139 #[.pointer (some ⟨p, o, none⟩), .pointer (some ⟨q, r, none⟩), .pointer (some ⟨s, t, none⟩), .pointer (some ⟨p', o', none⟩)] w fun e w' =>
      e = .returned (.tuple #[.pointer (some ⟨p, o, none⟩), .pointer (some ⟨p', o', none⟩)]) ∧ ∃ w1, Only p o w w1 ∧ Only p' o' w1 w' ∧ Holds w' p o (x.tdiv y) ∧ Holds w' p' o' (x.tmod y) := by
  obtain ⟨c0, a, n, c, c1, hN⟩ := hx.open
  obtain ⟨e0, a', n', c', e1, hN'⟩ := hy.open
  have H := Lib.hid hN
  have H' := Lib.hid hN'
  have HS := Lib.hid hs
  have HS' := Lib.hid hs'
  have HO := Lib.hid (signed_quo (x := x) (y := y))
  have HO2 := Lib.hid (signed_rem (x := x) (y := y))
  clear hN hs hx hy hN' hs'
  generalize decide (x < 0) = b at *
  generalize decide (y < 0) = b2 at *
  go_enter Tryz.func139, Tryz.ntmps139
  go_wp2
  go_quiet (fail)
  go_wp2
  obtain ⟨w0, hw0⟩ : ∃ w0, w0 = w.drewN nq := ⟨_, rfl⟩
  have HG0 : Hid (Gr w w0) := Lib.hid (by rw [hw0]; exact (Gr.refl w).drewN _)
  rw [← hw0]
  clear hw0
  have d0 := HG0.out.cell c0
  have d1 := HG0.out.cell c1
  have f0 := HG0.out.cell e0
  have f1 := HG0.out.cell e1
  clear c0 c1 e0 e1
  have D1 := Lib.hid d1
  have F1 := Lib.hid f1
  go_region_held3 (fun w' => w'.cell? ⟨q, r + 1, none⟩ = some (.slice a n c) ∧ w'.cell? ⟨s, t + 1, none⟩ = some (.slice a' n' c'))
    (first
      | exact ⟨((Gr.refl w0).drew.trans hg1).cell D1.out, ((Gr.refl w0).drew.trans hg1).cell F1.out⟩
      | go_keep)
    (first
      | (go_at_call 53; refine (div_any _ (H.out.gr HG0.out.drew) (H'.out.gr HG0.out.drew) hd).mono ?_; rintro e w1 ⟨⟨q', t', rfl, hq, ht⟩, hg1⟩))
  have HG1 := Lib.hid (HG0.out.drew.trans hg1)
  have HQ := Lib.hid hq
  have HT := Lib.hid ht
  clear hq ht hg1
  have tok1 := trivial
  go_wp2_with (first
    | (go_at_call 49; have _ := tok1; refine (give_any p o _ _ (HS.out.gr HG1.out) HQ.out).mono ?_; rintro e w2 ⟨rfl, hh, ho⟩; rw [HO.out] at hh; have HH := Lib.hid hh; have HON := Lib.hid ho; have HT2 := Lib.hid (HT.out.only (HS.out.gr HG1.out) ho); have HS2 := Lib.hid ((HS'.out.gr HG1.out).only ho (.inl hne)); clear hh ho tok1; have tok2 := trivial)
    | (go_at_call 49; have _ := tok2; refine (give_any p' o' _ _ HS2.out HT2.out).mono ?_; rintro e w3 ⟨rfl, hh, ho⟩; rw [HO2.out] at hh; have HH2 := Lib.hid hh; have HON2 := Lib.hid ho; have HH3 := Lib.hid (HH.out.only HS2.out ho (.inl (Ne.symm hne))); clear hh ho tok2))
  go_ret2
  exact ⟨rfl, _, (Only.of_gr HG1.out).trans HON.out, HON2.out, HH3.out, HH2.out⟩

set_option maxRecDepth 100000 in
set_option maxHeartbeats 4000000 in
theorem u64_any (q r : Nat) (x : Int) (w : World) (hx : IntAt w q r x) (b : (x.natAbs : Int) < Bp 2) :
    Calls Tryz.prog 136 #[.pointer (some ⟨q, r, none⟩)] w fun e w' => e = .returned (.int .u64 (x.natAbs : Int)) ∧ Gr w w' := by
  obtain ⟨c0, a, n, c, c1, hN⟩ := hx.open
  obtain ⟨m, f, hW, hT, hV⟩ := hN
  have hl := len_of_lt hW.w32 hT (by rw [hV]; exact b)
  have hf := hW.w32
  obtain ⟨_, _, he, hcap, hA, _⟩ := hW
  simp at he
  obtain ⟨rfl, rfl, rfl⟩ := he
  have HV := Lib.hid hV
  have HA := Lib.hid hA
  clear hV hA hT b hx hcap
  have hcases : n = 0 ∨ n = 1 ∨ n = 2 := by omega
  clear hl
  rcases hcases with rfl | rfl | rfl
  · have HR : Hid ((0 : Int) = (x.natAbs : Int)) := Lib.hid HV.out
    clear HV HA hf
    go_enter Tryz.func136, Tryz.ntmps136
    go_wp2
    go_ret
    exact ⟨by rw [← HR.out]; rfl, Gr.refl _⟩
  · obtain ⟨g, rfl, hC⟩ := HA.out (by omega)
    have d0 := hC 0 (by omega)
    have b0 := hf 0 (by omega)
    have HR : Hid (f 0 = (x.natAbs : Int)) := Lib.hid (by rw [← HV.out]; simp [V, Bp])
    clear HV HA hf hC
    go_enter Tryz.func136, Tryz.ntmps136
    go_wp2
    go_ret
    exact ⟨by rw [← HR.out]; rfl, Gr.refl _⟩
  · obtain ⟨g, rfl, hC⟩ := HA.out (by omega)
    have d0 := hC 0 (by omega)
    have d1 := hC 1 (by omega)
    have b0 := hf 0 (by omega)
    have b1 := hf 1 (by omega)
    have HR : Hid (bits BinOp.or IntKind.u64 (f 0) (f 1 * 4294967296) = (x.natAbs : Int)) := Lib.hid (by rw [← HV.out, or_word b0 b1]; simp [V, Bp])
    clear HV HA hf hC
    go_enter Tryz.func136, Tryz.ntmps136
    go_wp2
    go_ret
    exact ⟨by rw [← HR.out]; rfl, Gr.refl _⟩

set_option maxRecDepth 100000 in
set_option maxHeartbeats 4000000 in
theorem i64_any (q r : Nat) (x : Int) (w : World) (hx : IntAt w q r x) (b : x.natAbs < 9223372036854775808) :
    Calls Tryz.prog 131 #[.pointer (some ⟨q, r, none⟩)] w fun e w' => e = .returned (.int .i64 x) ∧ Gr w w' := by
  have c0 := hx.1
  have C0 := Lib.hid c0
  have HU := Lib.hid (u64_any q r x w hx (by simp [Bp]; omega))
  have b1 : (x.natAbs : Int) < 9223372036854775808 := by omega
  have b2 : (0 : Int) ≤ (x.natAbs : Int) := by omega
  by_cases h0 : x < 0
  · have HE : Hid (-(x.natAbs : Int) = x) := Lib.hid (by omega)
    rw [decide_eq_true h0] at C0
    clear c0 b h0 hx
    generalize (x.natAbs : Int) = y at *
    go_enter Tryz.func131, Tryz.ntmps131
    go_wp2_with (go_at_call 136; refine HU.out.mono ?_; rintro e w1 ⟨rfl, hg1⟩; have c1 := hg1.cell C0.out; have HG1 := Lib.hid hg1; clear hg1)
    go_ret
    exact ⟨by rw [← HE.out]; rfl, HG1.out⟩
  · have HE : Hid ((x.natAbs : Int) = x) := Lib.hid (by omega)
    rw [decide_eq_false h0] at C0
    clear c0 b h0 hx
    generalize (x.natAbs : Int) = y at *
    go_enter Tryz.func131, Tryz.ntmps131
    go_wp2_with (go_at_call 136; refine HU.out.mono ?_; rintro e w1 ⟨rfl, hg1⟩; have c1 := hg1.cell C0.out; have HG1 := Lib.hid hg1; clear hg1)
    go_ret
    exact ⟨by rw [← HE.out]; rfl, HG1.out⟩

theorem gcd_step (x y : Nat) : Nat.gcd y (x % y) = Nat.gcd x y := by rw [Nat.gcd_comm x y, Nat.gcd_rec y x, Nat.gcd_comm]
theorem mod_u64 (x y : Nat) (hx : x < 18446744073709551616) : (x : Int).tmod (y : Int) = ((x % y : Nat) : Int) ∧ (x : Int) % (y : Int) = ((x % y : Nat) : Int) ∧ IntKind.u64.wrap ((x % y : Nat) : Int) = ((x % y : Nat) : Int) :=
  ⟨by rw [Int.tmod_eq_emod_of_nonneg (by omega), Int.natCast_emod], (Int.natCast_emod x y).symm, wrap_nat _ (by have := Nat.mod_le x y; omega)⟩

set_option maxRecDepth 100000 in
set_option maxHeartbeats 8000000 in
theorem common_any {v v' : Value} {A B : Nat} (w : World) (h : Num w v A) (h' : Num w v' B) (hd : DivOk A B) (hB : LtB B 2) :
    Calls Tryz.prog 52 #[v, v'] w fun e w' => Gives (Nat.gcd A B) e w' ∧ Gr w w' := by
  obtain ⟨a, n, cap, rfl, hn, _⟩ := h.shape
  obtain ⟨a', n', cap', rfl, hn', _⟩ := h'.shape
  have hp := h'.pos hd.pos
  have hl' := h'.len hB.lt
  have H := Lib.hid h
  have H' := Lib.hid h'
  have HD := Lib.hid hd
  have b1 : (0 : Int) < (n' : Int) := by omega
  have b2 : ((n' : Int) == 0) = false := by simp; omega
  have b3 : (n' : Int) ≤ 2 := by omega
  have b4 : (n : Int) ≤ 1000000 := by omega
  have hB2 : B < 18446744073709551616 := by have := hB.lt; have e : Bp 2 = 18446744073709551616 := rfl; omega
  have HB2 := Lib.hid hB2
  clear hB2
  by_cases hA : (A : Int) < Bp 2
  · have hl := h.len hA
    have hAA : LtB A 2 := ⟨hA⟩
    have HA2 : Hid (A < 18446744073709551616) := Lib.hid (by have e : Bp 2 = 18446744073709551616 := rfl; omega)
    have b5 : (n : Int) ≤ 2 := by omega
    clear h h' hA hd
    go_enter Tryz.func52, Tryz.ntmps52
    go_wp2
    refine wp_loop_rounds 1 ?_
    rw [rounds_succ]
    have tok1 := trivial
    go_wp2_with (first
      | (go_at_call 55; have _ := tok1; refine (plain_any _ H.out hAA.lt).mono ?_; rintro e w1 ⟨rfl, rfl⟩; clear tok1; have tok2 := trivial)
      | (go_at_call 55; have _ := tok2; refine (plain_any _ H'.out hB.lt).mono ?_; rintro e w1 ⟨rfl, rfl⟩; clear tok2))
    go_loopw [9, 10] (fun x y wr => ∃ X Y : Nat, x = .int .u64 X ∧ y = .int .u64 Y ∧ Hid (Nat.gcd X Y = Nat.gcd A B) ∧ Hid (X < 18446744073709551616 ∧ Y < 18446744073709551616) ∧ Hid (Gr w wr)) (fun _ y _ => (intOf y).toNat)
    case atStart => exact ⟨A, B, rfl, rfl, rfl, ⟨HA2.out, HB2.out⟩, Gr.refl _⟩
    case round =>
      obtain ⟨X, Y, rfl, rfl, HE, HL, HG⟩ := hrel
      by_cases h0 : 0 < Y
      · have hm := Nat.mod_lt X h0
        have HE2 := Lib.hid (gcd_step X Y)
        have hm2 := mod_u64 X Y HL.out.1
        have HL2 := Lib.hid (show Y < 18446744073709551616 ∧ X % Y < 18446744073709551616 from ⟨HL.out.2, by have := HL.out.2; omega⟩)
        obtain ⟨t1, t2, t3⟩ := hm2
        generalize X % Y = R at *
        have i0 : (0 : Int) < (Y : Int) := by omega
        have i1 : ((Y : Int) == 0) = false := by simp; omega
        have i2 : ¬ Y = 0 := by omega
        go_wp2
        go_quiet (fail)
        go_wp2
        go_roundw
        case rel => exact ⟨Y, R, rfl, rfl, Lib.hid (by rw [HE2.out, HE.out]), HL2, HG.out.drewN _⟩
        case measure => simp [intOf] <;> omega
      · obtain rfl : Y = 0 := by omega
        have HW := Lib.hid (fun u => words_any X u HL.out.1)
        have HE2 : Hid (X = Nat.gcd A B) := Lib.hid (by rw [← HE.out, Nat.gcd_zero_right])
        go_wp2_with (go_at_call 54; refine (HW.out _).mono ?_; rintro e w1 ⟨⟨r, rfl, hr⟩, hg1⟩; have HR := Lib.hid hr; have HG1 := Lib.hid (HG.out.trans hg1); clear hr hg1)
        go_ret
        exact ⟨.mk (by rw [← HE2.out]; exact HR.out), HG1.out⟩
  · have hl := h.long (k := 2) (by omega)
    have b5 : (2 : Int) < (n : Int) := by omega
    have HM : Hid (A % B < 18446744073709551616) := Lib.hid (by have := Nat.mod_lt A hd.pos; have := HB2.out; omega)
    have hmm : LtB (A % B) 2 := ⟨by have := HM.out; have e : Bp 2 = 18446744073709551616 := rfl; omega⟩
    have HGE := Lib.hid (gcd_step A B)
    clear h h' hA hd
    go_enter Tryz.func52, Tryz.ntmps52
    go_wp2
    refine wp_loop_rounds 1 ?_
    rw [rounds_succ]
    go_wp2_with (first
      | (go_at_call 53; refine (div_any _ H.out H'.out HD.out).mono ?_; rintro e w1 ⟨⟨q, r, rfl, hq, hr⟩, hg1⟩; have HR := Lib.hid hr; have HG1 := Lib.hid hg1; clear hr hg1 hq; have tok1 := trivial)
      | (go_at_call 55; have _ := tok1; refine (plain_any _ (H'.out.gr HG1.out) hB.lt).mono ?_; rintro e w2 ⟨rfl, rfl⟩; clear tok1; have tok2 := trivial)
      | (go_at_call 55; have _ := tok2; refine (plain_any _ HR.out hmm.lt).mono ?_; rintro e w2 ⟨rfl, rfl⟩; clear tok2))
    go_loopw [9, 10] (fun x y wr => ∃ X Y : Nat, x = .int .u64 X ∧ y = .int .u64 Y ∧ Hid (Nat.gcd X Y = Nat.gcd A B) ∧ Hid (X < 18446744073709551616 ∧ Y < 18446744073709551616) ∧ Hid (Gr w wr)) (fun _ y _ => (intOf y).toNat)
    case atStart => exact ⟨B, A % B, rfl, by simp, HGE.out, ⟨HB2.out, HM.out⟩, HG1.out⟩
    case round =>
      obtain ⟨X, Y, rfl, rfl, HE, HL, HG⟩ := hrel
      by_cases h0 : 0 < Y
      · have hm := Nat.mod_lt X h0
        have HE2 := Lib.hid (gcd_step X Y)
        have hm2 := mod_u64 X Y HL.out.1
        have HL2 := Lib.hid (show Y < 18446744073709551616 ∧ X % Y < 18446744073709551616 from ⟨HL.out.2, by have := HL.out.2; omega⟩)
        obtain ⟨t1, t2, t3⟩ := hm2
        generalize X % Y = R at *
        have i0 : (0 : Int) < (Y : Int) := by omega
        have i1 : ((Y : Int) == 0) = false := by simp; omega
        have i2 : ¬ Y = 0 := by omega
        go_wp2
        go_quiet (fail)
        go_wp2
        go_roundw
        case rel => exact ⟨Y, R, rfl, rfl, Lib.hid (by rw [HE2.out, HE.out]), HL2, HG.out.drewN _⟩
        case measure => simp [intOf] <;> omega
      · obtain rfl : Y = 0 := by omega
        have HW := Lib.hid (fun u => words_any X u HL.out.1)
        have HE2 : Hid (X = Nat.gcd A B) := Lib.hid (by rw [← HE.out, Nat.gcd_zero_right])
        go_wp2_with (go_at_call 54; refine (HW.out _).mono ?_; rintro e w3 ⟨⟨r3, rfl, hr⟩, hg1⟩; have HR3 := Lib.hid hr; have HG3 := Lib.hid (HG.out.trans hg1); clear hr hg1)
        go_ret
        exact ⟨.mk (by rw [← HE2.out]; exact HR3.out), HG3.out⟩

/-- The Rat at block p is a / d, in lowest terms. -/
structure RatAt (w : World) (p : Nat) (a : Int) (d : Nat) : Prop where
  num : IntAt w p 0 a
  den : IntAt w p 2 (d : Int)
  pos : 0 < d
  cop : Nat.gcd a.natAbs d = 1
theorem RatAt.gr {w w' : World} {p : Nat} {a : Int} {d : Nat} (h : RatAt w p a d) (k : Gr w w') : RatAt w' p a d := ⟨h.num.gr k, h.den.gr k, h.pos, h.cop⟩

set_option maxRecDepth 100000 in
set_option maxHeartbeats 4000000 in
theorem den_any (p : Nat) (a : Int) (d : Nat) (w : World) (h : RatAt w p a d) :
    Calls Tryz.prog 116 #[.pointer (some ⟨p, 0, none⟩)] w fun e w' => e = .returned (.pointer (some ⟨p, 2, none⟩)) ∧ w = w' := by
  obtain ⟨_, s, n, c, c1, hN⟩ := h.den.open
  have hp := hN.pos (by have := h.pos; omega)
  obtain ⟨_, _, _, e1, hn, _⟩ := hN.shape
  simp at e1
  have b2 : ((n : Int) == 0) = false := by simp; omega
  have b3 : (n : Int) ≤ 1000000 := by omega
  clear hN h e1
  go_enter Tryz.func116, Tryz.ntmps116
  go_wp2
  go_ret
  exact ⟨rfl, rfl⟩

/-- What norm bears. -/
structure NormOk (A d : Nat) : Prop where
  pos : 0 < d
  den : LtB d 2
  num : LtB A 40
theorem NormOk.div {A d g : Nat} (h : NormOk A d) (h0 : 0 < g) (hg : g ≤ d) : DivOk A g := ⟨h0, .inr (.inr ⟨by have := h.den.lt; omega, h.num.lt⟩)⟩
theorem NormOk.below {A d g : Nat} (h : NormOk A d) (h0 : 0 < g) : DivOk d g := ⟨h0, .inr (.inl h.den.lt)⟩
theorem signed_ediv {a : Int} {g : Nat} (hg : g ∣ a.natAbs) (h0 : 0 < g) : (a / (g : Int)).natAbs = a.natAbs / g ∧ (decide (a / (g : Int) < 0) = decide (a < 0)) := by
  obtain ⟨k, hk⟩ := hg
  have h1 : a.natAbs / g = k := by rw [hk, Nat.mul_div_cancel_left _ h0]
  rw [h1]
  by_cases h : a < 0
  · have e : a = (g : Int) * -(k : Int) := by
      rw [Int.mul_neg, ← Int.natCast_mul, ← hk]; omega
    have e2 : a / (g : Int) = -(k : Int) := by rw [e, Int.mul_ediv_cancel_left _ (by omega)]
    have hk0 : 0 < k := by
      rcases Nat.eq_zero_or_pos k with h2 | h2
      · subst h2; simp at hk; omega
      · exact h2
    rw [e2]
    exact ⟨by omega, by rw [decide_eq_true h, decide_eq_true (by omega)]⟩
  · have e : a = (g : Int) * (k : Int) := by
      rw [← Int.natCast_mul, ← hk]; omega
    have e2 : a / (g : Int) = (k : Int) := by rw [e, Int.mul_ediv_cancel_left _ (by omega)]
    rw [e2]
    exact ⟨by omega, by rw [decide_eq_false h, decide_eq_false (by omega)]⟩

/-- What is older than block p is as it was. -/
def Kept (p : Nat) (w w' : World) : Prop := (∀ u, Gr u w → u.heap.size ≤ p → Gr u w') ∧ (p < w.heap.size → p < w'.heap.size ∧ ∀ i, w'.frozen? ⟨p, i, none⟩ = w.frozen? ⟨p, i, none⟩)
theorem Num.cell1 {w : World} {a : Option Addr} {cap : Nat} {N : Nat} (h : Num w (.slice a 1 cap) N) : ∃ g, a = some ⟨g, 0, none⟩ ∧ w.cell? ⟨g, 0, none⟩ = some (.int .u32 (N : Int)) := by
  obtain ⟨m, f, ⟨_, _, h2, _, h3, _⟩, _, h4⟩ := h
  simp at h2
  obtain ⟨rfl, rfl, rfl⟩ := h2
  obtain ⟨g, h5, h6⟩ := h3 (by omega)
  refine ⟨g, h5, ?_⟩
  have := h6 0 (by omega)
  simp [V, Bp] at h4
  rw [this, h4]
theorem Only.kept {p o : Nat} {w w' : World} (h : Only p o w w') : Kept p w w' := ⟨h.gr, fun hp => ⟨Nat.lt_of_lt_of_le hp h.size, fun i => h.frozen p i hp⟩⟩
theorem Kept.of_gr {p : Nat} {w w' : World} (h : Gr w w') : Kept p w w' := ⟨fun _ hu _ => hu.trans h, fun hp => ⟨Nat.lt_of_lt_of_le hp h.size, fun i => h.frozen (p := ⟨p, i, none⟩) hp⟩⟩
theorem Kept.trans {p : Nat} {a b c : World} (h : Kept p a b) (k : Kept p b c) : Kept p a c := ⟨fun u hu hp => k.1 u (h.1 u hu hp) hp, fun hp => ⟨(k.2 (h.2 hp).1).1, fun i => ((k.2 (h.2 hp).1).2 i).trans ((h.2 hp).2 i)⟩⟩
/-- norm's last stores. -/
theorem norm_store {w : World} {p : Nat} {a : Int} {d : Nat} {g : Nat} {P Q : Value} (hs : Slot w p 0) (hs' : Slot w p 2) (ha : IntAt w p 0 a) (hd : IntAt w p 2 (d : Int)) (hg : g = Nat.gcd a.natAbs d) (h0 : 0 < d) (hP : Num w P (a.natAbs / g)) (hQ : Num w Q (d / g)) :
    RatAt ((w.setCell ⟨p, 1, none⟩ P).setCell ⟨p, 3, none⟩ Q) p (a / (g : Int)) (d / g) ∧ Kept p w ((w.setCell ⟨p, 1, none⟩ P).setCell ⟨p, 3, none⟩ Q) := by
  have hgp : 0 < g := by rw [hg]; exact Nat.gcd_pos_of_pos_right _ h0
  have hga : g ∣ a.natAbs := by rw [hg]; exact Nat.gcd_dvd_left _ _
  have hgd : g ∣ d := by rw [hg]; exact Nat.gcd_dvd_right _ _
  obtain ⟨e1, e2⟩ := signed_ediv hga hgp
  have o1 : Only p 0 w (w.setCell ⟨p, 1, none⟩ P) := ⟨fun u hu hp => hu.setCell hp _, by simp, fun q i _ ho => by rw [World.cell?_setCell_other _ _ _ _ (by simp; omega)], fun q i _ => by simp, fun q _ hne => Below.heap_setCell _ _ _ _ hne⟩
  have o2 : Only p 2 (w.setCell ⟨p, 1, none⟩ P) ((w.setCell ⟨p, 1, none⟩ P).setCell ⟨p, 3, none⟩ Q) := ⟨fun u hu hp => hu.setCell hp _, by simp, fun q i _ ho => by rw [World.cell?_setCell_other _ _ _ _ (by simp; omega)], fun q i _ => by simp, fun q _ hne => Below.heap_setCell _ _ _ _ hne⟩
  obtain ⟨_, _, ⟨x0, n0, q0, hx0⟩, _, _⟩ := id hs
  obtain ⟨_, _, ⟨x1, n1, q1, hx1⟩, _, _⟩ := id hs'
  have c1 : (w.setCell ⟨p, 1, none⟩ P).cell? ⟨p, 1, none⟩ = some P := World.cell?_setCell_same _ _ _ (u := .slice x0 n0 q0) hx0
  have c3 : ((w.setCell ⟨p, 1, none⟩ P).setCell ⟨p, 3, none⟩ Q).cell? ⟨p, 3, none⟩ = some Q := World.cell?_setCell_same _ _ _ (u := .slice x1 n1 q1) (by rw [World.cell?_setCell_other _ _ _ _ (by simp)]; exact hx1)
  have s2 : Slot (w.setCell ⟨p, 1, none⟩ P) p 2 := hs'.only o1 (.inr (by omega))
  refine ⟨⟨⟨?_, P, ?_, ?_⟩, ⟨?_, Q, c3, ?_⟩, Nat.div_pos (Nat.le_of_dvd h0 hgd) hgp, ?_⟩, o1.kept.trans o2.kept⟩
  · rw [World.cell?_setCell_other _ _ _ _ (by simp), World.cell?_setCell_other _ _ _ _ (by simp), e2]; exact ha.1
  · rw [World.cell?_setCell_other _ _ _ _ (by simp)]; exact c1
  · rw [e1]; exact (hP.only hs o1).only s2 o2
  · rw [World.cell?_setCell_other _ _ _ _ (by simp), World.cell?_setCell_other _ _ _ _ (by simp)]
    have h5 := hd.1
    have e5 : decide ((d : Int) < 0) = false := decide_eq_false (Int.not_lt.2 (Int.natCast_nonneg d))
    have e6 : decide (((d / g : Nat) : Int) < 0) = false := decide_eq_false (Int.not_lt.2 (Int.natCast_nonneg _))
    rw [e5] at h5
    rw [e6]
    exact h5
  · rw [Int.natAbs_natCast]; exact (hQ.only hs o1).only s2 o2
  · rw [e1, Nat.gcd_div hga hgd, ← hg, Nat.div_self hgp]

set_option maxRecDepth 100000 in
set_option maxHeartbeats 8000000 in
theorem norm_any (p : Nat) (a : Int) (d : Nat) (w : World) (hs : Slot w p 0) (hs' : Slot w p 2) (ha : IntAt w p 0 a) (hd : IntAt w p 2 (d : Int)) (hok : NormOk a.natAbs d) :
    Calls Tryz.prog 44 #[.pointer (some ⟨p, 0, none⟩)] w fun e w' =>
      e = .returned (.pointer (some ⟨p, 0, none⟩)) ∧ RatAt w' p (a / ((Nat.gcd a.natAbs d : Nat) : Int)) (d / Nat.gcd a.natAbs d) ∧ Kept p w w' := by
  have HA := Lib.hid ha
  have HD := Lib.hid hd
  have HS := Lib.hid hs
  have HS' := Lib.hid hs'
  have HOK := Lib.hid hok
  obtain ⟨c0, s, n, c, c1, hN⟩ := ha.open
  obtain ⟨e0, s', n', c', e1, hN'⟩ := hd.open
  rw [Int.natAbs_natCast] at hN'
  rw [decide_eq_false (by omega)] at e0
  have hp := hN'.pos hok.pos
  have hl' := hN'.len hok.den.lt
  obtain ⟨_, _, _, f1, hn, hz⟩ := hN.shape
  simp at f1
  obtain ⟨rfl, rfl, rfl⟩ := f1
  have H := Lib.hid hN
  have H' := Lib.hid hN'
  have b2 : ((n' : Int) == 0) = false := by simp; omega
  have b3 : (n' : Int) ≤ 2 := by omega
  have b4 : (n : Int) ≤ 1000000 := by omega
  have b5 : (0 : Int) < (n' : Int) := by omega
  by_cases h0 : a = 0
  · have hn0 : n = 0 := hz.2 (by omega)
    subst hn0 h0
    have HG0 : Hid (Nat.gcd (0 : Int).natAbs d = d ∧ ((0 : Int) / (d : Int) = 0) ∧ d / d = 1) := Lib.hid ⟨by simp, by simp, Nat.div_self hok.pos⟩
    clear hok hs hs' ha hd hN hN' hz
    go_enter Tryz.func44, Tryz.ntmps44
    go_wp2_with (go_at_call 45; refine (set64_any p 2 1 _ HS'.out (by omega)).mono ?_; rintro e w1 ⟨rfl, hh, ho⟩; have HH := Lib.hid hh; have HO := Lib.hid ho; clear hh ho)
    go_ret
    refine ⟨rfl, ?_, HO.out.kept⟩
    rw [HG0.out.1, HG0.out.2.1, HG0.out.2.2]
    exact ⟨HA.out.only HS'.out HO.out (.inr (by omega)), HH.out.int, by omega, by simp⟩
  have hn0 : n ≠ 0 := fun e => h0 (by have := hz.1 e; omega)
  have b6 : ((n : Int) == 0) = false := by simp; omega
  by_cases h1 : d = 1
  · subst h1
    obtain ⟨rfl, g', rfl, hc1⟩ := hN'.one (by omega) (by omega)
    have HG0 : Hid (Nat.gcd a.natAbs 1 = 1 ∧ a / ((1 : Nat) : Int) = a ∧ 1 / 1 = 1) := Lib.hid ⟨by simp, by simp, rfl⟩
    clear hok hs hs' ha hd hN hN' hz
    go_enter Tryz.func44, Tryz.ntmps44
    go_wp2
    go_ret
    refine ⟨rfl, ?_, Kept.of_gr (Gr.refl _)⟩
    exact ⟨HA.out, HD.out, by omega, by simp⟩
  have HCM := Lib.hid (fun (u : World) (k : Gr w u) => common_any u (hN.gr k) (hN'.gr k) (hok.div hok.pos (Nat.le_refl _)) hok.den)
  have hg0 : 0 < Nat.gcd a.natAbs d := Nat.gcd_pos_of_pos_right _ hok.pos
  have hgd : Nat.gcd a.natAbs d ≤ d := Nat.le_of_dvd hok.pos (Nat.gcd_dvd_right _ _)
  have HDV := Lib.hid (show DivOk a.natAbs (Nat.gcd a.natAbs d) ∧ DivOk d (Nat.gcd a.natAbs d) from ⟨hok.div hg0 hgd, hok.below hg0⟩)
  have HGP := Lib.hid hg0
  have HGB : LtB (Nat.gcd a.natAbs d) 2 := ⟨by have := hok.den.lt; omega⟩
  have HST := Lib.hid (fun (u : World) (P Q : Value) (hs : Slot u p 0) (hs' : Slot u p 2) (ha : IntAt u p 0 a) (hd : IntAt u p 2 (d : Int)) (hP : Num u P (a.natAbs / Nat.gcd a.natAbs d)) (hQ : Num u Q (d / Nat.gcd a.natAbs d)) => norm_store hs hs' ha hd rfl hok.pos hP hQ)
  have HONE : Hid (Nat.gcd a.natAbs d = 1 → ∀ u, IntAt u p 0 a → IntAt u p 2 (d : Int) → RatAt u p (a / ((Nat.gcd a.natAbs d : Nat) : Int)) (d / Nat.gcd a.natAbs d)) := Lib.hid (fun e u h1 h2 => by
    have e2 : a / ((1 : Nat) : Int) = a := by simp
    rw [e, e2, Nat.div_one]
    exact ⟨h1, h2, hok.pos, e⟩)
  have b7 : ¬ ((n' : Int) = 1 ∧ d = 1) := fun h => h1 h.2
  have HB1 : Hid (n' = 1 → ∃ g', s' = some ⟨g', 0, none⟩ ∧ w.cell? ⟨g', 0, none⟩ = some (.int .u32 (d : Int))) := Lib.hid (fun e => by
    subst e
    exact hN'.cell1)
  have b8 : ((d : Int) == 1) = false := by simp; omega
  clear hok hs hs' ha hd hN hN' hz b7 hg0 hgd
  generalize Nat.gcd a.natAbs d = g at *
  have C1 := Lib.hid c1
  have E0 := Lib.hid e0
  have E1 := Lib.hid e1
  by_cases hn1 : n' = 1
  · obtain ⟨g', rfl, hc1⟩ := HB1.out hn1
    subst hn1
    go_enter Tryz.func44, Tryz.ntmps44
    go_wp2
    go_region_held3 (fun w' => w'.cell? ⟨p, 1, none⟩ = some (.slice s n c) ∧ w'.cell? ⟨p, 3, none⟩ = some (.slice (some ⟨g', 0, none⟩) 1 c'))
      (first
        | exact ⟨((Gr.refl w).drew.trans hg1).cell C1.out, ((Gr.refl w).drew.trans hg1).cell E1.out⟩
        | go_keep)
      (first
        | (go_at_call 52; refine (HCM.out _ (Gr.refl w).drew).mono ?_; rintro e w1 ⟨⟨r, rfl, hr⟩, hg1⟩))
    obtain ⟨sr, nr, cr, rfl, hnr, _⟩ := hr.shape
    have hrp := hr.pos HGP.out
    have HR := Lib.hid hr
    have HG1 := Lib.hid ((Gr.refl w).drew.trans hg1)
    have x1 := HG1.out.cell C1.out
    have x3 := HG1.out.cell E1.out
    have b10 : (0 : Int) < (nr : Int) := by omega
    clear hg1
    by_cases hgg : g = 1
    · subst hgg
      obtain ⟨rfl, gb, rfl, hcg⟩ := hr.one (by omega) (by omega)
      clear hr
      go_wp2
      go_ret
      have := HONE.out (by first | rfl | trivial) _ (HA.out.gr HG1.out) (HD.out.gr HG1.out)
      simp only [Nat.div_one] at this
      exact ⟨rfl, by simpa using this, Kept.of_gr HG1.out⟩
    · have b11 : ((g : Int) == 1) = false := by simp; omega
      have tok1 := trivial
      by_cases hn3 : nr = 1
      · subst hn3
        obtain ⟨gb, rfl, hcg⟩ := hr.cell1
        clear hr hgg
        go_wp2_with (first
          | (go_at_call 53; have _ := tok1; refine (div_any _ (H.out.gr HG1.out) HR.out HDV.out.1).mono ?_; rintro e w2 ⟨⟨P, P2, rfl, hq, _⟩, hg2⟩; obtain ⟨aP, nP, cP, rfl, _, _⟩ := hq.shape; have HP := Lib.hid hq; have HG2 := Lib.hid (HG1.out.trans hg2); have HR2 := Lib.hid (HR.out.gr hg2); have y3 := HG2.out.cell E1.out; clear hq hg2 tok1; have tok2 := trivial)
          | (go_at_call 53; have _ := tok2; refine (div_any _ (H'.out.gr HG2.out) HR2.out HDV.out.2).mono ?_; rintro e w3 ⟨⟨Q, Q2, rfl, hq, _⟩, hg3⟩; obtain ⟨aQ, nQ, cQ, rfl, _, _⟩ := hq.shape; have HQ := Lib.hid hq; have HG3 := Lib.hid (HG2.out.trans hg3); have HP3 := Lib.hid (HP.out.gr hg3); have z1 := HG3.out.cell C1.out; have z3 := HG3.out.cell E1.out; have k1 : w3.frozen? ⟨p, 1, none⟩ = false := (HS.out.gr HG3.out).f1; have k3 : w3.frozen? ⟨p, 3, none⟩ = false := (HS'.out.gr HG3.out).f1; have HFIN := Lib.hid (HST.out _ _ _ (HS.out.gr HG3.out) (HS'.out.gr HG3.out) (HA.out.gr HG3.out) (HD.out.gr HG3.out) HP3.out HQ.out); clear hq hg3 tok2))
        go_ret
        exact ⟨rfl, HFIN.out.1, (Kept.of_gr HG3.out).trans HFIN.out.2⟩
      · have b12 : ((nr : Int) == 1) = false := by simp; omega
        clear hr hgg
        go_wp2_with (first
          | (go_at_call 53; have _ := tok1; refine (div_any _ (H.out.gr HG1.out) HR.out HDV.out.1).mono ?_; rintro e w2 ⟨⟨P, P2, rfl, hq, _⟩, hg2⟩; obtain ⟨aP, nP, cP, rfl, _, _⟩ := hq.shape; have HP := Lib.hid hq; have HG2 := Lib.hid (HG1.out.trans hg2); have HR2 := Lib.hid (HR.out.gr hg2); have y3 := HG2.out.cell E1.out; clear hq hg2 tok1; have tok2 := trivial)
          | (go_at_call 53; have _ := tok2; refine (div_any _ (H'.out.gr HG2.out) HR2.out HDV.out.2).mono ?_; rintro e w3 ⟨⟨Q, Q2, rfl, hq, _⟩, hg3⟩; obtain ⟨aQ, nQ, cQ, rfl, _, _⟩ := hq.shape; have HQ := Lib.hid hq; have HG3 := Lib.hid (HG2.out.trans hg3); have HP3 := Lib.hid (HP.out.gr hg3); have z1 := HG3.out.cell C1.out; have z3 := HG3.out.cell E1.out; have k1 : w3.frozen? ⟨p, 1, none⟩ = false := (HS.out.gr HG3.out).f1; have k3 : w3.frozen? ⟨p, 3, none⟩ = false := (HS'.out.gr HG3.out).f1; have HFIN := Lib.hid (HST.out _ _ _ (HS.out.gr HG3.out) (HS'.out.gr HG3.out) (HA.out.gr HG3.out) (HD.out.gr HG3.out) HP3.out HQ.out); clear hq hg3 tok2))
        go_ret
        exact ⟨rfl, HFIN.out.1, (Kept.of_gr HG3.out).trans HFIN.out.2⟩
  · have b9 : ((n' : Int) == 1) = false := by simp; omega
    go_enter Tryz.func44, Tryz.ntmps44
    go_wp2
    go_region_held3 (fun w' => w'.cell? ⟨p, 1, none⟩ = some (.slice s n c) ∧ w'.cell? ⟨p, 3, none⟩ = some (.slice s' n' c'))
      (first
        | exact ⟨((Gr.refl w).drew.trans hg1).cell C1.out, ((Gr.refl w).drew.trans hg1).cell E1.out⟩
        | go_keep)
      (first
        | (go_at_call 52; refine (HCM.out _ (Gr.refl w).drew).mono ?_; rintro e w1 ⟨⟨r, rfl, hr⟩, hg1⟩))
    obtain ⟨sr, nr, cr, rfl, hnr, _⟩ := hr.shape
    have hrp := hr.pos HGP.out
    have HR := Lib.hid hr
    have HG1 := Lib.hid ((Gr.refl w).drew.trans hg1)
    have x1 := HG1.out.cell C1.out
    have x3 := HG1.out.cell E1.out
    have b10 : (0 : Int) < (nr : Int) := by omega
    clear hg1
    by_cases hgg : g = 1
    · subst hgg
      obtain ⟨rfl, gb, rfl, hcg⟩ := hr.one (by omega) (by omega)
      clear hr
      go_wp2
      go_ret
      have := HONE.out (by first | rfl | trivial) _ (HA.out.gr HG1.out) (HD.out.gr HG1.out)
      simp only [Nat.div_one] at this
      exact ⟨rfl, by simpa using this, Kept.of_gr HG1.out⟩
    · have b11 : ((g : Int) == 1) = false := by simp; omega
      have tok1 := trivial
      by_cases hn3 : nr = 1
      · subst hn3
        obtain ⟨gb, rfl, hcg⟩ := hr.cell1
        clear hr hgg
        go_wp2_with (first
          | (go_at_call 53; have _ := tok1; refine (div_any _ (H.out.gr HG1.out) HR.out HDV.out.1).mono ?_; rintro e w2 ⟨⟨P, P2, rfl, hq, _⟩, hg2⟩; obtain ⟨aP, nP, cP, rfl, _, _⟩ := hq.shape; have HP := Lib.hid hq; have HG2 := Lib.hid (HG1.out.trans hg2); have HR2 := Lib.hid (HR.out.gr hg2); have y3 := HG2.out.cell E1.out; clear hq hg2 tok1; have tok2 := trivial)
          | (go_at_call 53; have _ := tok2; refine (div_any _ (H'.out.gr HG2.out) HR2.out HDV.out.2).mono ?_; rintro e w3 ⟨⟨Q, Q2, rfl, hq, _⟩, hg3⟩; obtain ⟨aQ, nQ, cQ, rfl, _, _⟩ := hq.shape; have HQ := Lib.hid hq; have HG3 := Lib.hid (HG2.out.trans hg3); have HP3 := Lib.hid (HP.out.gr hg3); have z1 := HG3.out.cell C1.out; have z3 := HG3.out.cell E1.out; have k1 : w3.frozen? ⟨p, 1, none⟩ = false := (HS.out.gr HG3.out).f1; have k3 : w3.frozen? ⟨p, 3, none⟩ = false := (HS'.out.gr HG3.out).f1; have HFIN := Lib.hid (HST.out _ _ _ (HS.out.gr HG3.out) (HS'.out.gr HG3.out) (HA.out.gr HG3.out) (HD.out.gr HG3.out) HP3.out HQ.out); clear hq hg3 tok2))
        go_ret
        exact ⟨rfl, HFIN.out.1, (Kept.of_gr HG3.out).trans HFIN.out.2⟩
      · have b12 : ((nr : Int) == 1) = false := by simp; omega
        clear hr hgg
        go_wp2_with (first
          | (go_at_call 53; have _ := tok1; refine (div_any _ (H.out.gr HG1.out) HR.out HDV.out.1).mono ?_; rintro e w2 ⟨⟨P, P2, rfl, hq, _⟩, hg2⟩; obtain ⟨aP, nP, cP, rfl, _, _⟩ := hq.shape; have HP := Lib.hid hq; have HG2 := Lib.hid (HG1.out.trans hg2); have HR2 := Lib.hid (HR.out.gr hg2); have y3 := HG2.out.cell E1.out; clear hq hg2 tok1; have tok2 := trivial)
          | (go_at_call 53; have _ := tok2; refine (div_any _ (H'.out.gr HG2.out) HR2.out HDV.out.2).mono ?_; rintro e w3 ⟨⟨Q, Q2, rfl, hq, _⟩, hg3⟩; obtain ⟨aQ, nQ, cQ, rfl, _, _⟩ := hq.shape; have HQ := Lib.hid hq; have HG3 := Lib.hid (HG2.out.trans hg3); have HP3 := Lib.hid (HP.out.gr hg3); have z1 := HG3.out.cell C1.out; have z3 := HG3.out.cell E1.out; have k1 : w3.frozen? ⟨p, 1, none⟩ = false := (HS.out.gr HG3.out).f1; have k3 : w3.frozen? ⟨p, 3, none⟩ = false := (HS'.out.gr HG3.out).f1; have HFIN := Lib.hid (HST.out _ _ _ (HS.out.gr HG3.out) (HS'.out.gr HG3.out) (HA.out.gr HG3.out) (HD.out.gr HG3.out) HP3.out HQ.out); clear hq hg3 tok2))
        go_ret
        exact ⟨rfl, HFIN.out.1, (Kept.of_gr HG3.out).trans HFIN.out.2⟩

/-- A Rat's four cells, that may be written. -/
structure RSlot (w : World) (p : Nat) : Prop where
  a : Slot w p 0
  b : Slot w p 2
theorem RSlot.gr {w w' : World} {p : Nat} (h : RSlot w p) (k : Gr w w') : RSlot w' p := ⟨h.a.gr k, h.b.gr k⟩

/-- A whole Int stored. -/
theorem int_store {w : World} {p o : Nat} {x : Int} {a : Option Addr} {n c : Nat} (hs : Slot w p o) (h : Num w (.slice a n c) x.natAbs) :
    Holds ((w.setCell ⟨p, o, none⟩ (.bool (decide (x < 0)))).setCell ⟨p, o + 1, none⟩ (.slice a n c)) p o x ∧ Only p o w ((w.setCell ⟨p, o, none⟩ (.bool (decide (x < 0)))).setCell ⟨p, o + 1, none⟩ (.slice a n c)) := by
  have ho : Only p o w ((w.setCell ⟨p, o, none⟩ (.bool (decide (x < 0)))).setCell ⟨p, o + 1, none⟩ (.slice a n c)) := ⟨fun u hu hp => (hu.setCell hp _).setCell hp _, by simp, fun q i _ ho => by
    rw [World.cell?_setCell_other _ _ _ _ (by simp <;> omega), World.cell?_setCell_other _ _ _ _ (by simp <;> omega)], fun q i _ => by simp, fun q _ hne => (Below.heap_setCell _ _ _ _ hne).trans (Below.heap_setCell _ _ _ _ hne)⟩
  have hs0 := hs
  obtain ⟨h0, ⟨b0, h1⟩, ⟨a1, n1, q1, h2⟩, h3, h4⟩ := hs
  have e0 : ((w.setCell ⟨p, o, none⟩ (.bool (decide (x < 0)))).setCell ⟨p, o + 1, none⟩ (.slice a n c)).cell? ⟨p, o, none⟩ = some (.bool (decide (x < 0))) := by
    rw [World.cell?_setCell_other _ _ _ _ (by simp)]; exact World.cell?_setCell_same _ _ _ (u := .bool b0) h1
  have e1 : ((w.setCell ⟨p, o, none⟩ (.bool (decide (x < 0)))).setCell ⟨p, o + 1, none⟩ (.slice a n c)).cell? ⟨p, o + 1, none⟩ = some (.slice a n c) :=
    World.cell?_setCell_same _ _ _ (u := .slice a1 n1 q1) (by rw [World.cell?_setCell_other _ _ _ _ (by simp)]; exact h2)
  exact ⟨⟨⟨by simpa using h0, ⟨_, e0⟩, ⟨_, _, _, e1⟩, by simpa using h3, by simpa using h4⟩, e0, _, e1, h.only hs0 ho⟩, ho⟩

set_option maxRecDepth 100000 in
set_option maxHeartbeats 8000000 in
theorem setFrac_any (p q r s t : Nat) (x : Int) (y : Nat) (w : World) (hz : RSlot w p) (hx : IntAt w q r x) (hy : IntAt w s t (y : Int)) (hok : NormOk x.natAbs y) :
    Calls Tryz.prog 37 #[.pointer (some ⟨p, 0, none⟩), .pointer (some ⟨q, r, none⟩), .pointer (some ⟨s, t, none⟩)] w fun e w' =>
      e = .returned (.pointer (some ⟨p, 0, none⟩)) ∧ RatAt w' p (x / ((Nat.gcd x.natAbs y : Nat) : Int)) (y / Nat.gcd x.natAbs y) ∧ Kept p w w' := by
  have HX := Lib.hid hx
  have HY := Lib.hid hy
  have HZ := Lib.hid hz
  have HOK := Lib.hid hok
  obtain ⟨_, s', n', c', e1, hN'⟩ := hy.open
  rw [Int.natAbs_natCast] at hN'
  have hp := hN'.pos hok.pos
  obtain ⟨_, _, _, f1, hn', _⟩ := hN'.shape
  simp at f1
  obtain ⟨rfl, rfl, rfl⟩ := f1
  have b2 : ((n' : Int) == 0) = false := by simp; omega
  have b3 : (n' : Int) ≤ 1000000 := by omega
  have HNN := Lib.hid (fun (u : World) (k : Gr u u) => slot_new u rfl)
  have HGA := Lib.hid (fun (u : World) => (Gr.refl u).alloc (.cells #[.bool false, .slice none 0 0] 140))
  have HL := Lib.hid hz.a.lt
  clear hx hy hz hok hN'
  have tok1 := trivial
  go_enter Tryz.func37, Tryz.ntmps37
  go_wp2_with (first
    | (go_at_call 43; have _ := tok1; refine (set_any w.heap.size 0 q r x _ (slot_new w rfl) (HX.out.gr (HGA.out w))).mono ?_; rintro e w1 ⟨rfl, hh, ho⟩; have HH1 := Lib.hid hh; have HG1 := Lib.hid (ho.gr w (HGA.out w) (Nat.le_refl _)); have HS1 := Lib.hid ho.size; clear hh ho tok1; have tok2 := trivial))
  go_at_call 43; refine (set_any w1.heap.size 0 s t y _ (slot_new w1 rfl) (HY.out.gr (HG1.out.trans (HGA.out w1)))).mono ?_; rintro e w2 ⟨rfl, hh, ho⟩; have HG2 := Lib.hid (ho.gr w1 (HGA.out w1) (Nat.le_refl _)); have HH2 := Lib.hid hh; obtain ⟨k0, a1, n1, q1, k1, hk⟩ := (HH1.out.int.gr HG2.out).open; obtain ⟨m0, a2, n2, q2, m1, hm⟩ := hh.int.open; have HK := Lib.hid hk; have HM := Lib.hid hm
  have HZ2 := Lib.hid (HZ.out.gr (HG1.out.trans HG2.out))
  obtain ⟨z0, hz0⟩ := HZ2.out.a.neg
  obtain ⟨z1, z11, z12, hz1⟩ := HZ2.out.a.abs
  obtain ⟨z2, hz2⟩ := HZ2.out.b.neg
  obtain ⟨z3, z31, z32, hz3⟩ := HZ2.out.b.abs
  have hf0 : w2.frozen? ⟨p, 0, none⟩ = false := HZ2.out.a.f0
  have hf1 : w2.frozen? ⟨p, 1, none⟩ = false := HZ2.out.a.f1
  have hf2 : w2.frozen? ⟨p, 2, none⟩ = false := HZ2.out.b.f0
  have hf3 : w2.frozen? ⟨p, 3, none⟩ = false := HZ2.out.b.f1
  have hne : w1.heap.size ≠ p := by have := HL.out; have := HG1.out.size; omega
  rw [decide_eq_false (Int.not_lt.2 (Int.natCast_nonneg y))] at m0
  have y0 : ((w2.setCell ⟨p, 0, none⟩ (.bool (decide (x < 0)))).setCell ⟨p, 1, none⟩ (.slice a1 n1 q1)).cell? ⟨w1.heap.size, 0, none⟩ = some (.bool false) := by
    rw [World.cell?_setCell_other _ _ _ _ (by simp <;> omega), World.cell?_setCell_other _ _ _ _ (by simp <;> omega)]; exact m0
  have y1 : ((w2.setCell ⟨p, 0, none⟩ (.bool (decide (x < 0)))).setCell ⟨p, 1, none⟩ (.slice a1 n1 q1)).cell? ⟨w1.heap.size, 1, none⟩ = some (.slice a2 n2 q2) := by
    rw [World.cell?_setCell_other _ _ _ _ (by simp <;> omega), World.cell?_setCell_other _ _ _ _ (by simp <;> omega)]; exact m1
  have hi1 := int_store HZ2.out.a HK.out
  have s2 := HZ2.out.b.only hi1.2 (.inr (by omega))
  have hi2 := int_store (x := (y : Int)) s2 (HM.out.only HZ2.out.a hi1.2)
  rw [decide_eq_false (Int.not_lt.2 (Int.natCast_nonneg y))] at hi2
  have HI1 := Lib.hid (hi1.1.only s2 hi2.2 (.inr (by omega)))
  have HI2 := Lib.hid hi2.1
  have HKP := Lib.hid ((Kept.of_gr (HG1.out.trans HG2.out)).trans (hi1.2.kept.trans hi2.2.kept))
  clear hh ho tok2 hk hm hi1 hi2 s2 hne
  go_wp2_with (first
    | (go_at_call 44; refine (norm_any p x y _ HI1.out.slot HI2.out.slot HI1.out.int HI2.out.int HOK.out).mono ?_; rintro e w5 ⟨rfl, hr, hk5⟩; have HR := Lib.hid hr; have HK5 := Lib.hid (HKP.out.trans hk5); clear hr hk5))
  go_ret
  exact ⟨rfl, HR.out, HK5.out⟩
end Go.Proofs.YtgifghbnpdanhaaGreatDoor

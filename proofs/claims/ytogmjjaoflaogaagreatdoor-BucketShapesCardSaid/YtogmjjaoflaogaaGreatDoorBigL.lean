/-
  millracebig.Int: QuoRem, Uint64, Int64.
-/
import Derived.Test.YtogmjjaoflaogaaGreatDoorBigI
import Derived.Test.YtogmjjaoflaogaaGreatDoorBigY
import Derived.Test.YtogmjjaoflaogaaGreatDoorBigE
import Derived.Deep.RegionHeld3
namespace Go.Proofs.YtogmjjaoflaogaaGreatDoor
open Go.RowKit

/-- What div serves: a divisor of at most two words. -/
structure DivOk (A B : Nat) : Prop where
  pos : 0 < B
  small : A < B ∨ (A : Int) < Bp 2 ∨ ((B : Int) < Bp 2 ∧ (A : Int) < Bp 40)
theorem div_any {v v' : Value} {A B : Nat} (w : World) (h : Num w v A) (h' : Num w v' B) (k : DivOk A B) :
    Calls Tryz.prog 83 #[v, v'] w fun e w' => Gives2 (A / B) (A % B) e w' ∧ Gr w w' := by
  obtain ⟨h0, hc⟩ := k
  rcases Nat.lt_or_ge A B with h1 | h1
  · exact div_less w h h' h1
  · by_cases h2 : (A : Int) < Bp 2
    · exact div_two w h h' h0 h1 h2
    · rcases hc with hc | hc | hc
      · omega
      · exact absurd hc h2
      · by_cases h3 : B < 4294967296
        · exact div_one w h h' h0 h3 (by omega) hc.2
        · exact div_long w h h' (by omega) (by have e : Bp 2 = 18446744073709551616 := rfl; omega) (by omega) hc.2

theorem signed_quo {x y : Int} : signed (!(decide (x < 0) == decide (y < 0))) (x.natAbs / y.natAbs) = x.tdiv y := by
  unfold signed
  by_cases h1 : x < 0 <;> by_cases h2 : y < 0
  · rw [decide_eq_true h1, decide_eq_true h2]
    obtain ⟨a, rfl⟩ : ∃ a : Nat, x = -(a : Int) := ⟨x.natAbs, by omega⟩
    obtain ⟨b, rfl⟩ : ∃ b : Nat, y = -(b : Int) := ⟨y.natAbs, by omega⟩
    simp [Int.neg_tdiv, Int.tdiv_neg, Int.natCast_tdiv_eq_ediv]
  · rw [decide_eq_true h1, decide_eq_false h2]
    obtain ⟨a, rfl⟩ : ∃ a : Nat, x = -(a : Int) := ⟨x.natAbs, by omega⟩
    obtain ⟨b, rfl⟩ : ∃ b : Nat, y = (b : Int) := ⟨y.natAbs, by omega⟩
    simp [Int.neg_tdiv]
  · rw [decide_eq_false h1, decide_eq_true h2]
    obtain ⟨a, rfl⟩ : ∃ a : Nat, x = (a : Int) := ⟨x.natAbs, by omega⟩
    obtain ⟨b, rfl⟩ : ∃ b : Nat, y = -(b : Int) := ⟨y.natAbs, by omega⟩
    simp [Int.tdiv_neg]
  · rw [decide_eq_false h1, decide_eq_false h2]
    obtain ⟨a, rfl⟩ : ∃ a : Nat, x = (a : Int) := ⟨x.natAbs, by omega⟩
    obtain ⟨b, rfl⟩ : ∃ b : Nat, y = (b : Int) := ⟨y.natAbs, by omega⟩
    simp
theorem signed_rem {x y : Int} : signed (decide (x < 0)) (x.natAbs % y.natAbs) = x.tmod y := by
  unfold signed
  by_cases h1 : x < 0
  · rw [decide_eq_true h1]
    obtain ⟨a, rfl⟩ : ∃ a : Nat, x = -(a : Int) := ⟨x.natAbs, by omega⟩
    rcases Int.natAbs_eq y with e | e <;> (rw [e]; simp [Int.neg_tmod, Int.tmod_neg]; exact (Int.tmod_eq_emod_of_nonneg (by omega)).symm)
  · rw [decide_eq_false h1]
    obtain ⟨a, rfl⟩ : ∃ a : Nat, x = (a : Int) := ⟨x.natAbs, by omega⟩
    rcases Int.natAbs_eq y with e | e <;> (rw [e]; simp [Int.tmod_neg]; exact (Int.tmod_eq_emod_of_nonneg (by omega)).symm)

set_option maxRecDepth 100000 in
set_option maxHeartbeats 8000000 in
/-- z and r apart: the quotient and the rest. -/
theorem quoRem_any (p o q r s t p' o' : Nat) (x y : Int) (w : World) (hs : Slot w p o) (hs' : Slot w p' o') (hx : IntAt w q r x) (hy : IntAt w s t y) (hd : DivOk x.natAbs y.natAbs) (hne : p' ≠ p) :
    Calls Tryz.prog 74 #[.pointer (some ⟨p, o, none⟩), .pointer (some ⟨q, r, none⟩), .pointer (some ⟨s, t, none⟩), .pointer (some ⟨p', o', none⟩)] w fun e w' =>
      e = .returned (.tuple #[.pointer (some ⟨p, o, none⟩), .pointer (some ⟨p', o', none⟩)]) ∧ ∃ w1, Only p o w w1 ∧ Only p' o' w1 w' ∧ Holds w' p o (x.tdiv y) ∧ Holds w' p' o' (x.tmod y) := by
  obtain ⟨c0, a, n, c, c1, hN⟩ := hx.open
  obtain ⟨e0, a', n', c', e1, hN'⟩ := hy.open
  have H := Lib.hid hN
  have H' := Lib.hid hN'
  have HS := Lib.hid hs
  have HS' := Lib.hid hs'
  have HO := Lib.hid (signed_quo (x := x) (y := y))
  have HO2 := Lib.hid (signed_rem (x := x) (y := y))
  clear hN hs hx hy hN' hs'
  generalize decide (x < 0) = b at *
  generalize decide (y < 0) = b2 at *
  go_enter Tryz.func74, Tryz.ntmps74
  go_wp2
  go_quiet (fail)
  go_wp2
  obtain ⟨w0, hw0⟩ : ∃ w0, w0 = w.drewN nq := ⟨_, rfl⟩
  have HG0 : Hid (Gr w w0) := Lib.hid (by rw [hw0]; exact (Gr.refl w).drewN _)
  rw [← hw0]
  clear hw0
  have d0 := HG0.out.cell c0
  have d1 := HG0.out.cell c1
  have f0 := HG0.out.cell e0
  have f1 := HG0.out.cell e1
  clear c0 c1 e0 e1
  have D1 := Lib.hid d1
  have F1 := Lib.hid f1
  go_region_held3 (fun w' => w'.cell? ⟨q, r + 1, none⟩ = some (.slice a n c) ∧ w'.cell? ⟨s, t + 1, none⟩ = some (.slice a' n' c'))
    (first
      | exact ⟨((Gr.refl w0).drew.trans hg1).cell D1.out, ((Gr.refl w0).drew.trans hg1).cell F1.out⟩
      | go_keep)
    (first
      | (go_at_call 83; refine (div_any _ (H.out.gr HG0.out.drew) (H'.out.gr HG0.out.drew) hd).mono ?_; rintro e w1 ⟨⟨q', t', rfl, hq, ht⟩, hg1⟩))
  have HG1 := Lib.hid (HG0.out.drew.trans hg1)
  have HQ := Lib.hid hq
  have HT := Lib.hid ht
  clear hq ht hg1
  have tok1 := trivial
  go_wp2_with (first
    | (go_at_call 65; have _ := tok1; refine (give_any p o _ _ (HS.out.gr HG1.out) HQ.out).mono ?_; rintro e w2 ⟨rfl, hh, ho⟩; rw [HO.out] at hh; have HH := Lib.hid hh; have HON := Lib.hid ho; have HT2 := Lib.hid (HT.out.only (HS.out.gr HG1.out) ho); have HS2 := Lib.hid ((HS'.out.gr HG1.out).only ho (.inl hne)); clear hh ho tok1; have tok2 := trivial)
    | (go_at_call 65; have _ := tok2; refine (give_any p' o' _ _ HS2.out HT2.out).mono ?_; rintro e w3 ⟨rfl, hh, ho⟩; rw [HO2.out] at hh; have HH2 := Lib.hid hh; have HON2 := Lib.hid ho; have HH3 := Lib.hid (HH.out.only HS2.out ho (.inl (Ne.symm hne))); clear hh ho tok2))
  go_ret2
  exact ⟨rfl, _, (Only.of_gr HG1.out).trans HON.out, HON2.out, HH3.out, HH2.out⟩

set_option maxRecDepth 100000 in
set_option maxHeartbeats 4000000 in
theorem u64_any (q r : Nat) (x : Int) (w : World) (hx : IntAt w q r x) (b : (x.natAbs : Int) < Bp 2) :
    Calls Tryz.prog 63 #[.pointer (some ⟨q, r, none⟩)] w fun e w' => e = .returned (.int .u64 (x.natAbs : Int)) ∧ Gr w w' := by
  obtain ⟨c0, a, n, c, c1, hN⟩ := hx.open
  obtain ⟨m, f, hW, hT, hV⟩ := hN
  have hl := len_of_lt hW.w32 hT (by rw [hV]; exact b)
  have hf := hW.w32
  obtain ⟨_, _, he, hcap, hA, _⟩ := hW
  simp at he
  obtain ⟨rfl, rfl, rfl⟩ := he
  have HV := Lib.hid hV
  have HA := Lib.hid hA
  clear hV hA hT b hx hcap
  have hcases : n = 0 ∨ n = 1 ∨ n = 2 := by omega
  clear hl
  rcases hcases with rfl | rfl | rfl
  · have HR : Hid ((0 : Int) = (x.natAbs : Int)) := Lib.hid HV.out
    clear HV HA hf
    go_enter Tryz.func63, Tryz.ntmps63
    go_wp2
    go_ret
    exact ⟨by rw [← HR.out]; rfl, Gr.refl _⟩
  · obtain ⟨g, rfl, hC⟩ := HA.out (by omega)
    have d0 := hC 0 (by omega)
    have b0 := hf 0 (by omega)
    have HR : Hid (f 0 = (x.natAbs : Int)) := Lib.hid (by rw [← HV.out]; simp [V, Bp])
    clear HV HA hf hC
    go_enter Tryz.func63, Tryz.ntmps63
    go_wp2
    go_ret
    exact ⟨by rw [← HR.out]; rfl, Gr.refl _⟩
  · obtain ⟨g, rfl, hC⟩ := HA.out (by omega)
    have d0 := hC 0 (by omega)
    have d1 := hC 1 (by omega)
    have b0 := hf 0 (by omega)
    have b1 := hf 1 (by omega)
    have HR : Hid (bits BinOp.or IntKind.u64 (f 0) (f 1 * 4294967296) = (x.natAbs : Int)) := Lib.hid (by rw [← HV.out, or_word b0 b1]; simp [V, Bp])
    clear HV HA hf hC
    go_enter Tryz.func63, Tryz.ntmps63
    go_wp2
    go_ret
    exact ⟨by rw [← HR.out]; rfl, Gr.refl _⟩

set_option maxRecDepth 100000 in
set_option maxHeartbeats 4000000 in
theorem i64_any (q r : Nat) (x : Int) (w : World) (hx : IntAt w q r x) (b : x.natAbs < 9223372036854775808) :
    Calls Tryz.prog 46 #[.pointer (some ⟨q, r, none⟩)] w fun e w' => e = .returned (.int .i64 x) ∧ Gr w w' := by
  have c0 := hx.1
  have C0 := Lib.hid c0
  have HU := Lib.hid (u64_any q r x w hx (by simp [Bp]; omega))
  have b1 : (x.natAbs : Int) < 9223372036854775808 := by omega
  have b2 : (0 : Int) ≤ (x.natAbs : Int) := by omega
  by_cases h0 : x < 0
  · have HE : Hid (-(x.natAbs : Int) = x) := Lib.hid (by omega)
    rw [decide_eq_true h0] at C0
    clear c0 b h0 hx
    generalize (x.natAbs : Int) = y at *
    go_enter Tryz.func46, Tryz.ntmps46
    go_wp2_with (go_at_call 63; refine HU.out.mono ?_; rintro e w1 ⟨rfl, hg1⟩; have c1 := hg1.cell C0.out; have HG1 := Lib.hid hg1; clear hg1)
    go_ret
    exact ⟨by rw [← HE.out]; rfl, HG1.out⟩
  · have HE : Hid ((x.natAbs : Int) = x) := Lib.hid (by omega)
    rw [decide_eq_false h0] at C0
    clear c0 b h0 hx
    generalize (x.natAbs : Int) = y at *
    go_enter Tryz.func46, Tryz.ntmps46
    go_wp2_with (go_at_call 63; refine HU.out.mono ?_; rintro e w1 ⟨rfl, hg1⟩; have c1 := hg1.cell C0.out; have HG1 := Lib.hid hg1; clear hg1)
    go_ret
    exact ⟨by rw [← HE.out]; rfl, HG1.out⟩
end Go.Proofs.YtogmjjaoflaogaaGreatDoor

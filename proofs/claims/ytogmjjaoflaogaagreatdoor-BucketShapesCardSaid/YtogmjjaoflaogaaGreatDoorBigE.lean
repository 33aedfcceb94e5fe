/-
  millracebig's words: div by plain numbers. millracebig's words: div of at most two words.
-/
import Derived.Test.YtogmjjaoflaogaaGreatDoorBigN
import Derived.Deep.RegionHeld3
namespace Go.Proofs.YtogmjjaoflaogaaGreatDoor
open Go.RowKit

/-- The call returns a quotient and a rest. -/
def Gives2 (A B : Nat) (e : Ending) (w' : World) : Prop := ∃ q r, e = .returned (.tuple #[q, r]) ∧ Num w' q A ∧ Num w' r B
theorem Gives2.mk {A B : Nat} {q r : Value} {w' : World} (h : Num w' q A) (h' : Num w' r B) : Gives2 A B (.returned (.tuple #[q, r])) w' := ⟨q, r, rfl, h, h'⟩
theorem Num.len {w : World} {a : Option Addr} {n cap k : Nat} {N : Nat} (h : Num w (.slice a n cap) N) (hN : (N : Int) < Bp k) : n ≤ k := by
  obtain ⟨m, f, h1, h2, h3⟩ := h
  have := len_of_lt h1.w32 h2 (by rw [h3]; exact hN)
  obtain ⟨_, _, h4, _⟩ := h1
  simp at h4
  omega
theorem Num.long {w : World} {a : Option Addr} {n cap k : Nat} {N : Nat} (h : Num w (.slice a n cap) N) (hN : Bp k ≤ (N : Int)) : k < n := by
  obtain ⟨m, f, h1, h2, h3⟩ := h
  have h5 := (V_in h1.w32).2
  obtain ⟨_, _, h4, _⟩ := h1
  simp at h4
  rcases Nat.lt_or_ge k n with h6 | h6
  · exact h6
  · have := Bp_mono h6
    rw [h4.2.1] at this
    omega
theorem Num.pos {w : World} {a : Option Addr} {n cap : Nat} {N : Nat} (h : Num w (.slice a n cap) N) (hN : 0 < N) : 0 < n := h.long (k := 0) (by show (1 : Int) ≤ _; omega)

theorem wrap_nat (q : Nat) (h : q < 18446744073709551616) : IntKind.u64.wrap (q : Int) = (q : Int) := by rw [IntKind.wrap_u64]; omega
/-- A has at most k words. -/
structure LtB (A k : Nat) : Prop where
  lt : (A : Int) < Bp k

set_option maxRecDepth 100000 in
set_option maxHeartbeats 4000000 in
theorem div_less {v v' : Value} {A B : Nat} (w : World) (h : Num w v A) (h' : Num w v' B) (hAB : A < B) :
    Calls Tryz.prog 83 #[v, v'] w fun e w' => Gives2 (A / B) (A % B) e w' ∧ Gr w w' := by
  obtain ⟨a, n, cap, rfl, hn, _⟩ := h.shape
  obtain ⟨a', n', cap', rfl, hn', _⟩ := h'.shape
  have hp := h'.pos (by omega)
  have H := Lib.hid h
  have H' := Lib.hid h'
  have HS := Lib.hid (sg_lt (show (A : Int) < (B : Int) by omega))
  have HZ : Hid (A / B = 0 ∧ A % B = A) := Lib.hid ⟨Nat.div_eq_of_lt hAB, Nat.mod_eq_of_lt hAB⟩
  clear h h' hAB
  have b1 : (0 : Int) < (n' : Int) := by omega
  have b2 : ((n' : Int) == 0) = false := by simp; omega
  go_enter Tryz.func83, Tryz.ntmps83
  go_wp2_with (first
    | (go_at_call 64; refine (cmp_any _ H.out H'.out).mono ?_; rintro e w1 ⟨rfl, hg1⟩; rw [HS.out]; have HG1 := Lib.hid hg1; clear hg1)
    | (go_at_call 75; refine (twin_any _ (H.out.gr HG1.out)).mono ?_; rintro e w2 ⟨⟨r, rfl, hr⟩, hg2⟩; have HG2 := Lib.hid (HG1.out.trans hg2); have HR := Lib.hid hr; clear hg2 hr))
  go_ret2
  exact ⟨.mk (by rw [HZ.out.1]; exact Num.zero _) (by rw [HZ.out.2]; exact HR.out), HG2.out⟩

theorem V_one (x : Nat) (hx : x < 4294967296) : W32 (fun _ => (x : Int)) 1 ∧ V (fun _ => (x : Int)) 1 = (x : Int) := by
  refine ⟨fun i _ => ?_, by simp [V, Bp]⟩
  show 0 ≤ (x : Int) ∧ (x : Int) < 4294967296
  omega
theorem Num.one {w : World} {a : Option Addr} {n cap : Nat} {N : Nat} (h : Num w (.slice a n cap) N) (h0 : 0 < N) (h1 : N < 4294967296) : n = 1 ∧ ∃ g, a = some ⟨g, 0, none⟩ ∧ w.cell? ⟨g, 0, none⟩ = some (.int .u32 (N : Int)) := by
  have hp := h.pos h0
  have hl := h.len (k := 1) (by simp [Bp]; omega)
  obtain rfl : n = 1 := by omega
  obtain ⟨m, f, ⟨_, _, h2, _, h3, _⟩, _, h4⟩ := h
  simp at h2
  obtain ⟨rfl, rfl, rfl⟩ := h2
  obtain ⟨g, h5, h6⟩ := h3 (by omega)
  refine ⟨rfl, g, h5, ?_⟩
  have := h6 0 (by omega)
  simp [V, Bp] at h4
  rw [this, h4]

set_option maxRecDepth 100000 in
set_option maxHeartbeats 4000000 in
theorem div_one {v v' : Value} {A B : Nat} (w : World) (h : Num w v A) (h' : Num w v' B) (h0 : 0 < B) (hB : B < 4294967296) (hA : Bp 2 ≤ (A : Int)) (hA' : (A : Int) < Bp 40) :
    Calls Tryz.prog 83 #[v, v'] w fun e w' => Gives2 (A / B) (A % B) e w' ∧ Gr w w' := by
  obtain ⟨a, n, cap, rfl, hn, _⟩ := h.shape
  obtain ⟨a', n', cap', rfl, hn', _⟩ := h'.shape
  obtain ⟨rfl, g', rfl, hc⟩ := h'.one h0 hB
  have hl := h.long hA
  have H := Lib.hid h
  have H' := Lib.hid h'
  have HC := Lib.hid hc
  have HX : LtB A 40 := ⟨hA'⟩
  have HS : Hid (sg (A : Int) (B : Int) = 1) := Lib.hid (sg_gt (by have : Bp 2 = 18446744073709551616 := rfl; omega))
  have HSM := Lib.hid (fun u (hu : Num u (.slice a n cap) A) => small_any u hu hA' h0 hB)
  have HV := Lib.hid (V_one (A % B) (by have := Nat.mod_lt A h0; omega))
  have b3 : (2 : Int) < (n : Int) := by omega
  have b5 : (n : Int) ≤ 1000000 := by omega
  clear h h' h0 hB hA hA' hc
  go_enter Tryz.func83, Tryz.ntmps83
  go_wp2_with (first
    | (go_at_call 64; refine (cmp_any _ H.out H'.out).mono ?_; rintro e w1 ⟨rfl, hg1⟩; rw [HS.out]; have c1 := hg1.cell HC.out; have HG1 := Lib.hid hg1; clear hg1)
    | (go_at_call 91; refine (HSM.out _ (H.out.gr HG1.out)).mono ?_; rintro e w2 ⟨⟨r, rfl, hr⟩, hg2⟩; have HG2 := Lib.hid (HG1.out.trans hg2); have HR := Lib.hid hr; clear hg2 hr)
    | (go_at_call 76; refine (trim_any (n := 1) (f := fun _ => ((A % B : Nat) : Int)) (N := A % B) _ ⟨_, _, rfl, ⟨by omega, fun e => by cases e⟩, fun _ => ⟨_, rfl, fun i hi => by
        obtain rfl : i = 0 := by omega
        simp⟩, HV.out.1⟩ HV.out.2).mono ?_; rintro e w' ⟨⟨r', rfl, hr⟩, rfl⟩; have HR2 := Lib.hid hr; clear hr))
  go_ret2
  exact ⟨.mk (HR.out.gr ((Gr.refl _).alloc _)) HR2.out, HG2.out.alloc _⟩

set_option maxRecDepth 100000 in
set_option maxHeartbeats 4000000 in
theorem div_two {v v' : Value} {A B : Nat} (w : World) (h : Num w v A) (h' : Num w v' B) (h0 : 0 < B) (hAB : B ≤ A) (hA : (A : Int) < Bp 2) :
    Calls Tryz.prog 83 #[v, v'] w fun e w' => Gives2 (A / B) (A % B) e w' ∧ Gr w w' := by
  obtain ⟨a, n, cap, rfl, hn, _⟩ := h.shape
  obtain ⟨a', n', cap', rfl, hn', _⟩ := h'.shape
  have hp := h'.pos h0
  have hl := h.len hA
  have hA2 : (A : Int) < 18446744073709551616 := by simpa [Bp] using hA
  have H := Lib.hid h
  have H' := Lib.hid h'
  have HS : Hid (sg (A : Int) (B : Int) = 0 ∨ sg (A : Int) (B : Int) = 1) := Lib.hid (by unfold sg; split; omega; split <;> simp)
  have HA : LtB A 2 := ⟨hA⟩
  have HB : LtB B 2 := ⟨by omega⟩
  have HW : Hid (∀ x : Nat, (x = A / B ∨ x = A % B) → ∀ u, Calls Tryz.prog 84 #[.int .u64 (x : Int)] u fun e w' => Gives x e w' ∧ Gr u w') := Lib.hid (fun x hx u => words_any x u (by
    have := Nat.div_le_self A B
    have := Nat.mod_le A B
    omega))
  have t3 : (A : Int) / (B : Int) = ((A / B : Nat) : Int) := (Int.natCast_ediv A B).symm
  have t4 : (A : Int) % (B : Int) = ((A % B : Nat) : Int) := (Int.natCast_emod A B).symm
  have t1 : (A : Int).tdiv (B : Int) = ((A / B : Nat) : Int) := by rw [Int.tdiv_eq_ediv_of_nonneg (by omega), t3]
  have t2 : (A : Int).tmod (B : Int) = ((A % B : Nat) : Int) := by rw [Int.tmod_eq_emod_of_nonneg (by omega), t4]
  have s1 := wrap_nat (A / B) (by have := Nat.div_le_self A B; omega)
  have s2 := wrap_nat (A % B) (by have := Nat.mod_le A B; omega)
  have b7 : ¬ B = 0 := by omega
  generalize A / B = q at *
  generalize A % B = r at *
  have hB0 : (0 : Int) < (B : Int) := by omega
  have hAB' : (B : Int) ≤ (A : Int) := by omega
  clear h h' hAB hA h0 hA2
  have b1 : (0 : Int) < (n' : Int) := by omega
  have b2 : ((n' : Int) == 0) = false := by simp; omega
  have b3 : (n : Int) ≤ 2 := by omega
  have b4 : ((B : Int) == 0) = false := by simp; omega
  obtain ⟨s, hs⟩ : ∃ s, s = sg (A : Int) (B : Int) := ⟨_, rfl⟩
  have HSS := Lib.hid hs
  have s0 : 0 ≤ s := by rcases HS.out with e | e <;> omega
  clear hs
  go_enter Tryz.func83, Tryz.ntmps83
  go_wp2_with (first
    | (go_at_call 64; refine (cmp_any _ H.out H'.out).mono ?_; rintro e w1 ⟨rfl, hg1⟩; rw [← HSS.out]; have HG1 := Lib.hid hg1; clear hg1; have tok1 := trivial)
    | (go_at_call 90; have _ := tok1; refine (plain_any _ (H.out.gr HG1.out) HA.lt).mono ?_; rintro e w2 ⟨rfl, rfl⟩; clear tok1; have tok2 := trivial)
    | (go_at_call 90; have _ := tok2; refine (plain_any _ (H'.out.gr HG1.out) HB.lt).mono ?_; rintro e w2 ⟨rfl, rfl⟩; clear tok2))
  go_region_held3 (fun _ => True) (trivial) (first
    | (go_at_call 84; have _ := tok3; refine (HW.out _ (by first | exact .inl rfl | exact .inr rfl) _).mono ?_; rintro e w3 ⟨⟨r3, rfl, hr⟩, hg2⟩; have HR := Lib.hid hr; have HGR := Lib.hid hg2; clear hg2 hr)
    | (go_at_call 84; refine (HW.out _ (by first | exact .inl rfl | exact .inr rfl) _).mono ?_; rintro e w2 ⟨⟨r, rfl, hr⟩, hg2⟩; have HQ := Lib.hid hr; have HGQ := Lib.hid hg2; clear hg2 hr; have tok3 := trivial))
  go_wp2
  go_ret2
  exact ⟨.mk (HQ.out.gr HGR.out) HR.out, (HG1.out.drew.trans HGQ.out).trans HGR.out⟩
end Go.Proofs.YtogmjjaoflaogaaGreatDoor

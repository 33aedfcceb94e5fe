/-
  millracebig's words: div by plain numbers. millracebig's words: div of at most two words. millracebig.Int: give, SetInt64, NewInt, Set, Neg. millracebig.Int: Set, Neg, Mul, Add, Sub, Uint64, Int64. millracebig.Int: Mul, Add, Sub.
-/
import Derived.Test.YtgifghbnpdanhaaGreatDoorBigN
import Derived.Deep.RegionHeld3
import Derived.Deep.RegionWith
import Derived.StillTailTactics
namespace Go.Proofs.YtgifghbnpdanhaaGreatDoor
open Go.RowKit

/-- The call returns a quotient and a rest. -/
def Gives2 (A B : Nat) (e : Ending) (w' : World) : Prop := ∃ q r, e = .returned (.tuple #[q, r]) ∧ Num w' q A ∧ Num w' r B
theorem Gives2.mk {A B : Nat} {q r : Value} {w' : World} (h : Num w' q A) (h' : Num w' r B) : Gives2 A B (.returned (.tuple #[q, r])) w' := ⟨q, r, rfl, h, h'⟩
theorem Num.len {w : World} {a : Option Addr} {n cap k : Nat} {N : Nat} (h : Num w (.slice a n cap) N) (hN : (N : Int) < Bp k) : n ≤ k := by
  obtain ⟨m, f, h1, h2, h3⟩ := h
  have := len_of_lt h1.w32 h2 (by rw [h3]; exact hN)
  obtain ⟨_, _, h4, _⟩ := h1
  simp at h4
  omega
theorem Num.long {w : World} {a : Option Addr} {n cap k : Nat} {N : Nat} (h : Num w (.slice a n cap) N) (hN : Bp k ≤ (N : Int)) : k < n := by
  obtain ⟨m, f, h1, h2, h3⟩ := h
  have h5 := (V_in h1.w32).2
  obtain ⟨_, _, h4, _⟩ := h1
  simp at h4
  rcases Nat.lt_or_ge k n with h6 | h6
  · exact h6
  · have := Bp_mono h6
    rw [h4.2.1] at this
    omega
theorem Num.pos {w : World} {a : Option Addr} {n cap : Nat} {N : Nat} (h : Num w (.slice a n cap) N) (hN : 0 < N) : 0 < n := h.long (k := 0) (by show (1 : Int) ≤ _; omega)

theorem wrap_nat (q : Nat) (h : q < 18446744073709551616) : IntKind.u64.wrap (q : Int) = (q : Int) := by rw [IntKind.wrap_u64]; omega
/-- A has at most k words. -/
structure LtB (A k : Nat) : Prop where
  lt : (A : Int) < Bp k

set_option maxRecDepth 100000 in
set_option maxHeartbeats 4000000 in
theorem div_less {v v' : Value} {A B : Nat} (w : World) (h : Num w v A) (h' : Num w v' B) (hAB : A < B) :
    Calls Tryz.prog 53 #[v, v'] w fun e w' => Gives2 (A / B) (A % B) e w' ∧ Gr w w' := by
  obtain ⟨a, n, cap, rfl, hn, _⟩ := h.shape
  obtain ⟨a', n', cap', rfl, hn', _⟩ := h'.shape
  have hp := h'.pos (by omega)
  have H := Lib.hid h
  have H' := Lib.hid h'
  have HS := Lib.hid (sg_lt (show (A : Int) < (B : Int) by omega))
  have HZ : Hid (A / B = 0 ∧ A % B = A) := Lib.hid ⟨Nat.div_eq_of_lt hAB, Nat.mod_eq_of_lt hAB⟩
  clear h h' hAB
  have b1 : (0 : Int) < (n' : Int) := by omega
  have b2 : ((n' : Int) == 0) = false := by simp; omega
  go_enter Tryz.func53, Tryz.ntmps53
  go_wp2_with (first
    | (go_at_call 56; refine (cmp_any _ H.out H'.out).mono ?_; rintro e w1 ⟨rfl, hg1⟩; rw [HS.out]; have HG1 := Lib.hid hg1; clear hg1)
    | (go_at_call 50; refine (twin_any _ (H.out.gr HG1.out)).mono ?_; rintro e w2 ⟨⟨r, rfl, hr⟩, hg2⟩; have HG2 := Lib.hid (HG1.out.trans hg2); have HR := Lib.hid hr; clear hg2 hr))
  go_ret2
  exact ⟨.mk (by rw [HZ.out.1]; exact Num.zero _) (by rw [HZ.out.2]; exact HR.out), HG2.out⟩

theorem V_one (x : Nat) (hx : x < 4294967296) : W32 (fun _ => (x : Int)) 1 ∧ V (fun _ => (x : Int)) 1 = (x : Int) := by
  refine ⟨fun i _ => ?_, by simp [V, Bp]⟩
  show 0 ≤ (x : Int) ∧ (x : Int) < 4294967296
  omega
theorem Num.one {w : World} {a : Option Addr} {n cap : Nat} {N : Nat} (h : Num w (.slice a n cap) N) (h0 : 0 < N) (h1 : N < 4294967296) : n = 1 ∧ ∃ g, a = some ⟨g, 0, none⟩ ∧ w.cell? ⟨g, 0, none⟩ = some (.int .u32 (N : Int)) := by
  have hp := h.pos h0
  have hl := h.len (k := 1) (by simp [Bp]; omega)
  obtain rfl : n = 1 := by omega
  obtain ⟨m, f, ⟨_, _, h2, _, h3, _⟩, _, h4⟩ := h
  simp at h2
  obtain ⟨rfl, rfl, rfl⟩ := h2
  obtain ⟨g, h5, h6⟩ := h3 (by omega)
  refine ⟨rfl, g, h5, ?_⟩
  have := h6 0 (by omega)
  simp [V, Bp] at h4
  rw [this, h4]

set_option maxRecDepth 100000 in
set_option maxHeartbeats 4000000 in
theorem div_one {v v' : Value} {A B : Nat} (w : World) (h : Num w v A) (h' : Num w v' B) (h0 : 0 < B) (hB : B < 4294967296) (hA : Bp 2 ≤ (A : Int)) (hA' : (A : Int) < Bp 40) :
    Calls Tryz.prog 53 #[v, v'] w fun e w' => Gives2 (A / B) (A % B) e w' ∧ Gr w w' := by
  obtain ⟨a, n, cap, rfl, hn, _⟩ := h.shape
  obtain ⟨a', n', cap', rfl, hn', _⟩ := h'.shape
  obtain ⟨rfl, g', rfl, hc⟩ := h'.one h0 hB
  have hl := h.long hA
  have H := Lib.hid h
  have H' := Lib.hid h'
  have HC := Lib.hid hc
  have HX : LtB A 40 := ⟨hA'⟩
  have HS : Hid (sg (A : Int) (B : Int) = 1) := Lib.hid (sg_gt (by have : Bp 2 = 18446744073709551616 := rfl; omega))
  have HSM := Lib.hid (fun u (hu : Num u (.slice a n cap) A) => small_any u hu hA' h0 hB)
  have HV := Lib.hid (V_one (A % B) (by have := Nat.mod_lt A h0; omega))
  have b3 : (2 : Int) < (n : Int) := by omega
  have b5 : (n : Int) ≤ 1000000 := by omega
  clear h h' h0 hB hA hA' hc
  go_enter Tryz.func53, Tryz.ntmps53
  go_wp2_with (first
    | (go_at_call 56; refine (cmp_any _ H.out H'.out).mono ?_; rintro e w1 ⟨rfl, hg1⟩; rw [HS.out]; have c1 := hg1.cell HC.out; have HG1 := Lib.hid hg1; clear hg1)
    | (go_at_call 57; refine (HSM.out _ (H.out.gr HG1.out)).mono ?_; rintro e w2 ⟨⟨r, rfl, hr⟩, hg2⟩; have HG2 := Lib.hid (HG1.out.trans hg2); have HR := Lib.hid hr; clear hg2 hr)
    | (go_at_call 58; refine (trim_any (n := 1) (f := fun _ => ((A % B : Nat) : Int)) (N := A % B) _ ⟨_, _, rfl, ⟨by omega, fun e => by cases e⟩, fun _ => ⟨_, rfl, fun i hi => by
        obtain rfl : i = 0 := by omega
        simp⟩, HV.out.1⟩ HV.out.2).mono ?_; rintro e w' ⟨⟨r', rfl, hr⟩, rfl⟩; have HR2 := Lib.hid hr; clear hr))
  go_ret2
  exact ⟨.mk (HR.out.gr ((Gr.refl _).alloc _)) HR2.out, HG2.out.alloc _⟩

set_option maxRecDepth 100000 in
set_option maxHeartbeats 4000000 in
theorem div_two {v v' : Value} {A B : Nat} (w : World) (h : Num w v A) (h' : Num w v' B) (h0 : 0 < B) (hAB : B ≤ A) (hA : (A : Int) < Bp 2) :
    Calls Tryz.prog 53 #[v, v'] w fun e w' => Gives2 (A / B) (A % B) e w' ∧ Gr w w' := by
  obtain ⟨a, n, cap, rfl, hn, _⟩ := h.shape
  obtain ⟨a', n', cap', rfl, hn', _⟩ := h'.shape
  have hp := h'.pos h0
  have hl := h.len hA
  have hA2 : (A : Int) < 18446744073709551616 := by simpa [Bp] using hA
  have H := Lib.hid h
  have H' := Lib.hid h'
  have HS : Hid (sg (A : Int) (B : Int) = 0 ∨ sg (A : Int) (B : Int) = 1) := Lib.hid (by unfold sg; split; omega; split <;> simp)
  have HA : LtB A 2 := ⟨hA⟩
  have HB : LtB B 2 := ⟨by omega⟩
  have HW : Hid (∀ x : Nat, (x = A / B ∨ x = A % B) → ∀ u, Calls Tryz.prog 54 #[.int .u64 (x : Int)] u fun e w' => Gives x e w' ∧ Gr u w') := Lib.hid (fun x hx u => words_any x u (by
    have := Nat.div_le_self A B
    have := Nat.mod_le A B
    omega))
  have t3 : (A : Int) / (B : Int) = ((A / B : Nat) : Int) := (Int.natCast_ediv A B).symm
  have t4 : (A : Int) % (B : Int) = ((A % B : Nat) : Int) := (Int.natCast_emod A B).symm
  have t1 : (A : Int).tdiv (B : Int) = ((A / B : Nat) : Int) := by rw [Int.tdiv_eq_ediv_of_nonneg (by omega), t3]
  have t2 : (A : Int).tmod (B : Int) = ((A % B : Nat) : Int) := by rw [Int.tmod_eq_emod_of_nonneg (by omega), t4]
  have s1 := wrap_nat (A / B) (by have := Nat.div_le_self A B; omega)
  have s2 := wrap_nat (A % B) (by have := Nat.mod_le A B; omega)
  have b7 : ¬ B = 0 := by omega
  generalize A / B = q at *
  generalize A % B = r at *
  have hB0 : (0 : Int) < (B : Int) := by omega
  have hAB' : (B : Int) ≤ (A : Int) := by omega
  clear h h' hAB hA h0 hA2
  have b1 : (0 : Int) < (n' : Int) := by omega
  have b2 : ((n' : Int) == 0) = false := by simp; omega
  have b3 : (n : Int) ≤ 2 := by omega
  have b4 : ((B : Int) == 0) = false := by simp; omega
  obtain ⟨s, hs⟩ : ∃ s, s = sg (A : Int) (B : Int) := ⟨_, rfl⟩
  have HSS := Lib.hid hs
  have s0 : 0 ≤ s := by rcases HS.out with e | e <;> omega
  clear hs
  go_enter Tryz.func53, Tryz.ntmps53
  go_wp2_with (first
    | (go_at_call 56; refine (cmp_any _ H.out H'.out).mono ?_; rintro e w1 ⟨rfl, hg1⟩; rw [← HSS.out]; have HG1 := Lib.hid hg1; clear hg1; have tok1 := trivial)
    | (go_at_call 55; have _ := tok1; refine (plain_any _ (H.out.gr HG1.out) HA.lt).mono ?_; rintro e w2 ⟨rfl, rfl⟩; clear tok1; have tok2 := trivial)
    | (go_at_call 55; have _ := tok2; refine (plain_any _ (H'.out.gr HG1.out) HB.lt).mono ?_; rintro e w2 ⟨rfl, rfl⟩; clear tok2))
  go_region_held3 (fun _ => True) (trivial) (first
    | (go_at_call 54; have _ := tok3; refine (HW.out _ (by first | exact .inl rfl | exact .inr rfl) _).mono ?_; rintro e w3 ⟨⟨r3, rfl, hr⟩, hg2⟩; have HR := Lib.hid hr; have HGR := Lib.hid hg2; clear hg2 hr)
    | (go_at_call 54; refine (HW.out _ (by first | exact .inl rfl | exact .inr rfl) _).mono ?_; rintro e w2 ⟨⟨r, rfl, hr⟩, hg2⟩; have HQ := Lib.hid hr; have HGQ := Lib.hid hg2; clear hg2 hr; have tok3 := trivial))
  go_wp2
  go_ret2
  exact ⟨.mk (HQ.out.gr HGR.out) HR.out, (HG1.out.drew.trans HGQ.out).trans HGR.out⟩

/-- In w' block p's cells o and o + 1 have other values than in w; all else that was there is as it was. -/
structure Only (p o : Nat) (w w' : World) : Prop where
  gr : ∀ u, Gr u w → u.heap.size ≤ p → Gr u w'
  size : w.heap.size ≤ w'.heap.size
  cell : ∀ q i, q < w.heap.size → (q ≠ p ∨ (i ≠ o ∧ i ≠ o + 1)) → w'.cell? ⟨q, i, none⟩ = w.cell? ⟨q, i, none⟩
  frozen : ∀ q i, q < w.heap.size → w'.frozen? ⟨q, i, none⟩ = w.frozen? ⟨q, i, none⟩
  block : ∀ q, q < w.heap.size → q ≠ p → w'.heap[q]? = w.heap[q]?
theorem Only.of_gr {p o : Nat} {w w' : World} (h : Gr w w') : Only p o w w' :=
  ⟨fun _ hu _ => hu.trans h, h.size, fun q i hq _ => h.cells q i hq, fun q i hq => h.frozen (p := ⟨q, i, none⟩) hq, fun _ hq _ => h.block hq⟩
theorem Only.refl (p o : Nat) (w : World) : Only p o w w := .of_gr (Gr.refl w)
theorem Only.trans {p o : Nat} {a b c : World} (h : Only p o a b) (k : Only p o b c) : Only p o a c :=
  ⟨fun u hu hp => k.gr u (h.gr u hu hp) hp, Nat.le_trans h.size k.size, fun q i hq ho => (k.cell q i (Nat.lt_of_lt_of_le hq h.size) ho).trans (h.cell q i hq ho), fun q i hq => (k.frozen q i (Nat.lt_of_lt_of_le hq h.size)).trans (h.frozen q i hq), fun q hq hne => (k.block q (Nat.lt_of_lt_of_le hq h.size) hne).trans (h.block q hq hne)⟩
theorem Only.new {p o : Nat} {w w' : World} (h : Only p o w w') {u : World} (hu : Gr u w) (hp : u.heap.size ≤ p) : Gr u w' := h.gr u hu hp

/-- An Int's two cells, that may be written. -/
structure Slot (w : World) (p o : Nat) : Prop where
  lt : p < w.heap.size
  neg : ∃ b, w.cell? ⟨p, o, none⟩ = some (.bool b)
  abs : ∃ a n c, w.cell? ⟨p, o + 1, none⟩ = some (.slice a n c)
  f0 : w.frozen? ⟨p, o, none⟩ = false
  f1 : w.frozen? ⟨p, o + 1, none⟩ = false
theorem Slot.gr {w w' : World} {p o : Nat} (h : Slot w p o) (k : Gr w w') : Slot w' p o := by
  obtain ⟨h0, ⟨b, h1⟩, ⟨a, n, c, h2⟩, h3, h4⟩ := h
  exact ⟨Nat.lt_of_lt_of_le h0 k.size, ⟨b, k.cell h1⟩, ⟨a, n, c, k.cell h2⟩, by rw [k.frozen (p := ⟨p, o, none⟩) h0]; exact h3, by rw [k.frozen (p := ⟨p, o + 1, none⟩) h0]; exact h4⟩
/-- The Int at block p, offset o, is a. -/
def IntAt (w : World) (p o : Nat) (a : Int) : Prop := w.cell? ⟨p, o, none⟩ = some (.bool (decide (a < 0))) ∧ ∃ v, w.cell? ⟨p, o + 1, none⟩ = some v ∧ Num w v a.natAbs
theorem IntAt.gr {w w' : World} {p o : Nat} {a : Int} (h : IntAt w p o a) (k : Gr w w') : IntAt w' p o a := by
  obtain ⟨h1, v, h2, h3⟩ := h
  exact ⟨k.cell h1, v, k.cell h2, h3.gr k⟩
theorem Num.only {w w' : World} {p o : Nat} {v : Value} {N : Nat} (h : Num w v N) (hs : Slot w p o) (k : Only p o w w') : Num w' v N := by
  obtain ⟨n, f, ⟨a, cap, h1, h2, h3, h4⟩, h5, h6⟩ := h
  refine ⟨n, f, ⟨a, cap, h1, h2, fun h0 => ?_, h4⟩, h5, h6⟩
  obtain ⟨g, h7, h8⟩ := h3 h0
  refine ⟨g, h7, fun i hi => ?_⟩
  have h9 := h8 i hi
  rw [k.cell g i (cell_lt h9) ?_]
  · exact h9
  · by_cases e : g = p
    · subst e
      obtain ⟨_, ⟨b, hb⟩, ⟨a', n', c', ha⟩, _, _⟩ := hs
      refine .inr ⟨fun e => ?_, fun e => ?_⟩
      · subst e; rw [h9] at hb; simp at hb
      · subst e; rw [h9] at ha; simp at ha
    · exact .inl e
theorem IntAt.only {w w' : World} {p o p' o' : Nat} {a : Int} (h : IntAt w p' o' a) (hs : Slot w p o) (k : Only p o w w') (hne : p' ≠ p ∨ (o' ≠ o ∧ o' ≠ o + 1 ∧ o' + 1 ≠ o)) : IntAt w' p' o' a := by
  obtain ⟨h1, v, h2, h3⟩ := h
  refine ⟨?_, v, ?_, h3.only hs k⟩
  · rw [k.cell p' o' (cell_lt h1) (by omega)]; exact h1
  · rw [k.cell p' (o' + 1) (cell_lt h2) (by omega)]; exact h2
theorem Slot.only {w w' : World} {p o p' o' : Nat} (h : Slot w p' o') (k : Only p o w w') (hne : p' ≠ p ∨ (o' ≠ o ∧ o' ≠ o + 1 ∧ o' + 1 ≠ o)) : Slot w' p' o' := by
  obtain ⟨h0, ⟨b, h1⟩, ⟨a, n, c, h2⟩, h3, h4⟩ := h
  exact ⟨Nat.lt_of_lt_of_le h0 k.size, ⟨b, by rw [k.cell p' o' h0 (by omega)]; exact h1⟩, ⟨a, n, c, by rw [k.cell p' (o' + 1) h0 (by omega)]; exact h2⟩, by rw [k.frozen _ _ h0]; exact h3, by rw [k.frozen _ _ h0]; exact h4⟩
/-- An Int's slot that holds a. -/
structure Holds (w : World) (p o : Nat) (a : Int) : Prop where
  slot : Slot w p o
  int : IntAt w p o a
theorem Holds.gr {w w' : World} {p o : Nat} {a : Int} (h : Holds w p o a) (k : Gr w w') : Holds w' p o a := ⟨h.slot.gr k, h.int.gr k⟩
theorem Holds.only {w w' : World} {p o p' o' : Nat} {a : Int} (h : Holds w p' o' a) (hs : Slot w p o) (k : Only p o w w') (hne : p' ≠ p ∨ (o' ≠ o ∧ o' ≠ o + 1 ∧ o' + 1 ≠ o)) : Holds w' p' o' a := ⟨h.slot.only k hne, h.int.only hs k hne⟩

/-- What give stores. -/
def signed (b : Bool) (N : Nat) : Int := if b then -(N : Int) else (N : Int)
theorem signed_abs (b : Bool) (N : Nat) : (signed b N).natAbs = N := by unfold signed; split <;> omega
theorem signed_neg (b : Bool) (N : Nat) : decide (signed b N < 0) = (b && decide (0 < N)) := by
  unfold signed
  cases b
  · simp
  · simp
theorem signed_of {a : Int} : signed (decide (a < 0)) a.natAbs = a := by unfold signed; split <;> simp_all <;> omega

theorem set_only {w : World} {p o : Nat} {x y : Value} : Only p o w ((w.setCell ⟨p, o + 1, none⟩ y).setCell ⟨p, o, none⟩ x) :=
  ⟨fun u hu hp => (hu.setCell hp _).setCell hp _, by simp, fun q i hq ho => by
    rw [World.cell?_setCell_other _ _ _ _ (by simp; omega), World.cell?_setCell_other _ _ _ _ (by simp; omega)], fun q i hq => by simp, fun q _ hne => (Below.heap_setCell _ _ _ _ hne).trans (Below.heap_setCell _ _ _ _ hne)⟩

/-- The call returns a pointer to z's slot, that holds a now; nothing else has turned. -/
def Gave (p o : Nat) (a : Int) (w : World) (e : Ending) (w' : World) : Prop := e = .returned (.pointer (some ⟨p, o, none⟩)) ∧ Holds w' p o a ∧ Only p o w w'

theorem gave_store {a : Option Addr} {n cap N : Nat} {p o : Nat} {b x : Bool} {w : World} (hs : Slot w p o) (h : Num w (.slice a n cap) N) (hx : x = (b && decide (0 < N))) :
    Holds ((w.setCell ⟨p, o + 1, none⟩ (.slice a n cap)).setCell ⟨p, o, none⟩ (.bool x)) p o (signed b N) := by
  obtain ⟨h0, ⟨b0, h1⟩, ⟨a1, n1, q1, h2⟩, h3, h4⟩ := hs
  have e0 : (w.setCell ⟨p, o + 1, none⟩ (.slice a n cap)).cell? ⟨p, o, none⟩ = some (.bool b0) := by
    rw [World.cell?_setCell_other _ _ _ _ (by simp)]; exact h1
  have e1 : ((w.setCell ⟨p, o + 1, none⟩ (.slice a n cap)).setCell ⟨p, o, none⟩ (.bool x)).cell? ⟨p, o, none⟩ = some (.bool x) := World.cell?_setCell_same _ _ _ (u := .bool b0) e0
  have e2 : ((w.setCell ⟨p, o + 1, none⟩ (.slice a n cap)).setCell ⟨p, o, none⟩ (.bool x)).cell? ⟨p, o + 1, none⟩ = some (.slice a n cap) := by
    rw [World.cell?_setCell_other _ _ _ _ (by simp)]; exact World.cell?_setCell_same _ _ _ (u := .slice a1 n1 q1) h2
  refine ⟨⟨by simpa using h0, ⟨_, e1⟩, ⟨_, _, _, e2⟩, by simpa using h3, by simpa using h4⟩, ?_, _, e2, ?_⟩
  · rw [e1, signed_neg, hx]
  · rw [signed_abs]
    exact h.only ⟨h0, ⟨b0, h1⟩, ⟨a1, n1, q1, h2⟩, h3, h4⟩ set_only

set_option maxRecDepth 100000 in
set_option maxHeartbeats 4000000 in
theorem give_any {v : Value} {N : Nat} (p o : Nat) (b : Bool) (w : World) (hs : Slot w p o) (h : Num w v N) :
    Calls Tryz.prog 49 #[.pointer (some ⟨p, o, none⟩), .bool b, v] w (Gave p o (signed b N) w) := by
  obtain ⟨a, n, cap, rfl, hn, hz⟩ := h.shape
  have H := Lib.hid h
  have HS := Lib.hid hs
  obtain ⟨_, ⟨b0, h1⟩, ⟨a1, n1, q1, h2⟩, h3, h4⟩ := hs
  have hn' : (n : Int) ≤ 1000000 := by omega
  have HZ : Hid (decide (0 < N) = decide (0 < n)) := Lib.hid (by
    by_cases e : n = 0
    · have := hz.1 e; subst e; subst this; rfl
    · have : N ≠ 0 := fun e2 => e (hz.2 e2)
      rw [decide_eq_true (by omega), decide_eq_true (by omega)])
  clear h hz
  have h5 : (w.setCell ⟨p, o + 1, none⟩ (.slice a n cap)).cell? ⟨p, o, none⟩ = some (.bool b0) := by
    rw [World.cell?_setCell_other _ _ _ _ (by simp)]; exact h1
  cases b
  · go_enter Tryz.func49, Tryz.ntmps49
    go_wp2
    go_ret
    exact ⟨rfl, gave_store HS.out H.out rfl, set_only⟩
  · go_enter Tryz.func49, Tryz.ntmps49
    go_wp2
    go_ret
    exact ⟨rfl, gave_store HS.out H.out (by rw [Bool.true_and, HZ.out]), set_only⟩

/-- The call returns a pointer to a new Int that holds a. -/
def New (a : Int) (w : World) (e : Ending) (w' : World) : Prop := ∃ p, e = .returned (.pointer (some ⟨p, 0, none⟩)) ∧ w.heap.size ≤ p ∧ Holds w' p 0 a ∧ Gr w w'
theorem slot_new (w : World) {n : Nat} (hn : n = w.heap.size) : Slot (w.alloc (.cells #[.bool false, .slice none 0 0] 140)) n 0 := by
  subst hn
  exact ⟨by simp, ⟨false, by simp⟩, ⟨none, 0, 0, by simp⟩, by simp, by simp⟩

/-- What SetInt64 hands on, as a number of 64 bits. -/
theorem abs_u64 {x : Int} (h : -9223372036854775808 ≤ x ∧ x ≤ 9223372036854775807) : (x < 0 → IntKind.u64.wrap (-IntKind.u64.wrap x) = (x.natAbs : Int)) ∧ (0 ≤ x → IntKind.u64.wrap x = (x.natAbs : Int)) := by
  simp only [IntKind.wrap_u64]
  constructor <;> intro h0 <;> omega

set_option maxRecDepth 100000 in
set_option maxHeartbeats 4000000 in
theorem set64_any (p o : Nat) (x : Int) (w : World) (hs : Slot w p o) (hx : -9223372036854775808 ≤ x ∧ x ≤ 9223372036854775807) :
    Calls Tryz.prog 45 #[.pointer (some ⟨p, o, none⟩), .int .i64 x] w (Gave p o x w) := by
  have HA := Lib.hid (abs_u64 hx)
  have HS := Lib.hid hs
  have HW := Lib.hid (fun u => words_any x.natAbs u (by omega))
  have HO := Lib.hid (signed_of (a := x))
  clear hs
  by_cases h0 : x < 0
  · have HE := Lib.hid (HA.out.1 h0)
    have HD : Hid (decide (x < 0) = true) := Lib.hid (by simpa using h0)
    rw [HD.out] at HO
    clear HA HD
    go_enter Tryz.func45, Tryz.ntmps45
    go_wp2_with (first
      | (go_at_call 54; rw [HE.out]; refine (HW.out _).mono ?_; rintro e w1 ⟨⟨r, rfl, hr⟩, hg1⟩; have HG1 := Lib.hid hg1; have HR := Lib.hid hr; clear hg1 hr)
      | (go_at_call 49; refine (give_any p o true _ (HS.out.gr HG1.out) HR.out).mono ?_; rintro e w2 ⟨rfl, hh, ho⟩; rw [HO.out] at hh; have HH := Lib.hid hh; have HO2 := Lib.hid ((Only.of_gr HG1.out).trans ho); clear hh ho))
    go_ret
    exact ⟨rfl, HH.out, HO2.out⟩
  · have HW2 : Hid (∀ u, Calls Tryz.prog 54 #[.int .u64 x] u fun e w' => Gives x.natAbs e w' ∧ Gr u w') := Lib.hid (fun u => by
      have := HW.out u
      rw [Int.natAbs_of_nonneg (by omega)] at this
      exact this)
    have HD : Hid (decide (x < 0) = false) := Lib.hid (by simpa using h0)
    rw [HD.out] at HO
    clear HA HD
    have h1 : 0 ≤ x := by omega
    go_enter Tryz.func45, Tryz.ntmps45
    go_wp2_with (first
      | (go_at_call 54; refine (HW2.out _).mono ?_; rintro e w1 ⟨⟨r, rfl, hr⟩, hg1⟩; have HG1 := Lib.hid hg1; have HR := Lib.hid hr; clear hg1 hr)
      | (go_at_call 49; refine (give_any p o false _ (HS.out.gr HG1.out) HR.out).mono ?_; rintro e w2 ⟨rfl, hh, ho⟩; rw [HO.out] at hh; have HH := Lib.hid hh; have HO2 := Lib.hid ((Only.of_gr HG1.out).trans ho); clear hh ho))
    go_ret
    exact ⟨rfl, HH.out, HO2.out⟩

set_option maxRecDepth 100000 in
set_option maxHeartbeats 4000000 in
theorem newInt_any (x : Int) (w : World) (hx : -9223372036854775808 ≤ x ∧ x ≤ 9223372036854775807) :
    Calls Tryz.prog 38 #[.int .i64 x] w (New x w) := by
  go_enter Tryz.func38, Tryz.ntmps38
  go_wp2_with (go_at_call 45; refine (set64_any _ 0 x _ (slot_new w rfl) hx).mono ?_; rintro e w1 ⟨rfl, hh, ho⟩; have HH := Lib.hid hh; have HO := Lib.hid ho; clear hh ho)
  go_ret
  exact ⟨_, rfl, Nat.le_refl _, HH.out, HO.out.gr _ ((Gr.refl w).alloc _) (Nat.le_refl _)⟩

theorem IntAt.open {w : World} {p o : Nat} {x : Int} (h : IntAt w p o x) : w.cell? ⟨p, o, none⟩ = some (.bool (decide (x < 0))) ∧ ∃ a n c, w.cell? ⟨p, o + 1, none⟩ = some (.slice a n c) ∧ Num w (.slice a n c) x.natAbs := by
  obtain ⟨h1, v, h2, h3⟩ := h
  obtain ⟨a, n, c, rfl, _⟩ := h3.shape
  exact ⟨h1, a, n, c, h2, h3⟩
theorem signed_not {a : Int} : signed (!decide (a < 0)) a.natAbs = -a := by unfold signed; by_cases h : a < 0 <;> simp [h] <;> omega

set_option maxRecDepth 100000 in
set_option maxHeartbeats 4000000 in
theorem set_any (p o q r : Nat) (x : Int) (w : World) (hs : Slot w p o) (hx : IntAt w q r x) :
    Calls Tryz.prog 43 #[.pointer (some ⟨p, o, none⟩), .pointer (some ⟨q, r, none⟩)] w (Gave p o x w) := by
  obtain ⟨c0, a, n, c, c1, hN⟩ := hx.open
  have C0 := Lib.hid c0
  have C1 := Lib.hid c1
  have H := Lib.hid hN
  have HS := Lib.hid hs
  have HO := Lib.hid (signed_of (a := x))
  clear hN hs hx
  generalize decide (x < 0) = b at *
  go_enter Tryz.func43, Tryz.ntmps43
  go_wp2
  go_region_with (first
      | (go_at_call 50; refine (twin_any _ (H.out.gr ((Gr.refl w).drew))).mono ?_; rintro e w1 ⟨⟨r', rfl, hr⟩, hg1⟩; have d0 := (((Gr.refl w).drew).trans hg1).cell C0.out; have d1 := (((Gr.refl w).drew).trans hg1).cell C1.out; have HR := Lib.hid hr; have HG1 := Lib.hid hg1; clear hr hg1)
      | (go_at_call 49; refine (give_any p o b _ (HS.out.gr (((Gr.refl w).drew).trans HG1.out)) HR.out).mono ?_; rintro e w2 ⟨rfl, hh, ho⟩; rw [HO.out] at hh; have HH := Lib.hid hh; have HOO := Lib.hid ((Only.of_gr (((Gr.refl w).drew).trans HG1.out)).trans ho); clear hh ho))
  all_goals
    go_wp2
    go_ret
    exact ⟨rfl, HH.out, HOO.out⟩

set_option maxRecDepth 100000 in
set_option maxHeartbeats 4000000 in
theorem neg_any (p o q r : Nat) (x : Int) (w : World) (hs : Slot w p o) (hx : IntAt w q r x) :
    Calls Tryz.prog 51 #[.pointer (some ⟨p, o, none⟩), .pointer (some ⟨q, r, none⟩)] w (Gave p o (-x) w) := by
  obtain ⟨c0, a, n, c, c1, hN⟩ := hx.open
  have C0 := Lib.hid c0
  have C1 := Lib.hid c1
  have H := Lib.hid hN
  have HS := Lib.hid hs
  have HO := Lib.hid (signed_not (a := x))
  clear hN hs hx
  generalize decide (x < 0) = b at *
  generalize hb : (!b) = b' at *
  go_enter Tryz.func51, Tryz.ntmps51
  go_wp2
  go_region_with (first
      | (go_at_call 50; refine (twin_any _ (H.out.gr ((Gr.refl w).drew))).mono ?_; rintro e w1 ⟨⟨r', rfl, hr⟩, hg1⟩; have d0 := (((Gr.refl w).drew).trans hg1).cell C0.out; have d1 := (((Gr.refl w).drew).trans hg1).cell C1.out; have HR := Lib.hid hr; have HG1 := Lib.hid hg1; clear hr hg1)
      | (go_at_call 49; refine (give_any p o b' _ (HS.out.gr (((Gr.refl w).drew).trans HG1.out)) HR.out).mono ?_; rintro e w2 ⟨rfl, hh, ho⟩; rw [HO.out] at hh; have HH := Lib.hid hh; have HOO := Lib.hid ((Only.of_gr (((Gr.refl w).drew).trans HG1.out)).trans ho); clear hh ho))
  all_goals
    go_wp2
    go_ret
    exact ⟨rfl, HH.out, HOO.out⟩

theorem signed_mul {a b : Int} : signed (!(decide (a < 0) == decide (b < 0))) (a.natAbs * b.natAbs) = a * b := by
  have h : ((a.natAbs * b.natAbs : Nat) : Int) = (a.natAbs : Int) * (b.natAbs : Int) := by simp
  unfold signed
  rw [h]
  by_cases h1 : a < 0 <;> by_cases h2 : b < 0
  · rw [decide_eq_true h1, decide_eq_true h2, show (a.natAbs : Int) = -a by omega, show (b.natAbs : Int) = -b by omega]; simp [Int.neg_mul, Int.mul_neg]
  · rw [decide_eq_true h1, decide_eq_false (by omega), show (a.natAbs : Int) = -a by omega, show (b.natAbs : Int) = b by omega]; simp [Int.neg_mul]
  · rw [decide_eq_false (by omega), decide_eq_true h2, show (a.natAbs : Int) = a by omega, show (b.natAbs : Int) = -b by omega]; simp [Int.mul_neg]
  · rw [decide_eq_false (by omega), decide_eq_false (by omega), show (a.natAbs : Int) = a by omega, show (b.natAbs : Int) = b by omega]; simp

theorem one_gr {w w' : World} {s t : Nat} {y0 y1 : Value} (h : Gr w w') (c : w.cell? ⟨s, t, none⟩ = some y0) (d : w.cell? ⟨s, t + 1, none⟩ = some y1) : w'.cell? ⟨s, t, none⟩ = some y0 ∧ w'.cell? ⟨s, t + 1, none⟩ = some y1 := ⟨h.cell c, h.cell d⟩
theorem one_only {w w' : World} {p o s t : Nat} {y0 y1 : Value} (k : w.cell? ⟨s, t, none⟩ = some y0 ∧ w.cell? ⟨s, t + 1, none⟩ = some y1) (h : Only p o w w') (n2 : s ≠ p) : w'.cell? ⟨s, t, none⟩ = some y0 ∧ w'.cell? ⟨s, t + 1, none⟩ = some y1 :=
  ⟨(h.cell s t (cell_lt k.1) (.inl n2)).trans k.1, (h.cell s (t + 1) (cell_lt k.2) (.inl n2)).trans k.2⟩
theorem hold_gr {w w' : World} {q r s t : Nat} {x0 x1 y0 y1 : Value} (h : Gr w w') (a : w.cell? ⟨q, r, none⟩ = some x0) (b : w.cell? ⟨q, r + 1, none⟩ = some x1) (c : w.cell? ⟨s, t, none⟩ = some y0) (d : w.cell? ⟨s, t + 1, none⟩ = some y1) :
    (w'.cell? ⟨q, r, none⟩ = some x0 ∧ w'.cell? ⟨q, r + 1, none⟩ = some x1) ∧ (w'.cell? ⟨s, t, none⟩ = some y0 ∧ w'.cell? ⟨s, t + 1, none⟩ = some y1) := ⟨⟨h.cell a, h.cell b⟩, h.cell c, h.cell d⟩
theorem hold_only {w w' : World} {p o q r s t : Nat} {x0 x1 y0 y1 : Value} (k : (w.cell? ⟨q, r, none⟩ = some x0 ∧ w.cell? ⟨q, r + 1, none⟩ = some x1) ∧ (w.cell? ⟨s, t, none⟩ = some y0 ∧ w.cell? ⟨s, t + 1, none⟩ = some y1)) (h : Only p o w w') (n1 : q ≠ p) (n2 : s ≠ p) :
    (w'.cell? ⟨q, r, none⟩ = some x0 ∧ w'.cell? ⟨q, r + 1, none⟩ = some x1) ∧ (w'.cell? ⟨s, t, none⟩ = some y0 ∧ w'.cell? ⟨s, t + 1, none⟩ = some y1) := by
  obtain ⟨⟨a, b⟩, c, d⟩ := k
  exact ⟨⟨(h.cell q r (cell_lt a) (.inl n1)).trans a, (h.cell q (r + 1) (cell_lt b) (.inl n1)).trans b⟩, (h.cell s t (cell_lt c) (.inl n2)).trans c, (h.cell s (t + 1) (cell_lt d) (.inl n2)).trans d⟩

set_option maxRecDepth 100000 in
set_option maxHeartbeats 8000000 in
theorem imul_any (p o q r s t : Nat) (x y : Int) (w : World) (hs : Slot w p o) (hx : IntAt w q r x) (hy : IntAt w s t y) (bx : LtB x.natAbs 40) (bY : LtB y.natAbs 40) (n1 : q ≠ p) (n2 : s ≠ p) :
    Calls Tryz.prog 118 #[.pointer (some ⟨p, o, none⟩), .pointer (some ⟨q, r, none⟩), .pointer (some ⟨s, t, none⟩)] w (Gave p o (x * y) w) := by
  obtain ⟨c0, a, n, c, c1, hN⟩ := hx.open
  obtain ⟨e0, a', n', c', e1, hN'⟩ := hy.open
  have C0 := Lib.hid c0
  have C1 := Lib.hid c1
  have E0 := Lib.hid e0
  have E1 := Lib.hid e1
  have H := Lib.hid hN
  have H' := Lib.hid hN'
  have HS := Lib.hid hs
  have HO := Lib.hid (signed_mul (a := x) (b := y))
  clear hN hs hx hy hN'
  generalize decide (x < 0) = b at *
  generalize decide (y < 0) = b2 at *
  go_enter Tryz.func118, Tryz.ntmps118
  go_wp2
  go_region_held3 (fun w' => (w'.cell? ⟨q, r, none⟩ = some (.bool b) ∧ w'.cell? ⟨q, r + 1, none⟩ = some (.slice a n c)) ∧ (w'.cell? ⟨s, t, none⟩ = some (.bool b2) ∧ w'.cell? ⟨s, t + 1, none⟩ = some (.slice a' n' c')))
    (first
      | exact hold_only (hold_gr (((Gr.refl w).drew).trans hg1) C0.out C1.out E0.out E1.out) ho n1 n2
      | exact hold_gr (((Gr.refl w).drew).trans hg1) C0.out C1.out E0.out E1.out
      | go_keep)
    (first
      | (go_at_call 126; refine (mul_any _ (H.out.gr ((Gr.refl w).drew)) (H'.out.gr ((Gr.refl w).drew)) bx.lt bY.lt).mono ?_; rintro e w1 ⟨⟨r', rfl, hr⟩, hg1⟩)
      | (go_at_call 49; refine (give_any p o _ _ (HS.out.gr (((Gr.refl w).drew).trans hg1)) hr).mono ?_; rintro e w2 ⟨rfl, hh, ho⟩))
  rw [HO.out] at hh
  have HH := Lib.hid hh
  have HOO := Lib.hid ((Only.of_gr (((Gr.refl w).drew).trans hg1)).trans ho)
  clear hh ho hr hg1
  go_wp2
  go_ret
  exact ⟨rfl, HH.out, HOO.out⟩

/-- What a sum's sign and number are. -/
def sumB (b b' : Bool) (N M : Nat) : Bool := if b = b' then b else if M ≤ N then b else b'
def sumN (b b' : Bool) (N M : Nat) : Nat := if b = b' then N + M else if M ≤ N then N - M else M - N
/-- The call returns a sign and a number. -/
def Summed (b : Bool) (N : Nat) (e : Ending) (w' : World) : Prop := ∃ r, e = .returned (.tuple #[.bool b, r]) ∧ Num w' r N
theorem signed_add (b : Bool) (N M : Nat) : signed b (N + M) = signed b N + signed b M := by cases b <;> simp [signed] <;> omega
theorem signed_sub {b b' : Bool} (h : b ≠ b') {N M : Nat} (hl : M ≤ N) : signed b (N - M) = signed b N + signed b' M := by cases b <;> cases b' <;> simp_all [signed] <;> omega
theorem signed_bus {b b' : Bool} (h : b ≠ b') {N M : Nat} (hl : N ≤ M) : signed b' (M - N) = signed b N + signed b' M := by cases b <;> cases b' <;> simp_all [signed] <;> omega
set_option maxRecDepth 100000 in
set_option maxHeartbeats 4000000 in
theorem sum_any {v v' : Value} {N M : Nat} (b b' : Bool) (w : World) (h : Num w v N) (h' : Num w v' M) (bx : LtB N 40) (bY : LtB M 40) :
    Calls Tryz.prog 134 #[.bool b, v, .bool b', v'] w fun e w' => Summed (sumB b b' N M) (sumN b b' N M) e w' ∧ Gr w w' := by
  have H := Lib.hid h
  have H' := Lib.hid h'
  clear h h'
  by_cases h1 : b = b'
  · subst h1
    have HO : Hid (sumB b b N M = b ∧ sumN b b N M = N + M) := Lib.hid (by simp [sumB, sumN])
    rw [HO.out.1, HO.out.2]
    go_enter Tryz.func134, Tryz.ntmps134
    go_wp2_with (go_at_call 137; refine (add_any _ H.out H'.out bx.lt bY.lt).mono ?_; rintro e w1 ⟨⟨r, rfl, hr⟩, hg1⟩; have HR := Lib.hid hr; have HG1 := Lib.hid hg1; clear hg1 hr)
    go_ret2
    exact ⟨⟨r, rfl, HR.out⟩, HG1.out⟩
  · have HB := Lib.hid h1
    have hb : (b == b') = false := by simpa using h1
    clear h1
    rcases Nat.lt_or_ge N M with hl | hl
    · have HL := Lib.hid hl
      have HO : Hid (sumB b b' N M = b' ∧ sumN b b' N M = M - N) := Lib.hid (by simp [sumB, sumN, HB.out]; omega)
      rw [HO.out.1, HO.out.2]
      have HS := Lib.hid (sg_lt (show (N : Int) < (M : Int) by omega))
      clear hl
      go_enter Tryz.func134, Tryz.ntmps134
      go_wp2_with (first
        | (go_at_call 56; refine (cmp_any _ H.out H'.out).mono ?_; rintro e w1 ⟨rfl, hg1⟩; rw [HS.out]; have HG1 := Lib.hid hg1; clear hg1)
        | (go_at_call 138; refine (sub_any _ (H'.out.gr HG1.out) (H.out.gr HG1.out) bY.lt (Nat.le_of_lt HL.out)).mono ?_; rintro e w2 ⟨⟨r, rfl, hr⟩, hg2⟩; have HR := Lib.hid hr; have HG2 := Lib.hid (HG1.out.trans hg2); clear hg2 hr))
      go_ret2
      exact ⟨⟨r, rfl, HR.out⟩, HG2.out⟩
    · have HL := Lib.hid hl
      have HO : Hid (sumB b b' N M = b ∧ sumN b b' N M = N - M) := Lib.hid (by simp [sumB, sumN, HB.out, hl])
      rw [HO.out.1, HO.out.2]
      obtain ⟨s, hs⟩ : ∃ s, s = sg (N : Int) (M : Int) := ⟨_, rfl⟩
      have s0 : 0 ≤ s := by
        rw [hs]
        rcases Nat.lt_or_ge M N with h2 | h2
        · rw [sg_gt (by omega)]; omega
        · rw [sg_eq (by omega)]; omega
      have HS := Lib.hid hs
      clear hl hs
      go_enter Tryz.func134, Tryz.ntmps134
      go_wp2_with (first
        | (go_at_call 56; refine (cmp_any _ H.out H'.out).mono ?_; rintro e w1 ⟨rfl, hg1⟩; rw [← HS.out]; have HG1 := Lib.hid hg1; clear hg1)
        | (go_at_call 138; refine (sub_any _ (H.out.gr HG1.out) (H'.out.gr HG1.out) bx.lt HL.out).mono ?_; rintro e w2 ⟨⟨r, rfl, hr⟩, hg2⟩; have HR := Lib.hid hr; have HG2 := Lib.hid (HG1.out.trans hg2); clear hg2 hr))
      go_ret2
      exact ⟨⟨r, rfl, HR.out⟩, HG2.out⟩
theorem signed_sum (b b' : Bool) (N M : Nat) : signed (sumB b b' N M) (sumN b b' N M) = signed b N + signed b' M := by
  unfold sumB sumN
  by_cases h1 : b = b'
  · subst h1
    simp only [if_true]
    exact signed_add b N M
  · simp only [h1, if_false]
    by_cases h2 : M ≤ N
    · simp only [h2, if_true]
      exact signed_sub h1 h2
    · simp only [h2, if_false]
      exact signed_bus h1 (by omega)
end Go.Proofs.YtgifghbnpdanhaaGreatDoor

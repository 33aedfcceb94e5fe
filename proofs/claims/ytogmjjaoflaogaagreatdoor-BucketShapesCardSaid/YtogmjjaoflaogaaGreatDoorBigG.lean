/-
  millracebig.Int: give, SetInt64, NewInt, Set, Neg.
-/
import Derived.Test.YtogmjjaoflaogaaGreatDoorBigE
import Derived.Deep.RegionHeld3
namespace Go.Proofs.YtogmjjaoflaogaaGreatDoor
open Go.RowKit

/-- In w' block p's cells o and o + 1 have other values than in w; all else that was there is as it was. -/
structure Only (p o : Nat) (w w' : World) : Prop where
  gr : ∀ u, Gr u w → u.heap.size ≤ p → Gr u w'
  size : w.heap.size ≤ w'.heap.size
  cell : ∀ q i, q < w.heap.size → (q ≠ p ∨ (i ≠ o ∧ i ≠ o + 1)) → w'.cell? ⟨q, i, none⟩ = w.cell? ⟨q, i, none⟩
  frozen : ∀ q i, q < w.heap.size → w'.frozen? ⟨q, i, none⟩ = w.frozen? ⟨q, i, none⟩
  block : ∀ q, q < w.heap.size → q ≠ p → w'.heap[q]? = w.heap[q]?
theorem Only.of_gr {p o : Nat} {w w' : World} (h : Gr w w') : Only p o w w' :=
  ⟨fun _ hu _ => hu.trans h, h.size, fun q i hq _ => h.cells q i hq, fun q i hq => h.frozen (p := ⟨q, i, none⟩) hq, fun _ hq _ => h.block hq⟩
theorem Only.refl (p o : Nat) (w : World) : Only p o w w := .of_gr (Gr.refl w)
theorem Only.trans {p o : Nat} {a b c : World} (h : Only p o a b) (k : Only p o b c) : Only p o a c :=
  ⟨fun u hu hp => k.gr u (h.gr u hu hp) hp, Nat.le_trans h.size k.size, fun q i hq ho => (k.cell q i (Nat.lt_of_lt_of_le hq h.size) ho).trans (h.cell q i hq ho), fun q i hq => (k.frozen q i (Nat.lt_of_lt_of_le hq h.size)).trans (h.frozen q i hq), fun q hq hne => (k.block q (Nat.lt_of_lt_of_le hq h.size) hne).trans (h.block q hq hne)⟩
theorem Only.new {p o : Nat} {w w' : World} (h : Only p o w w') {u : World} (hu : Gr u w) (hp : u.heap.size ≤ p) : Gr u w' := h.gr u hu hp

/-- An Int's two cells, that may be written. -/
structure Slot (w : World) (p o : Nat) : Prop where
  lt : p < w.heap.size
  neg : ∃ b, w.cell? ⟨p, o, none⟩ = some (.bool b)
  abs : ∃ a n c, w.cell? ⟨p, o + 1, none⟩ = some (.slice a n c)
  f0 : w.frozen? ⟨p, o, none⟩ = false
  f1 : w.frozen? ⟨p, o + 1, none⟩ = false
theorem Slot.gr {w w' : World} {p o : Nat} (h : Slot w p o) (k : Gr w w') : Slot w' p o := by
  obtain ⟨h0, ⟨b, h1⟩, ⟨a, n, c, h2⟩, h3, h4⟩ := h
  exact ⟨Nat.lt_of_lt_of_le h0 k.size, ⟨b, k.cell h1⟩, ⟨a, n, c, k.cell h2⟩, by rw [k.frozen (p := ⟨p, o, none⟩) h0]; exact h3, by rw [k.frozen (p := ⟨p, o + 1, none⟩) h0]; exact h4⟩
/-- The Int at block p, offset o, is a. -/
def IntAt (w : World) (p o : Nat) (a : Int) : Prop := w.cell? ⟨p, o, none⟩ = some (.bool (decide (a < 0))) ∧ ∃ v, w.cell? ⟨p, o + 1, none⟩ = some v ∧ Num w v a.natAbs
theorem IntAt.gr {w w' : World} {p o : Nat} {a : Int} (h : IntAt w p o a) (k : Gr w w') : IntAt w' p o a := by
  obtain ⟨h1, v, h2, h3⟩ := h
  exact ⟨k.cell h1, v, k.cell h2, h3.gr k⟩
theorem Num.only {w w' : World} {p o : Nat} {v : Value} {N : Nat} (h : Num w v N) (hs : Slot w p o) (k : Only p o w w') : Num w' v N := by
  obtain ⟨n, f, ⟨a, cap, h1, h2, h3, h4⟩, h5, h6⟩ := h
  refine ⟨n, f, ⟨a, cap, h1, h2, fun h0 => ?_, h4⟩, h5, h6⟩
  obtain ⟨g, h7, h8⟩ := h3 h0
  refine ⟨g, h7, fun i hi => ?_⟩
  have h9 := h8 i hi
  rw [k.cell g i (cell_lt h9) ?_]
  · exact h9
  · by_cases e : g = p
    · subst e
      obtain ⟨_, ⟨b, hb⟩, ⟨a', n', c', ha⟩, _, _⟩ := hs
      refine .inr ⟨fun e => ?_, fun e => ?_⟩
      · subst e; rw [h9] at hb; simp at hb
      · subst e; rw [h9] at ha; simp at ha
    · exact .inl e
theorem IntAt.only {w w' : World} {p o p' o' : Nat} {a : Int} (h : IntAt w p' o' a) (hs : Slot w p o) (k : Only p o w w') (hne : p' ≠ p ∨ (o' ≠ o ∧ o' ≠ o + 1 ∧ o' + 1 ≠ o)) : IntAt w' p' o' a := by
  obtain ⟨h1, v, h2, h3⟩ := h
  refine ⟨?_, v, ?_, h3.only hs k⟩
  · rw [k.cell p' o' (cell_lt h1) (by omega)]; exact h1
  · rw [k.cell p' (o' + 1) (cell_lt h2) (by omega)]; exact h2
theorem Slot.only {w w' : World} {p o p' o' : Nat} (h : Slot w p' o') (k : Only p o w w') (hne : p' ≠ p ∨ (o' ≠ o ∧ o' ≠ o + 1 ∧ o' + 1 ≠ o)) : Slot w' p' o' := by
  obtain ⟨h0, ⟨b, h1⟩, ⟨a, n, c, h2⟩, h3, h4⟩ := h
  exact ⟨Nat.lt_of_lt_of_le h0 k.size, ⟨b, by rw [k.cell p' o' h0 (by omega)]; exact h1⟩, ⟨a, n, c, by rw [k.cell p' (o' + 1) h0 (by omega)]; exact h2⟩, by rw [k.frozen _ _ h0]; exact h3, by rw [k.frozen _ _ h0]; exact h4⟩
/-- An Int's slot that holds a. -/
structure Holds (w : World) (p o : Nat) (a : Int) : Prop where
  slot : Slot w p o
  int : IntAt w p o a
theorem Holds.gr {w w' : World} {p o : Nat} {a : Int} (h : Holds w p o a) (k : Gr w w') : Holds w' p o a := ⟨h.slot.gr k, h.int.gr k⟩
theorem Holds.only {w w' : World} {p o p' o' : Nat} {a : Int} (h : Holds w p' o' a) (hs : Slot w p o) (k : Only p o w w') (hne : p' ≠ p ∨ (o' ≠ o ∧ o' ≠ o + 1 ∧ o' + 1 ≠ o)) : Holds w' p' o' a := ⟨h.slot.only k hne, h.int.only hs k hne⟩

/-- What give stores. -/
def signed (b : Bool) (N : Nat) : Int := if b then -(N : Int) else (N : Int)
theorem signed_abs (b : Bool) (N : Nat) : (signed b N).natAbs = N := by unfold signed; split <;> omega
theorem signed_neg (b : Bool) (N : Nat) : decide (signed b N < 0) = (b && decide (0 < N)) := by
  unfold signed
  cases b
  · simp
  · simp
theorem signed_of {a : Int} : signed (decide (a < 0)) a.natAbs = a := by unfold signed; split <;> simp_all <;> omega

theorem set_only {w : World} {p o : Nat} {x y : Value} : Only p o w ((w.setCell ⟨p, o + 1, none⟩ y).setCell ⟨p, o, none⟩ x) :=
  ⟨fun u hu hp => (hu.setCell hp _).setCell hp _, by simp, fun q i hq ho => by
    rw [World.cell?_setCell_other _ _ _ _ (by simp; omega), World.cell?_setCell_other _ _ _ _ (by simp; omega)], fun q i hq => by simp, fun q _ hne => (Below.heap_setCell _ _ _ _ hne).trans (Below.heap_setCell _ _ _ _ hne)⟩

/-- The call returns a pointer to z's slot, that holds a now; nothing else has turned. -/
def Gave (p o : Nat) (a : Int) (w : World) (e : Ending) (w' : World) : Prop := e = .returned (.pointer (some ⟨p, o, none⟩)) ∧ Holds w' p o a ∧ Only p o w w'

theorem gave_store {a : Option Addr} {n cap N : Nat} {p o : Nat} {b x : Bool} {w : World} (hs : Slot w p o) (h : Num w (.slice a n cap) N) (hx : x = (b && decide (0 < N))) :
    Holds ((w.setCell ⟨p, o + 1, none⟩ (.slice a n cap)).setCell ⟨p, o, none⟩ (.bool x)) p o (signed b N) := by
  obtain ⟨h0, ⟨b0, h1⟩, ⟨a1, n1, q1, h2⟩, h3, h4⟩ := hs
  have e0 : (w.setCell ⟨p, o + 1, none⟩ (.slice a n cap)).cell? ⟨p, o, none⟩ = some (.bool b0) := by
    rw [World.cell?_setCell_other _ _ _ _ (by simp)]; exact h1
  have e1 : ((w.setCell ⟨p, o + 1, none⟩ (.slice a n cap)).setCell ⟨p, o, none⟩ (.bool x)).cell? ⟨p, o, none⟩ = some (.bool x) := World.cell?_setCell_same _ _ _ (u := .bool b0) e0
  have e2 : ((w.setCell ⟨p, o + 1, none⟩ (.slice a n cap)).setCell ⟨p, o, none⟩ (.bool x)).cell? ⟨p, o + 1, none⟩ = some (.slice a n cap) := by
    rw [World.cell?_setCell_other _ _ _ _ (by simp)]; exact World.cell?_setCell_same _ _ _ (u := .slice a1 n1 q1) h2
  refine ⟨⟨by simpa using h0, ⟨_, e1⟩, ⟨_, _, _, e2⟩, by simpa using h3, by simpa using h4⟩, ?_, _, e2, ?_⟩
  · rw [e1, signed_neg, hx]
  · rw [signed_abs]
    exact h.only ⟨h0, ⟨b0, h1⟩, ⟨a1, n1, q1, h2⟩, h3, h4⟩ set_only

set_option maxRecDepth 100000 in
set_option maxHeartbeats 4000000 in
theorem give_any {v : Value} {N : Nat} (p o : Nat) (b : Bool) (w : World) (hs : Slot w p o) (h : Num w v N) :
    Calls Tryz.prog 65 #[.pointer (some ⟨p, o, none⟩), .bool b, v] w (Gave p o (signed b N) w) := by
  obtain ⟨a, n, cap, rfl, hn, hz⟩ := h.shape
  have H := Lib.hid h
  have HS := Lib.hid hs
  obtain ⟨_, ⟨b0, h1⟩, ⟨a1, n1, q1, h2⟩, h3, h4⟩ := hs
  have hn' : (n : Int) ≤ 1000000 := by omega
  have HZ : Hid (decide (0 < N) = decide (0 < n)) := Lib.hid (by
    by_cases e : n = 0
    · have := hz.1 e; subst e; subst this; rfl
    · have : N ≠ 0 := fun e2 => e (hz.2 e2)
      rw [decide_eq_true (by omega), decide_eq_true (by omega)])
  clear h hz
  have h5 : (w.setCell ⟨p, o + 1, none⟩ (.slice a n cap)).cell? ⟨p, o, none⟩ = some (.bool b0) := by
    rw [World.cell?_setCell_other _ _ _ _ (by simp)]; exact h1
  cases b
  · go_enter Tryz.func65, Tryz.ntmps65
    go_wp2
    go_ret
    exact ⟨rfl, gave_store HS.out H.out rfl, set_only⟩
  · go_enter Tryz.func65, Tryz.ntmps65
    go_wp2
    go_ret
    exact ⟨rfl, gave_store HS.out H.out (by rw [Bool.true_and, HZ.out]), set_only⟩

/-- The call returns a pointer to a new Int that holds a. -/
def New (a : Int) (w : World) (e : Ending) (w' : World) : Prop := ∃ p, e = .returned (.pointer (some ⟨p, 0, none⟩)) ∧ w.heap.size ≤ p ∧ Holds w' p 0 a ∧ Gr w w'
theorem slot_new (w : World) {n : Nat} (hn : n = w.heap.size) : Slot (w.alloc (.cells #[.bool false, .slice none 0 0] 82)) n 0 := by
  subst hn
  exact ⟨by simp, ⟨false, by simp⟩, ⟨none, 0, 0, by simp⟩, by simp, by simp⟩

/-- What SetInt64 hands on, as a number of 64 bits. -/
theorem abs_u64 {x : Int} (h : -9223372036854775808 ≤ x ∧ x ≤ 9223372036854775807) : (x < 0 → IntKind.u64.wrap (-IntKind.u64.wrap x) = (x.natAbs : Int)) ∧ (0 ≤ x → IntKind.u64.wrap x = (x.natAbs : Int)) := by
  simp only [IntKind.wrap_u64]
  constructor <;> intro h0 <;> omega

set_option maxRecDepth 100000 in
set_option maxHeartbeats 4000000 in
theorem set64_any (p o : Nat) (x : Int) (w : World) (hs : Slot w p o) (hx : -9223372036854775808 ≤ x ∧ x ≤ 9223372036854775807) :
    Calls Tryz.prog 72 #[.pointer (some ⟨p, o, none⟩), .int .i64 x] w (Gave p o x w) := by
  have HA := Lib.hid (abs_u64 hx)
  have HS := Lib.hid hs
  have HW := Lib.hid (fun u => words_any x.natAbs u (by omega))
  have HO := Lib.hid (signed_of (a := x))
  clear hs
  by_cases h0 : x < 0
  · have HE := Lib.hid (HA.out.1 h0)
    have HD : Hid (decide (x < 0) = true) := Lib.hid (by simpa using h0)
    rw [HD.out] at HO
    clear HA HD
    go_enter Tryz.func72, Tryz.ntmps72
    go_wp2_with (first
      | (go_at_call 84; rw [HE.out]; refine (HW.out _).mono ?_; rintro e w1 ⟨⟨r, rfl, hr⟩, hg1⟩; have HG1 := Lib.hid hg1; have HR := Lib.hid hr; clear hg1 hr)
      | (go_at_call 65; refine (give_any p o true _ (HS.out.gr HG1.out) HR.out).mono ?_; rintro e w2 ⟨rfl, hh, ho⟩; rw [HO.out] at hh; have HH := Lib.hid hh; have HO2 := Lib.hid ((Only.of_gr HG1.out).trans ho); clear hh ho))
    go_ret
    exact ⟨rfl, HH.out, HO2.out⟩
  · have HW2 : Hid (∀ u, Calls Tryz.prog 84 #[.int .u64 x] u fun e w' => Gives x.natAbs e w' ∧ Gr u w') := Lib.hid (fun u => by
      have := HW.out u
      rw [Int.natAbs_of_nonneg (by omega)] at this
      exact this)
    have HD : Hid (decide (x < 0) = false) := Lib.hid (by simpa using h0)
    rw [HD.out] at HO
    clear HA HD
    have h1 : 0 ≤ x := by omega
    go_enter Tryz.func72, Tryz.ntmps72
    go_wp2_with (first
      | (go_at_call 84; refine (HW2.out _).mono ?_; rintro e w1 ⟨⟨r, rfl, hr⟩, hg1⟩; have HG1 := Lib.hid hg1; have HR := Lib.hid hr; clear hg1 hr)
      | (go_at_call 65; refine (give_any p o false _ (HS.out.gr HG1.out) HR.out).mono ?_; rintro e w2 ⟨rfl, hh, ho⟩; rw [HO.out] at hh; have HH := Lib.hid hh; have HO2 := Lib.hid ((Only.of_gr HG1.out).trans ho); clear hh ho))
    go_ret
    exact ⟨rfl, HH.out, HO2.out⟩

set_option maxRecDepth 100000 in
set_option maxHeartbeats 4000000 in
theorem newInt_any (x : Int) (w : World) (hx : -9223372036854775808 ≤ x ∧ x ≤ 9223372036854775807) :
    Calls Tryz.prog 58 #[.int .i64 x] w (New x w) := by
  go_enter Tryz.func58, Tryz.ntmps58
  go_wp2_with (go_at_call 72; refine (set64_any _ 0 x _ (slot_new w rfl) hx).mono ?_; rintro e w1 ⟨rfl, hh, ho⟩; have HH := Lib.hid hh; have HO := Lib.hid ho; clear hh ho)
  go_ret
  exact ⟨_, rfl, Nat.le_refl _, HH.out, HO.out.gr _ ((Gr.refl w).alloc _) (Nat.le_refl _)⟩
end Go.Proofs.YtogmjjaoflaogaaGreatDoor

/-
  millracebig.Int: DivMod, Div.
-/
import Derived.Test.YtogmjjaoflaogaaGreatDoorBigL
import Derived.Test.YtogmjjaoflaogaaGreatDoorBigJ
namespace Go.Proofs.YtogmjjaoflaogaaGreatDoor
open Go.RowKit

/-- What is older than two blocks is as it was. -/
def Past (p p' : Nat) (w w' : World) : Prop := ∀ u, Gr u w → u.heap.size ≤ p → u.heap.size ≤ p' → Gr u w'
theorem Past.only {p p' o : Nat} {a b c : World} (h : Past p p' a b) (k : Only p o b c) : Past p p' a c := fun u hu h1 h2 => k.gr u (h u hu h1 h2) h1
theorem Past.only' {p p' o : Nat} {a b c : World} (h : Past p p' a b) (k : Only p' o b c) : Past p p' a c := fun u hu h1 h2 => k.gr u (h u hu h1 h2) h2
theorem Past.gr {p p' : Nat} {a b c : World} (h : Past p p' a b) (k : Gr b c) : Past p p' a c := fun u hu h1 h2 => (h u hu h1 h2).trans k
theorem floor_neg {x y : Int} (hy : 0 < y) (h : x.tmod y < 0) : x.tdiv y - 1 = x / y ∧ x.tmod y + y = x % y := by
  have h1 := Int.mul_tdiv_add_tmod x y
  have h2 := Int.mul_ediv_add_emod x y
  have h3 := Int.emod_nonneg x (by omega : y ≠ 0)
  have h4 := Int.emod_lt_of_pos x hy
  have h5 : -y < x.tmod y := Int.lt_tmod_of_pos x hy
  have h6 : y * (x.tdiv y - x / y) = x % y - x.tmod y := by rw [Int.mul_sub]; omega
  have h7 : x.tdiv y - x / y = 1 := by
    generalize x.tdiv y - x / y = d at h6
    rcases Int.lt_trichotomy d 1 with h8 | h8 | h8
    · have : y * d ≤ y * 0 := Int.mul_le_mul_of_nonneg_left (by omega) (by omega)
      omega
    · exact h8
    · have : y * 2 ≤ y * d := Int.mul_le_mul_of_nonneg_left (by omega) (by omega)
      omega
  rw [h7] at h6
  omega
theorem floor_pos {x y : Int} (hy : 0 < y) (h : ¬ x.tmod y < 0) : x.tdiv y = x / y ∧ x.tmod y = x % y := by
  have h1 := Int.mul_tdiv_add_tmod x y
  have h2 := Int.mul_ediv_add_emod x y
  have h3 := Int.emod_nonneg x (by omega : y ≠ 0)
  have h4 := Int.emod_lt_of_pos x hy
  have h5 : x.tmod y < y := Int.tmod_lt_of_pos x hy
  have h6 : y * (x.tdiv y - x / y) = x % y - x.tmod y := by rw [Int.mul_sub]; omega
  have h7 : x.tdiv y - x / y = 0 := by
    generalize x.tdiv y - x / y = d at h6
    rcases Int.lt_trichotomy d 0 with h8 | h8 | h8
    · have : y * d ≤ y * (-1) := Int.mul_le_mul_of_nonneg_left (by omega) (by omega)
      omega
    · exact h8
    · have : y * 1 ≤ y * d := Int.mul_le_mul_of_nonneg_left (by omega) (by omega)
      omega
  rw [h7] at h6
  omega

/-- QuoRem, with what it leaves alone. -/
theorem quoRem_use (p o q r s t p' o' : Nat) (x y : Int) (w : World) (hs : Slot w p o) (hs' : Slot w p' o') (hx : IntAt w q r x) (hy : IntAt w s t y) (hd : DivOk x.natAbs y.natAbs) (hne : p' ≠ p) :
    Calls Tryz.prog 74 #[.pointer (some ⟨p, o, none⟩), .pointer (some ⟨q, r, none⟩), .pointer (some ⟨s, t, none⟩), .pointer (some ⟨p', o', none⟩)] w fun e w' =>
      e = .returned (.tuple #[.pointer (some ⟨p, o, none⟩), .pointer (some ⟨p', o', none⟩)]) ∧ Holds w' p o (x.tdiv y) ∧ Holds w' p' o' (x.tmod y) ∧ Past p p' w w' ∧ ∀ a b c, IntAt w a b c → a ≠ p → a ≠ p' → IntAt w' a b c := by
  refine (quoRem_any p o q r s t p' o' x y w hs hs' hx hy hd hne).mono ?_
  rintro e w' ⟨rfl, w1, h1, h2, h3, h4⟩
  refine ⟨rfl, h3, h4, fun u hu k1 k2 => h2.gr u (h1.gr u hu k1) k2, fun a b c hh k1 k2 => (hh.only hs h1 (.inl k1)).only (hs'.only h1 (.inl hne)) h2 (.inl k2)⟩

set_option maxRecDepth 100000 in
set_option maxHeartbeats 8000000 in
theorem divMod_any (p o q r s t p' o' : Nat) (x y : Int) (w : World) (hs : Slot w p o) (hs' : Slot w p' o') (hx : IntAt w q r x) (hy : IntAt w s t y) (hy0 : 0 < y) (hd : DivOk x.natAbs y.natAbs) (hne : p' ≠ p) (bq : LtB (x.tdiv y).natAbs 40) (bm : LtB (x.tmod y).natAbs 40) (bY : LtB y.natAbs 40) :
    Calls Tryz.prog 61 #[.pointer (some ⟨p, o, none⟩), .pointer (some ⟨q, r, none⟩), .pointer (some ⟨s, t, none⟩), .pointer (some ⟨p', o', none⟩)] w fun e w' =>
      e = .returned (.tuple #[.pointer (some ⟨p, o, none⟩), .pointer (some ⟨p', o', none⟩)]) ∧ Holds w' p o (x / y) ∧ Past p p' w w' := by
  have HG := Lib.hid ((Gr.refl w).alloc (.cells #[.bool false, .slice none 0 0] 82))
  have HX := Lib.hid hx
  have HY := Lib.hid hy
  have HSN := Lib.hid (slot_new w rfl)
  have HS := Lib.hid hs
  have HS' := Lib.hid hs'
  have HL := Lib.hid (show w.heap.size ≠ p ∧ w.heap.size ≠ p' from ⟨by have := hs.lt; omega, by have := hs'.lt; omega⟩)
  have B1 : LtB (1 : Int).natAbs 40 := ⟨by have := Bp_mono (show 1 ≤ 40 by omega); have e : Bp 1 = 4294967296 := rfl; rw [e] at this; simp; omega⟩
  have HFN := Lib.hid (fun h => floor_neg (x := x) hy0 h)
  have HFP := Lib.hid (fun h => floor_pos (x := x) hy0 h)
  have HYN : Hid (decide (y < 0) = false) := Lib.hid (by simp; omega)
  clear hs hs' hx hy hy0
  by_cases hm : x.tmod y < 0
  · have HR := Lib.hid (HFN.out hm)
    have HMN : Hid (decide (x.tmod y < 0) = true) := Lib.hid (by simpa using hm)
    clear hm HFN HFP
    go_enter Tryz.func61, Tryz.ntmps61
    go_wp2_with (first
      | (go_at_call 62; refine (set_any w.heap.size 0 s t y _ HSN.out (HY.out.gr HG.out)).mono ?_; rintro e w1 ⟨rfl, hh, ho⟩; have HD1 := Lib.hid hh.int; have HG1 := Lib.hid (ho.gr w HG.out (Nat.le_refl _)); clear hh ho)
      | (go_at_call 74; refine (quoRem_use p o q r s t p' o' x y _ (HS.out.gr HG1.out) (HS'.out.gr HG1.out) (HX.out.gr HG1.out) (HY.out.gr HG1.out) hd hne).mono ?_; rintro e w2 ⟨rfl, hz, hm, hp, hk⟩; have HD2 := Lib.hid (hk _ _ _ HD1.out HL.out.1 HL.out.2); have HP2 : Hid (Past p p' w w2) := Lib.hid (fun u hu k1 k2 => hp u (hu.trans HG1.out) k1 k2); have HZ2 := Lib.hid hz; have HM2 := Lib.hid hm; have c0 := hm.int.1; rw [HMN.out] at c0; have c1 := HD2.out.1; rw [HYN.out] at c1; clear hz hm hp hk)
      | (go_at_call 58; refine (newInt_any 1 _ (by omega)).mono ?_; rintro e w3 ⟨pn, rfl, hpn, hn, hg3⟩; have HN3 := Lib.hid hn.int; have HP3 := Lib.hid (HP2.out.gr hg3); have HZ3 := Lib.hid (HZ2.out.gr hg3); have HM3 := Lib.hid (HM2.out.gr hg3); have HD3 := Lib.hid (HD2.out.gr hg3); clear hn hg3 hpn c0 c1)
      | (go_at_call 67; refine (isub_any p o p o pn 0 _ 1 _ HZ3.out.slot HZ3.out.int HN3.out bq B1).mono ?_; rintro e w4 ⟨rfl, hh, ho⟩; have HZ4 := Lib.hid hh; have HP4 := Lib.hid (HP3.out.only ho); have HM4 := Lib.hid (HM3.out.only HZ3.out.slot ho (.inl hne)); have HD4 := Lib.hid (HD3.out.only HZ3.out.slot ho (.inl HL.out.1)); clear hh ho)
      | (go_at_call 73; refine (iadd_any p' o' p' o' w.heap.size 0 _ y _ HM4.out.slot HM4.out.int HD4.out bm bY).mono ?_; rintro e w5 ⟨rfl, hh, ho⟩; have HP5 := Lib.hid (HP4.out.only' ho); have HZ5 := Lib.hid (HZ4.out.only HM4.out.slot ho (.inl (Ne.symm hne))); clear hh ho))
    go_ret2
    exact ⟨rfl, by rw [← HR.out.1]; exact HZ5.out, HP5.out⟩
  · have HR := Lib.hid (HFP.out hm)
    have HMN : Hid (decide (x.tmod y < 0) = false) := Lib.hid (by simpa using hm)
    clear hm HFN HFP
    go_enter Tryz.func61, Tryz.ntmps61
    go_wp2_with (first
      | (go_at_call 62; refine (set_any w.heap.size 0 s t y _ HSN.out (HY.out.gr HG.out)).mono ?_; rintro e w1 ⟨rfl, hh, ho⟩; have HD1 := Lib.hid hh.int; have HG1 := Lib.hid (ho.gr w HG.out (Nat.le_refl _)); clear hh ho)
      | (go_at_call 74; refine (quoRem_use p o q r s t p' o' x y _ (HS.out.gr HG1.out) (HS'.out.gr HG1.out) (HX.out.gr HG1.out) (HY.out.gr HG1.out) hd hne).mono ?_; rintro e w2 ⟨rfl, hz, hm, hp, hk⟩; have HP2 : Hid (Past p p' w w2) := Lib.hid (fun u hu k1 k2 => hp u (hu.trans HG1.out) k1 k2); have HZ2 := Lib.hid hz; have c0 := hm.int.1; rw [HMN.out] at c0; clear hz hm hp hk))
    go_ret2
    exact ⟨rfl, by rw [← HR.out.1]; exact HZ2.out, HP2.out⟩

set_option maxRecDepth 100000 in
set_option maxHeartbeats 8000000 in
theorem idiv_any (p q r s t : Nat) (x y : Int) (w : World) (hs : Slot w p 0) (hx : IntAt w q r x) (hy : IntAt w s t y) (hy0 : 0 < y) (hd : DivOk x.natAbs y.natAbs) (bq : LtB (x.tdiv y).natAbs 40) (bm : LtB (x.tmod y).natAbs 40) (bY : LtB y.natAbs 40) :
    Calls Tryz.prog 43 #[.pointer (some ⟨p, 0, none⟩), .pointer (some ⟨q, r, none⟩), .pointer (some ⟨s, t, none⟩)] w fun e w' =>
      e = .returned (.pointer (some ⟨p, 0, none⟩)) ∧ Holds w' p 0 (x / y) ∧ ∀ u, Gr u w → u.heap.size ≤ p → Gr u w' := by
  have HG := Lib.hid ((Gr.refl w).alloc (.cells #[.bool false, .slice none 0 0] 82))
  have HX := Lib.hid hx
  have HY := Lib.hid hy
  have HSN := Lib.hid (slot_new w rfl)
  have HS := Lib.hid hs
  have hl : w.heap.size ≠ p := by have := hs.lt; omega
  have HL := Lib.hid hs.lt
  clear hs hx hy
  go_enter Tryz.func43, Tryz.ntmps43
  go_wp2_with (go_at_call 61; refine (divMod_any p 0 q r s t w.heap.size 0 x y _ (HS.out.gr HG.out) HSN.out (HX.out.gr HG.out) (HY.out.gr HG.out) hy0 hd hl bq bm bY).mono ?_; rintro e w1 ⟨rfl, hh, hp⟩; have HH := Lib.hid hh; have HP := Lib.hid hp; clear hh hp)
  go_ret
  exact ⟨rfl, HH.out, fun u hu hp => HP.out u (hu.trans HG.out) hp (by have := HL.out; omega)⟩
end Go.Proofs.YtogmjjaoflaogaaGreatDoor

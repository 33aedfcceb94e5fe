/-
  Single operations over buckets. (Printed by genbkt.py.)
-/
import Derived.Test.YtgifghbnpdanhaaGreatDoorRegOps
import Derived.Test.YtgifghbnpdanhaaGreatDoorBigV
import Derived.Test.YtgifghbnpdanhaaGreatDoorShaperPlaysPart1
import Derived.Test.YtgifghbnpdanhaaGreatDoorBigR
import Derived.Test.YtgifghbnpdanhaaGreatDoorBigJ
import Derived.Test.YtgifghbnpdanhaaGreatDoorShaperPlaysPart3
namespace Go.Proofs.YtgifghbnpdanhaaGreatDoor
open Go.RowKit

section
variable {ev : Operand → Value} {o : Oper} {w : World} {x y : Operand} {u : Value}
theorem r_fa_millraceref_Filled_0 {p o' : Nat} (ho : o.op = .fieldAddr 108 x 0) (h : ev x = .pointer (some ⟨p, o', none⟩)) : (execOp ev o).run Tryz.prog w = .ok (.value (.pointer (some ⟨p, o', none⟩))) w := by
  simp [execOp, ho, h, go_sem]
theorem r_fa_millraceref_Filled_1 {p o' : Nat} (ho : o.op = .fieldAddr 108 x 1) (h : ev x = .pointer (some ⟨p, o', none⟩)) : (execOp ev o).run Tryz.prog w = .ok (.value (.pointer (some ⟨p, o' + 3, none⟩))) w := by
  simp [execOp, ho, h, go_sem]
theorem r_fa_millraceref_Filled_2 {p o' : Nat} (ho : o.op = .fieldAddr 108 x 2) (h : ev x = .pointer (some ⟨p, o', none⟩)) : (execOp ev o).run Tryz.prog w = .ok (.value (.pointer (some ⟨p, o' + 4, none⟩))) w := by
  simp [execOp, ho, h, go_sem]
theorem r_fa_millraceref_Bucket_0 {p o' : Nat} (ho : o.op = .fieldAddr 35 x 0) (h : ev x = .pointer (some ⟨p, o', none⟩)) : (execOp ev o).run Tryz.prog w = .ok (.value (.pointer (some ⟨p, o', none⟩))) w := by
  simp [execOp, ho, h, go_sem]
theorem r_fa_millraceref_Bucket_1 {p o' : Nat} (ho : o.op = .fieldAddr 35 x 1) (h : ev x = .pointer (some ⟨p, o', none⟩)) : (execOp ev o).run Tryz.prog w = .ok (.value (.pointer (some ⟨p, o' + 2, none⟩))) w := by
  simp [execOp, ho, h, go_sem]
theorem r_fa_api_Rate_0 {p o' : Nat} (ho : o.op = .fieldAddr 23 x 0) (h : ev x = .pointer (some ⟨p, o', none⟩)) : (execOp ev o).run Tryz.prog w = .ok (.value (.pointer (some ⟨p, o', none⟩))) w := by
  simp [execOp, ho, h, go_sem]
theorem r_fa_api_Rate_1 {p o' : Nat} (ho : o.op = .fieldAddr 23 x 1) (h : ev x = .pointer (some ⟨p, o', none⟩)) : (execOp ev o).run Tryz.prog w = .ok (.value (.pointer (some ⟨p, o' + 1, none⟩))) w := by
  simp [execOp, ho, h, go_sem]
theorem r_loadI {ad : Addr} {n : Int} (ho : o.op = .load 3 x) (h : ev x = .pointer (some ad)) (hc : w.cell? ad = some (.int .i64 n)) : (execOp ev o).run Tryz.prog w = .ok (.value (.int .i64 n)) w := by
  simp [execOp, ho, h, hc, go_sem]
theorem r_loadRat {ad : Addr} {g : Nat} (ho : o.op = .load 105 x) (h : ev x = .pointer (some ad)) (hc : w.cell? ad = some (.pointer (some ⟨g, 0, none⟩))) : (execOp ev o).run Tryz.prog w = .ok (.value (.pointer (some ⟨g, 0, none⟩))) w := by
  simp [execOp, ho, h, hc, go_sem]
theorem r_loadRate {p q : Nat} {a b : Int} (ho : o.op = .load 23 x) (h : ev x = .pointer (some ⟨p, q, none⟩)) (hc : w.cell? ⟨p, q, none⟩ = some (.int .i64 a)) (hd : w.cell? ⟨p, q + 1, none⟩ = some (.int .i64 b)) : (execOp ev o).run Tryz.prog w = .ok (.value (.agg #[.int .i64 a, .int .i64 b])) w := by
  simp [execOp, ho, h, hc, hd, go_sem]
theorem r_sub {a b : Int} (ho : o.op = .binOp .sub 3 x y 3) (h : ev x = .int .i64 a) (k : ev y = .int .i64 b) (hb : -9223372036854775808 ≤ a - b ∧ a - b ≤ 9223372036854775807) : (execOp ev o).run Tryz.prog w = .ok (.value (.int .i64 (a - b))) w := by
  have hw : IntKind.i64.wrap (a - b) = a - b := by rw [IntKind.wrap_i64]; omega
  simp [execOp, ho, h, k, hw, go_sem]
end
theorem cfr_Int (args : Array Value) (w : World) : (callFunc 28 args).run Tryz.prog w = .ok (.enter 28 args) w := by kernel_rfl
theorem cfr_Speed (args : Array Value) (w : World) : (callFunc 112 args).run Tryz.prog w = .ok (.enter 112 args) w := by kernel_rfl
theorem cfr_mul (args : Array Value) (w : World) : (callFunc 115 args).run Tryz.prog w = .ok (.enter 115 args) w := by kernel_rfl
theorem cfr_add (args : Array Value) (w : World) : (callFunc 114 args).run Tryz.prog w = .ok (.enter 114 args) w := by kernel_rfl
theorem cfr_lesser (args : Array Value) (w : World) : (callFunc 113 args).run Tryz.prog w = .ok (.enter 113 args) w := by kernel_rfl
theorem cfr_sub (args : Array Value) (w : World) : (callFunc 109 args).run Tryz.prog w = .ok (.enter 109 args) w := by kernel_rfl
theorem cfr_rcmp (args : Array Value) (w : World) : (callFunc 108 args).run Tryz.prog w = .ok (.enter 108 args) w := by kernel_rfl
/-- A Rat's place. -/
def Fg.rat (x : Int) (T : Nat) : Fg := ⟨fun v w => ∃ g, v = .pointer (some ⟨g, 0, none⟩) ∧ RatV w g x T, fun _ _ _ ⟨g, h1, h2⟩ k => ⟨g, h1, h2.gr k⟩⟩
end Go.Proofs.YtgifghbnpdanhaaGreatDoor
/-
  millracebig.Int: DivMod, Div.
-/
namespace Go.Proofs.YtgifghbnpdanhaaGreatDoor
open Go.RowKit

/-- What is older than two blocks is as it was. -/
def Past (p p' : Nat) (w w' : World) : Prop := ∀ u, Gr u w → u.heap.size ≤ p → u.heap.size ≤ p' → Gr u w'
theorem Past.only {p p' o : Nat} {a b c : World} (h : Past p p' a b) (k : Only p o b c) : Past p p' a c := fun u hu h1 h2 => k.gr u (h u hu h1 h2) h1
theorem Past.only' {p p' o : Nat} {a b c : World} (h : Past p p' a b) (k : Only p' o b c) : Past p p' a c := fun u hu h1 h2 => k.gr u (h u hu h1 h2) h2
theorem Past.gr {p p' : Nat} {a b c : World} (h : Past p p' a b) (k : Gr b c) : Past p p' a c := fun u hu h1 h2 => (h u hu h1 h2).trans k
theorem floor_neg {x y : Int} (hy : 0 < y) (h : x.tmod y < 0) : x.tdiv y - 1 = x / y ∧ x.tmod y + y = x % y := by
  have h1 := Int.mul_tdiv_add_tmod x y
  have h2 := Int.mul_ediv_add_emod x y
  have h3 := Int.emod_nonneg x (by omega : y ≠ 0)
  have h4 := Int.emod_lt_of_pos x hy
  have h5 : -y < x.tmod y := Int.lt_tmod_of_pos x hy
  have h6 : y * (x.tdiv y - x / y) = x % y - x.tmod y := by rw [Int.mul_sub]; omega
  have h7 : x.tdiv y - x / y = 1 := by
    generalize x.tdiv y - x / y = d at h6
    rcases Int.lt_trichotomy d 1 with h8 | h8 | h8
    · have : y * d ≤ y * 0 := Int.mul_le_mul_of_nonneg_left (by omega) (by omega)
      omega
    · exact h8
    · have : y * 2 ≤ y * d := Int.mul_le_mul_of_nonneg_left (by omega) (by omega)
      omega
  rw [h7] at h6
  omega
theorem floor_pos {x y : Int} (hy : 0 < y) (h : ¬ x.tmod y < 0) : x.tdiv y = x / y ∧ x.tmod y = x % y := by
  have h1 := Int.mul_tdiv_add_tmod x y
  have h2 := Int.mul_ediv_add_emod x y
  have h3 := Int.emod_nonneg x (by omega : y ≠ 0)
  have h4 := Int.emod_lt_of_pos x hy
  have h5 : x.tmod y < y := Int.tmod_lt_of_pos x hy
  have h6 : y * (x.tdiv y - x / y) = x % y - x.tmod y := by rw [Int.mul_sub]; omega
  have h7 : x.tdiv y - x / y = 0 := by
    generalize x.tdiv y - x / y = d at h6
    rcases Int.lt_trichotomy d 0 with h8 | h8 | h8
    · have : y * d ≤ y * (-1) := Int.mul_le_mul_of_nonneg_left (by omega) (by omega)
      omega
    · exact h8
    · have : y * 1 ≤ y * d := Int.mul_le_mul_of_nonneg_left (by omega) (by omega)
      omega
  rw [h7] at h6
  omega

/-- QuoRem, with what it leaves alone. -/
theorem quoRem_use (p o q r s t p' o' : Nat) (x y : Int) (w : World) (hs : Slot w p o) (hs' : Slot w p' o') (hx : IntAt w q r x) (hy : IntAt w s t y) (hd : DivOk x.natAbs y.natAbs) (hne : p' ≠ p) :
    Calls Tryz.prog 139 #[.pointer (some ⟨p, o, none⟩), .pointer (some ⟨q, r, none⟩), .pointer (some ⟨s, t, none⟩), .pointer (some ⟨p', o', none⟩)] w fun e w' =>
      e = .returned (.tuple #[.pointer (some ⟨p, o, none⟩), .pointer (some ⟨p', o', none⟩)]) ∧ Holds w' p o (x.tdiv y) ∧ Holds w' p' o' (x.tmod y) ∧ Past p p' w w' ∧ ∀ a b c, IntAt w a b c → a ≠ p → a ≠ p' → IntAt w' a b c := by
  refine (quoRem_any p o q r s t p' o' x y w hs hs' hx hy hd hne).mono ?_
  rintro e w' ⟨rfl, w1, h1, h2, h3, h4⟩
  refine ⟨rfl, h3, h4, fun u hu k1 k2 => h2.gr u (h1.gr u hu k1) k2, fun a b c hh k1 k2 => (hh.only hs h1 (.inl k1)).only (hs'.only h1 (.inl hne)) h2 (.inl k2)⟩

set_option maxRecDepth 100000 in
set_option maxHeartbeats 8000000 in
theorem divMod_any (p o q r s t p' o' : Nat) (x y : Int) (w : World) (hs : Slot w p o) (hs' : Slot w p' o') (hx : IntAt w q r x) (hy : IntAt w s t y) (hy0 : 0 < y) (hd : DivOk x.natAbs y.natAbs) (hne : p' ≠ p) (bq : LtB (x.tdiv y).natAbs 40) (bm : LtB (x.tmod y).natAbs 40) (bY : LtB y.natAbs 40) :
    Calls Tryz.prog 135 #[.pointer (some ⟨p, o, none⟩), .pointer (some ⟨q, r, none⟩), .pointer (some ⟨s, t, none⟩), .pointer (some ⟨p', o', none⟩)] w fun e w' =>
      e = .returned (.tuple #[.pointer (some ⟨p, o, none⟩), .pointer (some ⟨p', o', none⟩)]) ∧ Holds w' p o (x / y) ∧ Past p p' w w' := by
  have HG := Lib.hid ((Gr.refl w).alloc (.cells #[.bool false, .slice none 0 0] 140))
  have HX := Lib.hid hx
  have HY := Lib.hid hy
  have HSN := Lib.hid (slot_new w rfl)
  have HS := Lib.hid hs
  have HS' := Lib.hid hs'
  have HL := Lib.hid (show w.heap.size ≠ p ∧ w.heap.size ≠ p' from ⟨by have := hs.lt; omega, by have := hs'.lt; omega⟩)
  have B1 : LtB (1 : Int).natAbs 40 := ⟨by have := Bp_mono (show 1 ≤ 40 by omega); have e : Bp 1 = 4294967296 := rfl; rw [e] at this; simp; omega⟩
  have HFN := Lib.hid (fun h => floor_neg (x := x) hy0 h)
  have HFP := Lib.hid (fun h => floor_pos (x := x) hy0 h)
  have HYN : Hid (decide (y < 0) = false) := Lib.hid (by simp; omega)
  clear hs hs' hx hy hy0
  by_cases hm : x.tmod y < 0
  · have HR := Lib.hid (HFN.out hm)
    have HMN : Hid (decide (x.tmod y < 0) = true) := Lib.hid (by simpa using hm)
    clear hm HFN HFP
    go_enter Tryz.func135, Tryz.ntmps135
    go_wp2_with (first
      | (go_at_call 43; refine (set_any w.heap.size 0 s t y _ HSN.out (HY.out.gr HG.out)).mono ?_; rintro e w1 ⟨rfl, hh, ho⟩; have HD1 := Lib.hid hh.int; have HG1 := Lib.hid (ho.gr w HG.out (Nat.le_refl _)); clear hh ho)
      | (go_at_call 139; refine (quoRem_use p o q r s t p' o' x y _ (HS.out.gr HG1.out) (HS'.out.gr HG1.out) (HX.out.gr HG1.out) (HY.out.gr HG1.out) hd hne).mono ?_; rintro e w2 ⟨rfl, hz, hm, hp, hk⟩; have HD2 := Lib.hid (hk _ _ _ HD1.out HL.out.1 HL.out.2); have HP2 : Hid (Past p p' w w2) := Lib.hid (fun u hu k1 k2 => hp u (hu.trans HG1.out) k1 k2); have HZ2 := Lib.hid hz; have HM2 := Lib.hid hm; have c0 := hm.int.1; rw [HMN.out] at c0; have c1 := HD2.out.1; rw [HYN.out] at c1; clear hz hm hp hk)
      | (go_at_call 38; refine (newInt_any 1 _ (by omega)).mono ?_; rintro e w3 ⟨pn, rfl, hpn, hn, hg3⟩; have HN3 := Lib.hid hn.int; have HP3 := Lib.hid (HP2.out.gr hg3); have HZ3 := Lib.hid (HZ2.out.gr hg3); have HM3 := Lib.hid (HM2.out.gr hg3); have HD3 := Lib.hid (HD2.out.gr hg3); clear hn hg3 hpn c0 c1)
      | (go_at_call 127; refine (isub_any p o p o pn 0 _ 1 _ HZ3.out.slot HZ3.out.int HN3.out bq B1).mono ?_; rintro e w4 ⟨rfl, hh, ho⟩; have HZ4 := Lib.hid hh; have HP4 := Lib.hid (HP3.out.only ho); have HM4 := Lib.hid (HM3.out.only HZ3.out.slot ho (.inl hne)); have HD4 := Lib.hid (HD3.out.only HZ3.out.slot ho (.inl HL.out.1)); clear hh ho)
      | (go_at_call 133; refine (iadd_any p' o' p' o' w.heap.size 0 _ y _ HM4.out.slot HM4.out.int HD4.out bm bY).mono ?_; rintro e w5 ⟨rfl, hh, ho⟩; have HP5 := Lib.hid (HP4.out.only' ho); have HZ5 := Lib.hid (HZ4.out.only HM4.out.slot ho (.inl (Ne.symm hne))); clear hh ho))
    go_ret2
    exact ⟨rfl, by rw [← HR.out.1]; exact HZ5.out, HP5.out⟩
  · have HR := Lib.hid (HFP.out hm)
    have HMN : Hid (decide (x.tmod y < 0) = false) := Lib.hid (by simpa using hm)
    clear hm HFN HFP
    go_enter Tryz.func135, Tryz.ntmps135
    go_wp2_with (first
      | (go_at_call 43; refine (set_any w.heap.size 0 s t y _ HSN.out (HY.out.gr HG.out)).mono ?_; rintro e w1 ⟨rfl, hh, ho⟩; have HD1 := Lib.hid hh.int; have HG1 := Lib.hid (ho.gr w HG.out (Nat.le_refl _)); clear hh ho)
      | (go_at_call 139; refine (quoRem_use p o q r s t p' o' x y _ (HS.out.gr HG1.out) (HS'.out.gr HG1.out) (HX.out.gr HG1.out) (HY.out.gr HG1.out) hd hne).mono ?_; rintro e w2 ⟨rfl, hz, hm, hp, hk⟩; have HP2 : Hid (Past p p' w w2) := Lib.hid (fun u hu k1 k2 => hp u (hu.trans HG1.out) k1 k2); have HZ2 := Lib.hid hz; have c0 := hm.int.1; rw [HMN.out] at c0; clear hz hm hp hk))
    go_ret2
    exact ⟨rfl, by rw [← HR.out.1]; exact HZ2.out, HP2.out⟩

set_option maxRecDepth 100000 in
set_option maxHeartbeats 8000000 in
theorem idiv_any (p q r s t : Nat) (x y : Int) (w : World) (hs : Slot w p 0) (hx : IntAt w q r x) (hy : IntAt w s t y) (hy0 : 0 < y) (hd : DivOk x.natAbs y.natAbs) (bq : LtB (x.tdiv y).natAbs 40) (bm : LtB (x.tmod y).natAbs 40) (bY : LtB y.natAbs 40) :
    Calls Tryz.prog 128 #[.pointer (some ⟨p, 0, none⟩), .pointer (some ⟨q, r, none⟩), .pointer (some ⟨s, t, none⟩)] w fun e w' =>
      e = .returned (.pointer (some ⟨p, 0, none⟩)) ∧ Holds w' p 0 (x / y) ∧ ∀ u, Gr u w → u.heap.size ≤ p → Gr u w' := by
  have HG := Lib.hid ((Gr.refl w).alloc (.cells #[.bool false, .slice none 0 0] 140))
  have HX := Lib.hid hx
  have HY := Lib.hid hy
  have HSN := Lib.hid (slot_new w rfl)
  have HS := Lib.hid hs
  have hl : w.heap.size ≠ p := by have := hs.lt; omega
  have HL := Lib.hid hs.lt
  clear hs hx hy
  go_enter Tryz.func128, Tryz.ntmps128
  go_wp2_with (go_at_call 135; refine (divMod_any p 0 q r s t w.heap.size 0 x y _ (HS.out.gr HG.out) HSN.out (HX.out.gr HG.out) (HY.out.gr HG.out) hy0 hd hl bq bm bY).mono ?_; rintro e w1 ⟨rfl, hh, hp⟩; have HH := Lib.hid hh; have HP := Lib.hid hp; clear hh hp)
  go_ret
  exact ⟨rfl, HH.out, fun u hu hp => HP.out u (hu.trans HG.out) hp (by have := HL.out; omega)⟩
end Go.Proofs.YtgifghbnpdanhaaGreatDoor
/-
  millraceref.down: rounded down.
-/
namespace Go.Proofs.YtgifghbnpdanhaaGreatDoor
open Go.RowKit

theorem ediv_same {a x : Int} {d T : Nat} (hd : 0 < d) (hT : 0 < T) (h : a * (T : Int) = x * (d : Int)) : a / (d : Int) = x / (T : Int) := by
  have h1 : (a * (T : Int)) / ((d : Int) * (T : Int)) = a / (d : Int) := Int.mul_ediv_mul_of_pos_left _ _ (by omega)
  have h2 : (x * (d : Int)) / ((T : Int) * (d : Int)) = x / (T : Int) := Int.mul_ediv_mul_of_pos_left _ _ (by omega)
  rw [← h1, ← h2, h, Int.mul_comm (d : Int)]

set_option maxRecDepth 100000 in
set_option maxHeartbeats 4000000 in
theorem down_at (p : Nat) (a : Int) (d : Nat) (w : World) (h : RatAt w p a d) (ha : a.natAbs < 9223372036854775808) (hd : d < 18446744073709551616) :
    Calls Tryz.prog 120 #[.pointer (some ⟨p, 0, none⟩)] w fun e w' => e = .returned (.int .i64 (a / (d : Int))) ∧ Gr w w' := by
  have H := Lib.hid h
  have HG0 := Lib.hid ((Gr.refl w).alloc (.cells #[.bool false, .slice none 0 0] 140))
  have HS := Lib.hid (slot_new w rfl)
  have hd0 := h.pos
  have HD0 := Lib.hid (show (0 : Int) < (d : Int) by omega)
  have HDV := Lib.hid (show DivOk a.natAbs (d : Int).natAbs from by rw [Int.natAbs_natCast]; exact ⟨hd0, .inr (.inl (lt64 (by omega)))⟩)
  have B1 : LtB (a.tdiv (d : Int)).natAbs 40 := lt40 (by have h1 : (a.tdiv (d : Int)).natAbs = a.natAbs / (d : Int).natAbs := Int.natAbs_tdiv _ _; rw [h1]; have := Nat.div_le_self a.natAbs (d : Int).natAbs; omega)
  have B2 : LtB (a.tmod (d : Int)).natAbs 40 := lt40 (by have h1 : (a.tmod (d : Int)).natAbs = a.natAbs % (d : Int).natAbs := Int.natAbs_tmod _ _; rw [h1]; have := Nat.mod_le a.natAbs (d : Int).natAbs; omega)
  have B3 : LtB (d : Int).natAbs 40 := lt40 (by rw [Int.natAbs_natCast]; exact hd)
  have HQ : Hid ((a / (d : Int)).natAbs < 9223372036854775808) := Lib.hid (by
    have h1 : a / (d : Int) ≤ a.natAbs := by
      rcases Int.lt_or_le a 0 with h2 | h2
      · have := Int.ediv_neg_of_neg_of_pos h2 (show (0 : Int) < (d : Int) by omega); omega
      · have := Int.ediv_le_self (d : Int) h2; omega
    have h3 : -(a.natAbs : Int) ≤ a / (d : Int) := by
      rw [Int.le_ediv_iff_mul_le (by omega)]
      have : (a.natAbs : Int) * 1 ≤ (a.natAbs : Int) * (d : Int) := Int.mul_le_mul_of_nonneg_left (by omega) (by omega)
      rw [Int.neg_mul]
      omega
    omega)
  clear h ha hd hd0
  go_enter Tryz.func120, Tryz.ntmps120
  go_wp2_with (first
    | (go_at_call 129; refine (num_any p _).mono ?_; rintro e w1 ⟨rfl, rfl⟩)
    | (go_at_call 130; refine (denom_any p a d _ (H.out.gr HG0.out)).mono ?_; rintro e w1 ⟨q, rfl, _, hh, hg⟩; have HD := Lib.hid hh.int; have HG1 := Lib.hid (HG0.out.trans hg); have HN := Lib.hid ((H.out.gr HG0.out).num.gr hg); have HS1 := Lib.hid (HS.out.gr hg); clear hh hg)
    | (go_at_call 128; refine (idiv_any w.heap.size p 0 q 0 a (d : Int) _ HS1.out HN.out HD.out HD0.out HDV.out B1 B2 B3).mono ?_; rintro e w2 ⟨rfl, hh, hk⟩; have HH := Lib.hid hh.int; have HG2 := Lib.hid (hk w HG1.out (Nat.le_refl _)); clear hh hk)
    | (go_at_call 131; refine (i64_any w.heap.size 0 _ _ HH.out HQ.out).mono ?_; rintro e w3 ⟨rfl, hg⟩; have HG3 := Lib.hid (HG2.out.trans hg); clear hg))
  go_ret
  exact ⟨rfl, HG3.out⟩
theorem down_any (p : Nat) (x : Int) (T : Nat) (w : World) (h : RatV w p x T) (hx : x.natAbs < 9223372036854775808) (hT : T < 18446744073709551616) :
    Calls Tryz.prog 120 #[.pointer (some ⟨p, 0, none⟩)] w fun e w' => e = .returned (.int .i64 (x / (T : Int))) ∧ Gr w w' := by
  obtain ⟨h0, a, d, ha, e⟩ := h
  obtain ⟨_, l1, l2⟩ := lowest ha.cop h0 e
  rw [← ediv_same ha.pos h0 e]
  exact down_at p a d w ha (by omega) (by omega)
end Go.Proofs.YtgifghbnpdanhaaGreatDoor
/-
  millraceref.up: rounded up.
-/
namespace Go.Proofs.YtgifghbnpdanhaaGreatDoor
open Go.RowKit

theorem Int.neg_eq {x : Int} {T : Nat} {a : Int} {d : Nat} (h : a * (T : Int) = x * (d : Int)) : (-a) * (T : Int) = (-x) * (d : Int) := by rw [Int.neg_mul, Int.neg_mul, h]
set_option maxRecDepth 100000 in
set_option maxHeartbeats 4000000 in
theorem up_any (p : Nat) (x : Int) (T : Nat) (w : World) (h : RatV w p x T) (hx : x.natAbs < 9223372036854775807) (hT : T < 9223372036854775808) :
    Calls Tryz.prog 110 #[.pointer (some ⟨p, 0, none⟩)] w fun e w' => e = .returned (.int .i64 (-((-x) / (T : Int)))) ∧ Gr w w' := by
  obtain ⟨h0, a, d, ha, e⟩ := h
  obtain ⟨_, l1, l2⟩ := lowest ha.cop h0 e
  have HE := Lib.hid (Int.neg_eq e)
  have HA := Lib.hid ha
  have HOK := Lib.hid (normOk64 (A := a.natAbs) (d := d) ha.pos (by omega) (by omega))
  have HG0 := Lib.hid ((Gr.refl w).alloc (.cells #[.bool false, .slice none 0 0, .bool false, .slice none 0 0] 142))
  have HS := Lib.hid (rslot_new w rfl)
  have H0 := Lib.hid h0
  have HB := Lib.hid (show (-x).natAbs < 9223372036854775808 ∧ T < 18446744073709551616 from ⟨by omega, by omega⟩)
  have hq : -9223372036854775807 ≤ (-x) / (T : Int) ∧ (-x) / (T : Int) ≤ 9223372036854775807 := by
    have h1 : (-x) / (T : Int) ≤ x.natAbs := by
      rcases Int.lt_or_le (-x) 0 with h2 | h2
      · have := Int.ediv_neg_of_neg_of_pos h2 (show (0 : Int) < (T : Int) by omega); omega
      · have := Int.ediv_le_self (T : Int) h2; omega
    have h3 : -(x.natAbs : Int) ≤ (-x) / (T : Int) := by
      rw [Int.le_ediv_iff_mul_le (by omega)]
      have : (x.natAbs : Int) * 1 ≤ (x.natAbs : Int) * (T : Int) := Int.mul_le_mul_of_nonneg_left (by omega) (by omega)
      rw [Int.neg_mul]
      omega
    omega
  obtain ⟨q, hqe⟩ : ∃ q, (-x) / (T : Int) = q := ⟨_, rfl⟩
  rw [hqe] at hq
  have HQ := Lib.hid hqe
  rw [hqe]
  clear ha e h0 hx hT l1 l2 hqe
  go_enter Tryz.func110, Tryz.ntmps110
  go_wp2_with (first
    | (go_at_call 121; refine (rneg_any w.heap.size p a d _ HS.out (HA.out.gr HG0.out) HOK.out).mono ?_; rintro e w1 ⟨rfl, hr, hk⟩; have HR := Lib.hid hr; have HK := Lib.hid (hk.1 w HG0.out (Nat.le_refl _)); clear hr hk)
    | (go_at_call 120; refine (down_any w.heap.size (-x) T _ ⟨H0.out, _, _, HR.out, HE.out⟩ HB.out.1 HB.out.2).mono ?_; rintro e w2 ⟨rfl, hg⟩; rw [HQ.out]; have HG2 := Lib.hid (HK.out.trans hg); clear hg))
  go_ret
  exact ⟨rfl, HG2.out⟩
end Go.Proofs.YtgifghbnpdanhaaGreatDoor

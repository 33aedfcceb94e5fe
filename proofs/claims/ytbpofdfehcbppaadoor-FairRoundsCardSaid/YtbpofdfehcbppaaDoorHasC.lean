/-
  The program's Hashed: in the midst of a call; Take. (Printed by genhas.py.)
-/
import Derived.Test.YtbpofdfehcbppaaDoorHasB
namespace Go.Proofs.YtbpofdfehcbppaaDoor
open Go.RowKit Go.Extern.Stop Go.Stop Go.Extern

theorem IntRow.rest {w : World} {g off cap : Nat} {x : Int} {xs : List Int} (h : IntRow w (.slice (some ⟨g, off, none⟩) (xs.length + 1) cap) (x :: xs)) :
    ∃ t, (if cap = 1 then some (⟨g, off, none⟩ : Addr) else some (⟨g, off + 1, none⟩ : Addr)) = some ⟨g, t, none⟩ ∧ IntRow w (.slice (some ⟨g, t, none⟩) xs.length (cap - 1)) xs := by
  have ht : IntRow w (.slice (some ⟨g, off + 1, none⟩) xs.length (cap - 1)) xs := by
    have h2 := Row.tail (size := 1) (n := xs.length) (show Row 3 1 isInt w (.slice (some ⟨g, off, none⟩) (xs.length + 1) cap) (xs.length + 1) ((x :: xs).map fun x => Value.int .i64 x) from h)
    unfold IntRow
    simpa using h2
  by_cases hc : cap = 1
  · refine ⟨off, by rw [if_pos hc], ?_⟩
    rcases ht.2 with h | ⟨g', off', cap', cur, h, k1, k2, k3, k4, k5, k6⟩
    · cases h.1
    · cases h
      obtain rfl : xs = [] := List.eq_nil_of_length_eq_zero (by omega)
      exact ⟨rfl, .inr ⟨g, off, cap - 1, cur, rfl, k1, by simp, by omega, by omega, k5, fun j hj => by simp at hj⟩⟩
  · exact ⟨off + 1, by rw [if_neg hc], ht⟩
/-- In the midst of a call: where it stands, what was written, which new blocks are no part of it. -/
structure HM (w wr : World) (p ob : Nat) (q : HasP) (tv : Value) (vs : Nat → Value) (R : List Nat) (tv' : Value) (vs' : Nat → Value) (ls : Nat → List Hel) (turn : List Int) (many : Int) : Prop where
  at_ : HasC wr p ob q tv' vs' ls turn many
  sav : Sav (HFoot p ob q tv vs) w wr
  own : ∀ g, HFoot p ob q tv' vs' g → (HFoot p ob q tv vs g ∨ w.heap.size ≤ g) ∧ g ∉ R
  res : ∀ g, g ∈ R → w.heap.size ≤ g ∧ g < wr.heap.size
section
variable {w wr w' : World} {p ob k n : Nat} {q : HasP} {tv tv' tv2 v2 : Value} {vs vs' : Nat → Value} {R : List Nat} {ls ls' : Nat → List Hel} {turn turn2 : List Int} {many : Int} {xs2 : List Hel}
theorem HM.first (h : HasC w p ob q tv vs ls turn many) : HM w w p ob q tv vs [] tv vs ls turn many := ⟨h, .refl _ _, fun _ e => ⟨.inl e, by simp⟩, fun g e => by cases e⟩
theorem HM.gr (h : HM w wr p ob q tv vs R tv' vs' ls turn many) (g : Gr wr w') : HM w w' p ob q tv vs R tv' vs' ls turn many :=
  ⟨h.at_.gr g, h.sav.then (.of_gr g), h.own, fun x e => ⟨(h.res x e).1, Nat.lt_of_lt_of_le (h.res x e).2 g.size⟩⟩
theorem HM.res_add (h : HM w wr p ob q tv vs R tv' vs' ls turn many) (g : Gr wr w') (hn : wr.heap.size ≤ n) (hl : n < w'.heap.size) : HM w w' p ob q tv vs (n :: R) tv' vs' ls turn many := by
  have h1 := h.gr g
  refine ⟨h1.at_, h1.sav, fun x e => ⟨(h1.own x e).1, fun e2 => ?_⟩, fun x e => ?_⟩
  · rcases List.mem_cons.1 e2 with rfl | e3
    · have := h.at_.flt e; omega
    · exact (h1.own x e).2 e3
  · rcases List.mem_cons.1 e with rfl | e3
    · exact ⟨Nat.le_trans h.sav.size hn, hl⟩
    · exact h1.res x e3
theorem HM.nin (h : HM w wr p ob q tv vs R tv' vs' ls turn many) {r : Nat} (hr : r ∈ R) : ¬ HFoot p ob q tv' vs' r := fun e => (h.own r e).2 hr
theorem HM.did (h : HM w wr p ob q tv vs R tv' vs' ls turn many) : HM w wr p ob q tv vs [] tv' vs' ls turn many := ⟨h.at_, h.sav, fun g e => ⟨(h.own g e).1, by simp⟩, fun g e => by cases e⟩
theorem HM.off {B : Nat → Prop} (h : HM w wr p ob q tv vs R tv' vs' ls turn many) (s : Sav B wr w') (hB : ∀ g, B g → g ∈ R) : HM w w' p ob q tv vs R tv' vs' ls turn many :=
  ⟨h.at_.sav s (fun g e => h.nin (hB g e)), h.sav.trans s (fun g e => .inr (h.res g (hB g e)).1), h.own, fun x e => ⟨(h.res x e).1, Nat.lt_of_lt_of_le (h.res x e).2 s.size⟩⟩
theorem HM.set_many (h : HM w wr p ob q tv vs R tv' vs' ls turn many) (m : Int) : HM w (wr.setCell ⟨p, 4, none⟩ (.int .i64 m)) p ob q tv vs R tv' vs' ls turn m :=
  have s : Sav (fun g => g = p) wr (wr.setCell ⟨p, 4, none⟩ (.int .i64 m)) := .set p 4 _
  ⟨h.at_.set_many m, h.sav.trans s (fun _ e => .inl (.inl e)), h.own, fun x e => ⟨(h.res x e).1, Nat.lt_of_lt_of_le (h.res x e).2 s.size⟩⟩
theorem HM.set_turn (h : HM w wr p ob q tv vs R tv' vs' ls turn many) (s : Sav (fun g => tv'.ownBlock = some g) wr w') (ht : IntRow w' tv2 turn2) (ho : ∀ g, tv2.ownBlock = some g → tv'.ownBlock = some g ∨ wr.heap.size ≤ g) : HM w (w'.setCell ⟨p, 3, none⟩ tv2) p ob q tv vs R tv2 vs' ls turn2 many := by
  have s2 : Sav (fun g => g = p) w' (w'.setCell ⟨p, 3, none⟩ tv2) := .set p 3 _
  refine ⟨h.at_.set_turn s ht ho, (h.sav.trans s (fun g e => ?_)).trans s2 (fun g e => .inl (.inl e)), fun g e => ?_, fun x e => ⟨(h.res x e).1, Nat.lt_of_lt_of_le (h.res x e).2 (Nat.le_trans s.size s2.size)⟩⟩
  · exact (h.own g (.inr (.inr (.inl e)))).1
  · rcases e with e | e | e | ⟨k, hk, e⟩
    · exact h.own g (.inl e)
    · exact h.own g (.inr (.inl e))
    · rcases ho g e with e1 | e1
      · exact h.own g (.inr (.inr (.inl e1)))
      · exact ⟨.inr (Nat.le_trans h.sav.size e1), fun e2 => by have := (h.res g e2).2; omega⟩
    · exact h.own g (.inr (.inr (.inr ⟨k, hk, e⟩)))
theorem HM.list (h : HM w wr p ob q tv vs R tv' vs' ls turn many) (hk : k < q.lists) (d : LstAt w' ob (k * 2) v2 xs2) (s : LSav ob (k * 2) (vs' k) wr w') (ho : ∀ g, v2.ownBlock = some g → (vs' k).ownBlock = some g ∨ wr.heap.size ≤ g) : HM w w' p ob q tv vs R tv' (fu vs' k v2) (fu ls k xs2) turn many := by
  refine ⟨h.at_.list hk d s ho, h.sav.trans s.sav (fun g e => ?_), fun g e => ?_, fun x e => ⟨(h.res x e).1, Nat.lt_of_lt_of_le (h.res x e).2 s.sav.size⟩⟩
  · rcases e with e | e
    · exact .inl (.inr (.inl e))
    · exact (h.own g (.inr (.inr (.inr ⟨k, hk, e⟩)))).1
  · rcases e with e | e | e | ⟨j, hj, e⟩
    · exact h.own g (.inl e)
    · exact h.own g (.inr (.inl e))
    · exact h.own g (.inr (.inr (.inl e)))
    · by_cases e2 : j = k
      · subst e2
        rw [fu_at] at e
        rcases ho g e with e1 | e1
        · exact h.own g (.inr (.inr (.inr ⟨j, hj, e1⟩)))
        · exact ⟨.inr (Nat.le_trans h.sav.size e1), fun e2 => by have := (h.res g e2).2; omega⟩
      · rw [fu_ne _ _ e2] at e
        exact h.own g (.inr (.inr (.inr ⟨j, hj, e⟩)))
theorem HM.congr (h : HM w wr p ob q tv vs R tv' vs' ls turn many) (e : ∀ k, k < q.lists → ls k = ls' k) : HM w wr p ob q tv vs R tv' vs' ls' turn many := ⟨h.at_.congr e, h.sav, h.own, h.res⟩
end
/-- What a call may tell: the Hashed moved to these. -/
def HDid (w w' : World) (p ob : Nat) (q : HasP) (tv : Value) (vs : Nat → Value) (ls : Nat → List Hel) (turn : List Int) (many : Int) : Prop := ∃ tv' vs', HM w w' p ob q tv vs [] tv' vs' ls turn many
set_option maxRecDepth 100000 in
set_option maxHeartbeats 4000000 in
theorem htake_nil (p ob : Nat) (q : HasP) (tv : Value) (vs : Nat → Value) (ls : Nat → List Hel) (many now : Int) (w : World) (h : HasC w p ob q tv vs ls [] many) :
    Calls Tryd.prog 119 #[.pointer (some ⟨p, 0, none⟩), .int .i64 now] w fun e w' => e = .returned (.tuple #[Hel.zero.val, .slice none 0 0, .bool false]) ∧ HDid w w' p ob q tv vs ls [] many := by
  have HA := Lib.hid h
  obtain ⟨ta, tc, rfl⟩ := h.turn.shape
  clear h
  simp only [List.length_nil] at HA ⊢
  unfold Hel.val
  go_enter Tryd.func119, Tryd.ntmps119
  go_upto_region 1 with fail
  obtain ⟨w0, hw0⟩ : ∃ w0, w0 = w.alloc (.cells #[.int .i64 0, .int .i64 0, .int .i64 0, .int .i64 0, .int .i64 0, .int .i64 0] 139) := ⟨_, rfl⟩
  obtain ⟨rb, hrb⟩ : ∃ rb, rb = w.heap.size := ⟨_, rfl⟩
  have HR0 : Hid (HelRes w0 rb .zero ∧ rb = w.heap.size) := Lib.hid (by rw [hw0]; exact ⟨helRes_new w .zero hrb, hrb⟩)
  have HG0 : Hid (Gr w w0) := Lib.hid (by rw [hw0]; exact (Gr.refl _).alloc _)
  have HA0 := Lib.hid (HA.out.gr HG0.out)
  rw [← hw0, ← hrb]
  clear hw0 hrb
  obtain ⟨⟨r0, r1, r2, r3, r4, r5⟩, s0, s1, s2, s3, s4, s5⟩ := HR0.out.1
  have c3 := HA0.out.c3
  go_wp2
  obtain ⟨w9, hw9⟩ : ∃ w9, w9 = ((((((w0.setCell ⟨rb, 0, none⟩ (.int .i64 Hel.zero.t)).setCell ⟨rb, 1, none⟩ (.int .i64 Hel.zero.len)).setCell ⟨rb, 2, none⟩ (.int .i64 Hel.zero.flow)).setCell ⟨rb, 3, none⟩ (.int .i64 Hel.zero.band)).setCell ⟨rb, 4, none⟩ (.int .i64 Hel.zero.mark)).setCell ⟨rb, 5, none⟩ (.int .i64 Hel.zero.n)) := ⟨_, rfl⟩
  have HR9 := Lib.hid (show HelRes w9 rb .zero ∧ Sav (fun g => g = rb) w0 w9 from by rw [hw9]; exact hel_set6 HR0.out.1 .zero)
  unfold Hel.zero at hw9
  simp only at hw9
  rw [← hw9]
  clear hw9 r0 r1 r2 r3 r4 r5 s0 s1 s2 s3 s4 s5
  obtain ⟨⟨q0, q1, q2, q3, q4, q5⟩, _⟩ := HR9.out.1
  unfold Hel.zero at q0 q1 q2 q3 q4 q5
  simp only [Nat.zero_add] at q0 q1 q2 q3 q4 q5
  refine bodyPost_ret (v := .tuple #[.agg #[.int .i64 0, .int .i64 0, .int .i64 0, .int .i64 0, .int .i64 0, .int .i64 0], .slice none 0 0, .bool false]) (by simp [results, Tryd.results119, go_sem, q0, q1, q2, q3, q4, q5]) rfl ?_
  refine ⟨rfl, _, _, (HM.off (R := [rb]) ((HM.first HA.out).res_add HG0.out (by have := HR0.out.2; omega) (cell_lt HR0.out.1.at_.c0)) HR9.out.2 (fun g e => by simp [e])).did⟩
set_option maxRecDepth 100000 in
set_option maxHeartbeats 40000000 in
theorem htake_cons (p ob : Nat) (q : HasP) (hq : q.Ok) (tv : Value) (vs : Nat → Value) (ls : Nat → List Hel) (k : Nat) (hk : k < q.lists) (r : List Int) (x : Hel) (s : List Hel) (hls : ls k = x :: s) (hsb : 0 ≤ sumLen s ∧ sumLen s ≤ 1000000000000000) (hr : r.length ≤ 900) (many : Int) (hm : 1 ≤ many ∧ many ≤ 1000) (now : Int) (w : World) (h : HasC w p ob q tv vs ls ((k : Int) :: r) many) :
    Calls Tryd.prog 119 #[.pointer (some ⟨p, 0, none⟩), .int .i64 now] w fun e w' => e = .returned (.tuple #[x.val, .slice none 0 0, .bool true]) ∧ HDid w w' p ob q tv vs (fu ls k s) (if s = [] then r else r ++ [(k : Int)]) (many - 1) := by
  have HA := Lib.hid h
  have HQL := Lib.hid hq.lists
  obtain ⟨tg, toff, cap, rfl, hcap, hcm, hc⟩ := Row.cells h.turn (by simp)
  have HCE := Lib.hid (fun u (g : Gr w u) => g.cell (hc 0 (.int .i64 (k : Int)) (by simp)))
  have HSB := Lib.hid hsb
  have HRL := Lib.hid hr
  have HLS := Lib.hid hls
  have HWM := Lib.hid (show wrap64 (many - 1) = many - 1 from by unfold wrap64; omega)
  have i0 : (0 : Int) ≤ (k : Int) := by omega
  have i1 : (k : Int) < (q.lists : Int) := by omega
  have HRS := Lib.hid (fun u (g : Gr w u) => IntRow.rest (w := u) (g := tg) (off := toff) (cap := cap) (x := (k : Int)) (xs := r) (by simpa using (h.gr g).turn))
  rw [List.length_cons] at *
  have e1 : 1 ≤ cap := by omega
  have i2 : ((r.length + 1 : Nat) : Int) ≤ (cap : Int) := by omega
  have i3 : (0 : Int) < ((r.length + 1 : Nat) : Int) := by omega
  have HPL := Lib.hid h.lt
  have HNX := Lib.hid (fun u h => lnext_cons ob (k * 2) (vs k) x s u h hsb)
  clear h hc hcm hcap hsb hr hls hq hm
  unfold Hel.val at *
  obtain ⟨T, hT⟩ : ∃ T, T = (if s = [] then r else r ++ [(k : Int)]) := ⟨_, rfl⟩
  rw [← hT]
  have HT := Lib.hid hT
  clear hT
  go_enter Tryd.func119, Tryd.ntmps119
  go_upto_region 1 with fail
  obtain ⟨w0, hw0⟩ : ∃ w0, w0 = w.alloc (.cells #[.int .i64 0, .int .i64 0, .int .i64 0, .int .i64 0, .int .i64 0, .int .i64 0] 139) := ⟨_, rfl⟩
  obtain ⟨rb, hrb⟩ : ∃ rb, rb = w.heap.size := ⟨_, rfl⟩
  have HR0 : Hid (HelRes w0 rb .zero ∧ rb = w.heap.size) := Lib.hid (by rw [hw0]; exact ⟨helRes_new w .zero hrb, hrb⟩)
  have HG0 : Hid (Gr w w0) := Lib.hid (by rw [hw0]; exact (Gr.refl _).alloc _)
  have HA0 := Lib.hid (HA.out.gr HG0.out)
  rw [← hw0, ← hrb]
  clear hw0 hrb
  have HM0 := Lib.hid ((HM.first HA.out).res_add HG0.out (show w.heap.size ≤ rb by have := HR0.out.2; omega) (cell_lt HR0.out.1.at_.c0))
  have c0 := HA0.out.c0
  have c3 := HA0.out.c3
  have f3 := HA0.out.f3
  have ce := HCE.out _ HG0.out
  rw [Nat.add_zero] at ce
  go_upto_region 5 with fail
  obtain ⟨tt, ht, htr⟩ := HRS.out _ HG0.out
  rw [ht]
  clear ht
  obtain ⟨tv1, htv1⟩ : ∃ u, u = Value.slice (some ⟨tg, tt, none⟩) r.length (cap - 1) := ⟨_, rfl⟩
  have HM1 := Lib.hid (HM0.out.set_turn (.refl _ w0) (show IntRow w0 tv1 r by rw [htv1]; exact htr) (fun g e => .inl (by rw [htv1] at e; exact e)))
  have HR1 := Lib.hid (HR0.out.1.sav (.set p 3 tv1) (fun e => by have h1 := HR0.out.2; have h2 := HPL.out.1; omega))
  rw [← htv1]
  clear htr HRS HCE c0 c3 f3 ce
  generalize w0.setCell ⟨p, 3, none⟩ tv1 = w1 at *
  have c0 := HM1.out.at_.c0
  have HL1 := Lib.hid (HM1.out.at_.lst k hk)
  go_upto_region 6 with (go_at_call 81; refine (HNX.out w1 (by rw [← HLS.out]; exact HL1.out)).mono ?_; rintro e w2 ⟨rfl, v2, hl2, hs2, ho2⟩; have HM2 := Lib.hid (HM1.out.list hk hl2 hs2 (fun g e => .inl (by rw [← ho2]; exact e))); have HR2 := Lib.hid (HR1.out.sav hs2.sav (fun e => HM1.out.nin (r := rb) (by simp) (e.elim (fun e => .inr (.inl e)) (fun e => .inr (.inr (.inr ⟨k, hk, e⟩)))))); clear hl2 hs2 ho2; obtain ⟨⟨r0, r1, r2, r3, r4, r5⟩, s0, s1, s2, s3, s4, s5⟩ := HR2.out)
  obtain ⟨w3, hw3⟩ : ∃ u, u = ((((((w2.setCell ⟨rb, 0, none⟩ (.int .i64 x.t)).setCell ⟨rb, 1, none⟩ (.int .i64 x.len)).setCell ⟨rb, 2, none⟩ (.int .i64 x.flow)).setCell ⟨rb, 3, none⟩ (.int .i64 x.band)).setCell ⟨rb, 4, none⟩ (.int .i64 x.mark)).setCell ⟨rb, 5, none⟩ (.int .i64 x.n)) := ⟨_, rfl⟩
  have HR3 := Lib.hid (show HelRes w3 rb x ∧ Sav (fun q => q = rb) w2 w3 from by rw [hw3]; exact hel_set6 HR2.out x)
  have HM3 := Lib.hid (HM2.out.off HR3.out.2 (fun g e => by simp [e]))
  rw [← hw3]
  clear hw3 r0 r1 r2 r3 r4 r5 s0 s1 s2 s3 s4 s5 c0 HNX HL1 HM1 HR1 HR2
  have c4 := HM3.out.at_.c4
  have f4 := HM3.out.at_.f4
  go_upto_region 7 with fail
  rw [HWM.out]
  have HM4 := Lib.hid (HM3.out.set_many (many - 1))
  have HR4 := Lib.hid (HR3.out.1.sav (.set p 4 (.int .i64 (many - 1))) (fun e => by have h1 := HR0.out.2; have h2 := HPL.out.1; omega))
  generalize w3.setCell ⟨p, 4, none⟩ (.int .i64 (many - 1)) = w4 at *
  clear c4 f4 HM3 HR3
  have c0 := HM4.out.at_.c0
  have HL4 := Lib.hid (show LstAt w4 ob (k * 2) v2 s from by have h1 := HM4.out.at_.lst k hk; rw [fu_at, fu_at] at h1; exact h1)
  by_cases hs0 : s = []
  · subst hs0
    have HTT : Hid (T = r) := Lib.hid (by rw [HT.out, if_pos rfl])
    go_upto_region 9 with (go_at_call 75; refine (llen_any ob (k * 2) v2 [] _ HL4.out).mono ?_; rintro e w5 ⟨rfl, rfl⟩)
    obtain ⟨⟨r0, r1, r2, r3, r4, r5⟩, s0, s1, s2, s3, s4, s5⟩ := HR4.out
    go_wp2
    obtain ⟨w9, hw9⟩ : ∃ w9, w9 = ((((((w4.setCell ⟨rb, 0, none⟩ (.int .i64 x.t)).setCell ⟨rb, 1, none⟩ (.int .i64 x.len)).setCell ⟨rb, 2, none⟩ (.int .i64 x.flow)).setCell ⟨rb, 3, none⟩ (.int .i64 x.band)).setCell ⟨rb, 4, none⟩ (.int .i64 x.mark)).setCell ⟨rb, 5, none⟩ (.int .i64 x.n)) := ⟨_, rfl⟩
    have HR9 := Lib.hid (show HelRes w9 rb x ∧ Sav (fun g => g = rb) w4 w9 from by rw [hw9]; exact hel_set6 HR4.out x)
    rw [← hw9]
    clear hw9 r0 r1 r2 r3 r4 r5 s0 s1 s2 s3 s4 s5
    obtain ⟨⟨q0, q1, q2, q3, q4, q5⟩, _⟩ := HR9.out.1
    refine bodyPost_ret (v := .tuple #[.agg #[.int .i64 x.t, .int .i64 x.len, .int .i64 x.flow, .int .i64 x.band, .int .i64 x.mark, .int .i64 x.n], .slice none 0 0, .bool true]) (by simp [results, Tryd.results119, go_sem, q0, q1, q2, q3, q4, q5]) rfl ?_
    rw [HTT.out]
    exact ⟨rfl, _, _, (HM4.out.off HR9.out.2 (fun g e => by simp [e])).did⟩
  · have HTT : Hid (T = r ++ [(k : Int)]) := Lib.hid (by rw [HT.out, if_neg hs0])
    have i4 : (0 : Int) < (s.length : Int) := by have := List.length_pos_iff.2 hs0; omega
    go_upto_region 8 with (go_at_call 75; refine (llen_any ob (k * 2) v2 s _ HL4.out).mono ?_; rintro e w5 ⟨rfl, rfl⟩)
    have HT4 := Lib.hid HM4.out.at_.turn
    have c3 := HM4.out.at_.c3
    have f3 := HM4.out.at_.f3
    rw [htv1] at c3
    have HS4 := Lib.hid (show (∀ u, Sav (fun g => tv1.ownBlock = some g) w4 u → u.cell? ⟨p, 3, none⟩ = some tv1 ∧ u.frozen? ⟨p, 3, none⟩ = false) from fun u hs => ⟨hs.cell HM4.out.at_.c3 (fun e => (HM4.out.at_.tap p e).1 rfl), hs.frozen (p := ⟨p, 3, none⟩) HM4.out.at_.lt.1 HM4.out.at_.f3 (fun e => (HM4.out.at_.tap p e).1 rfl)⟩)
    go_upto_region 9 with (at_builtin; refine wpList_append_intR rfl _ _ _ (by rfl) (by kernel_rfl) _ r (k : Int) (by rfl) (by have h1 := HT4.out.gr ((Gr.refl w4).alloc (.cells #[.int .i64 (k : Int)] 3)); rw [htv1] at h1; exact h1) ⟨w4.heap.size, 0, none⟩ 1 (by rfl) (by simp) (by have := HRL.out; omega) ?_; intro v6 w6 hrow hgr hown; have hsv : Sav (fun g => tv1.ownBlock = some g) w4 w6 := (Sav.of_gr ((Gr.refl w4).alloc (.cells #[.int .i64 (k : Int)] 3))).then (.of_grown hgr fun g e => by rw [htv1]; exact e); have ho6 : ∀ g, v6.ownBlock = some g → tv1.ownBlock = some g ∨ w4.heap.size ≤ g := fun g e => (hown g e).imp (fun e => by rw [htv1]; exact e) (fun e => by simp at e; omega); have HM6 := Lib.hid (HM4.out.set_turn hsv hrow ho6); have HR6 := Lib.hid (HR4.out.sav hsv (fun e => HM4.out.nin (r := rb) (by simp) (.inr (.inr (.inl e))))); have HR7 := Lib.hid (HR6.out.sav (.set p 3 v6) (fun e => by have h1 := HR0.out.2; have h2 := HPL.out.1; omega)); obtain ⟨d3, g3⟩ := HS4.out _ hsv; clear hgr hown ho6 hsv c3 f3; obtain ⟨a6, c6, rfl⟩ := hrow.shape; clear hrow; rw [show (r ++ [(k : Int)]).length = r.length + 1 from by simp] at HM6 HR7)
    generalize w6.setCell ⟨p, 3, none⟩ (.slice a6 (r.length + 1) c6) = w7 at *
    obtain ⟨⟨r0, r1, r2, r3, r4, r5⟩, s0, s1, s2, s3, s4, s5⟩ := HR7.out
    go_wp2
    obtain ⟨w9, hw9⟩ : ∃ w9, w9 = ((((((w7.setCell ⟨rb, 0, none⟩ (.int .i64 x.t)).setCell ⟨rb, 1, none⟩ (.int .i64 x.len)).setCell ⟨rb, 2, none⟩ (.int .i64 x.flow)).setCell ⟨rb, 3, none⟩ (.int .i64 x.band)).setCell ⟨rb, 4, none⟩ (.int .i64 x.mark)).setCell ⟨rb, 5, none⟩ (.int .i64 x.n)) := ⟨_, rfl⟩
    have HR9 := Lib.hid (show HelRes w9 rb x ∧ Sav (fun g => g = rb) w7 w9 from by rw [hw9]; exact hel_set6 HR7.out x)
    rw [← hw9]
    clear hw9 r0 r1 r2 r3 r4 r5 s0 s1 s2 s3 s4 s5
    obtain ⟨⟨q0, q1, q2, q3, q4, q5⟩, _⟩ := HR9.out.1
    refine bodyPost_ret (v := .tuple #[.agg #[.int .i64 x.t, .int .i64 x.len, .int .i64 x.flow, .int .i64 x.band, .int .i64 x.mark, .int .i64 x.n], .slice none 0 0, .bool true]) (by simp [results, Tryd.results119, go_sem, q0, q1, q2, q3, q4, q5]) rfl ?_
    rw [HTT.out]
    exact ⟨rfl, _, _, (HM6.out.off HR9.out.2 (fun g e => by simp [e])).did⟩
end Go.Proofs.YtbpofdfehcbppaaDoor

/-
  The reference's Hashed: in the midst of a call; out; Take. (Printed by genhas.py.)
-/
import Derived.Test.YtbpofdfehcbppaaDoorHasH
namespace Go.Proofs.YtbpofdfehcbppaaDoor
open Go.RowKit Go.Extern.Stop Go.Stop Go.Extern

structure RHM (w wr : World) (p : Nat) (q : HasP) (lv tv : Value) (R : List Nat) (lv' tv' : Value) (l : List Hel) (turn : List Int) : Prop where
  at_ : RHasC wr p q lv' tv' l turn
  sav : Sav (RHFoot p lv tv) w wr
  own : ∀ g, RHFoot p lv' tv' g → (RHFoot p lv tv g ∨ w.heap.size ≤ g) ∧ g ∉ R
  res : ∀ g, g ∈ R → w.heap.size ≤ g ∧ g < wr.heap.size
section
variable {w wr w' : World} {p n : Nat} {q : HasP} {lv tv lv' tv' lv2 tv2 : Value} {R : List Nat} {l l2 : List Hel} {turn turn2 : List Int}
theorem RHM.first (h : RHasC w p q lv tv l turn) : RHM w w p q lv tv [] lv tv l turn := ⟨h, .refl _ _, fun _ e => ⟨.inl e, by simp⟩, fun g e => by cases e⟩
theorem RHM.gr (h : RHM w wr p q lv tv R lv' tv' l turn) (g : Gr wr w') : RHM w w' p q lv tv R lv' tv' l turn :=
  ⟨h.at_.gr g, h.sav.then (.of_gr g), h.own, fun x e => ⟨(h.res x e).1, Nat.lt_of_lt_of_le (h.res x e).2 g.size⟩⟩
theorem RHM.res_add (h : RHM w wr p q lv tv R lv' tv' l turn) (g : Gr wr w') (hn : wr.heap.size ≤ n) (hl : n < w'.heap.size) : RHM w w' p q lv tv (n :: R) lv' tv' l turn := by
  have h1 := h.gr g
  refine ⟨h1.at_, h1.sav, fun x e => ⟨(h1.own x e).1, fun e2 => ?_⟩, fun x e => ?_⟩
  · rcases List.mem_cons.1 e2 with rfl | e3
    · have := h.at_.flt e; omega
    · exact (h1.own x e).2 e3
  · rcases List.mem_cons.1 e with rfl | e3
    · exact ⟨Nat.le_trans h.sav.size hn, hl⟩
    · exact h1.res x e3
theorem RHM.nin (h : RHM w wr p q lv tv R lv' tv' l turn) {r : Nat} (hr : r ∈ R) : ¬ RHFoot p lv' tv' r := fun e => (h.own r e).2 hr
theorem RHM.did (h : RHM w wr p q lv tv R lv' tv' l turn) : RHM w wr p q lv tv [] lv' tv' l turn := ⟨h.at_, h.sav, fun g e => ⟨(h.own g e).1, by simp⟩, fun g e => by cases e⟩
theorem RHM.off {B : Nat → Prop} (h : RHM w wr p q lv tv R lv' tv' l turn) (s : Sav B wr w') (hB : ∀ g, B g → g ∈ R) : RHM w w' p q lv tv R lv' tv' l turn :=
  ⟨h.at_.sav s (fun g e => h.nin (hB g e)), h.sav.trans s (fun g e => .inr (h.res g (hB g e)).1), h.own, fun x e => ⟨(h.res x e).1, Nat.lt_of_lt_of_le (h.res x e).2 s.size⟩⟩
theorem RHM.set_t (h : RHM w wr p q lv tv R lv' tv' l turn) (s : Sav (fun g => tv'.ownBlock = some g) wr w') (hr : IntRow w' tv2 turn2) (ho : ∀ g, tv2.ownBlock = some g → tv'.ownBlock = some g ∨ wr.heap.size ≤ g) : RHM w (w'.setCell ⟨p, 4, none⟩ tv2) p q lv tv R lv' tv2 l turn2 := by
  have s2 : Sav (fun g => g = p) w' (w'.setCell ⟨p, 4, none⟩ tv2) := .set p 4 _
  refine ⟨h.at_.set_t s hr ho, (h.sav.trans s (fun g e => (h.own g (.inr (.inr e))).1)).trans s2 (fun g e => .inl (.inl e)), fun g e => ?_, fun x e => ⟨(h.res x e).1, Nat.lt_of_lt_of_le (h.res x e).2 (Nat.le_trans s.size s2.size)⟩⟩
  rcases e with e | e | e
  · exact h.own g (.inl e)
  · exact h.own g (.inr (.inl e))
  · rcases ho g e with e1 | e1
    · exact h.own g (.inr (.inr e1))
    · exact ⟨.inr (Nat.le_trans h.sav.size e1), fun e2 => by have := (h.res g e2).2; omega⟩
theorem RHM.set_l (h : RHM w wr p q lv tv R lv' tv' l turn) (s : Sav (fun g => lv'.ownBlock = some g) wr w') (hr : RowH 108 w' lv2 l2) (ho : ∀ g, lv2.ownBlock = some g → lv'.ownBlock = some g ∨ wr.heap.size ≤ g) : RHM w (w'.setCell ⟨p, 3, none⟩ lv2) p q lv tv R lv2 tv' l2 turn := by
  have s2 : Sav (fun g => g = p) w' (w'.setCell ⟨p, 3, none⟩ lv2) := .set p 3 _
  refine ⟨h.at_.set_l s hr ho, (h.sav.trans s (fun g e => (h.own g (.inr (.inl e))).1)).trans s2 (fun g e => .inl (.inl e)), fun g e => ?_, fun x e => ⟨(h.res x e).1, Nat.lt_of_lt_of_le (h.res x e).2 (Nat.le_trans s.size s2.size)⟩⟩
  rcases e with e | e | e
  · exact h.own g (.inl e)
  · rcases ho g e with e1 | e1
    · exact h.own g (.inr (.inl e1))
    · exact ⟨.inr (Nat.le_trans h.sav.size e1), fun e2 => by have := (h.res g e2).2; omega⟩
  · exact h.own g (.inr (.inr e))
theorem RHM.then {wm : World} {R2 : List Nat} (h : RHM w wr p q lv tv R lv' tv' l turn) (k : RHM wr wm p q lv' tv' R2 lv2 tv2 l2 turn2) : RHM w wm p q lv tv R lv2 tv2 l2 turn2 :=
  ⟨k.at_, h.sav.trans k.sav (fun g e => (h.own g e).1), fun g e => (k.own g e).1.elim (h.own g) (fun e1 => ⟨.inr (Nat.le_trans h.sav.size e1), fun e2 => by have := (h.res g e2).2; omega⟩), fun x e => ⟨(h.res x e).1, Nat.lt_of_lt_of_le (h.res x e).2 k.sav.size⟩⟩
end
/-- What a call may tell. -/
def RHDid (w w' : World) (p : Nat) (q : HasP) (lv tv : Value) (l : List Hel) (turn : List Int) : Prop := ∃ lv' tv', RHM w w' p q lv tv [] lv' tv' l turn
theorem outN_app (l r : List Hel) (m : Int) : outN (l ++ r) m = outN l m ++ outN r m := List.filter_append ..
theorem outN_le (l : List Hel) (m : Int) : (outN l m).length ≤ l.length := List.length_filter_le _ _
set_option maxRecDepth 100000 in
set_option maxHeartbeats 40000000 in
theorem rout_any (p : Nat) (q : HasP) (lv tv : Value) (l : List Hel) (turn : List Int) (hn : l.length ≤ 300) (y : Hel) (w : World) (h : RHasC w p q lv tv l turn) :
    Calls Tryd.prog 129 #[.pointer (some ⟨p, 0, none⟩), y.val] w fun e w' => e = .returned (.tuple #[]) ∧ RHDid w w' p q lv tv (outN l y.n) turn := by
  obtain ⟨i0', hi0, hz0, hz1, hz2⟩ := info_parts packInfo
  obtain ⟨la, lc, rfl, _, _, hce⟩ := h.row.any
  have HC := Lib.hid h
  have HN := Lib.hid hn
  have HCE := Lib.hid hce
  clear h hce hn
  unfold Hel.val
  go_enter Tryd.func129, Tryd.ntmps129
  go_upto_region 1 with fail
  obtain ⟨w0, hw0⟩ : ∃ u, u = w.alloc (.cells #[.int .i64 y.t, .int .i64 y.len, .int .i64 y.flow, .int .i64 y.band, .int .i64 y.mark, .int .i64 y.n] 108) := ⟨_, rfl⟩
  obtain ⟨yb, hyb⟩ : ∃ u, u = w.heap.size := ⟨_, rfl⟩
  have HY0 : Hid (HelAt w0 yb 0 y) := Lib.hid (by rw [hw0]; exact held_new w y hyb)
  have HG0 : Hid (Gr w w0) := Lib.hid (by rw [hw0]; exact (Gr.refl _).alloc _)
  rw [← hw0, ← hyb]
  clear hw0 hyb
  have c3 := HG0.out.cell HC.out.c3
  go_wp2
  clear c3
  go_loopw [4, 12] (fun s4 s12 wr => ∃ (i : Nat), i ≤ l.length ∧ s12 = .int .i64 (i : Int) ∧ Hid (Gr w0 wr ∧ RowH 108 wr s4 (outN (l.take i) y.n) ∧ ∀ g, s4.ownBlock = some g → w0.heap.size ≤ g)) (fun _ s _ => l.length - (intOf s).toNat)
  case atStart => exact ⟨0, Nat.zero_le _, rfl, Lib.hid ⟨Gr.refl _, RowH.nil _ _, fun g hg => by cases hg⟩⟩
  case round =>
    obtain ⟨i, hi, rfl, HK⟩ := hrel
    by_cases hlt : i < l.length
    · have i0 : (0 : Int) ≤ (i : Int) := by omega
      have i1 : (i : Int) < (l.length : Int) := by omega
      obtain ⟨lb, lo, rfl, hcell⟩ := HCE.out (by omega)
      obtain ⟨x, hx⟩ : ∃ x, x = l.getD i .zero := ⟨_, rfl⟩
      have HTK := Lib.hid (show outN (l.take (i + 1)) y.n = outN (l.take i) y.n ++ (if x.n ≠ y.n then [x] else []) from by
        rw [show (if x.n ≠ y.n then [x] else []) = outN [x] y.n from by unfold outN; by_cases e : x.n = y.n <;> simp [e], ← outN_app, hx, List.getD_eq_getElem?_getD, List.getElem?_eq_getElem hlt]
        rw [List.take_add_one, List.getElem?_eq_getElem hlt]
        rfl)
      have HLE := Lib.hid (show (outN (l.take i) y.n).length ≤ 300 from by have h1 := outN_le (l.take i) y.n; have h2 := HN.out; rw [List.length_take] at h1; omega)
      have HWI := Lib.hid (show wrap64 ((i : Int) + 1) = (i : Int) + 1 from by have := HN.out; unfold wrap64; omega)
      have hel := (hcell i hlt).gr (HG0.out.trans HK.out.1)
      rw [← hx] at hel
      clear hcell hx
      obtain ⟨c0, c1, c2, c3, c4, c5⟩ := hel
      go_upto_region 5 with fail
      clear c0 c1 c2 c3 c4 c5
      obtain ⟨w1, hw1⟩ : ∃ u, u = wr.alloc (.cells #[.int .i64 x.t, .int .i64 x.len, .int .i64 x.flow, .int .i64 x.band, .int .i64 x.mark, .int .i64 x.n] 108) := ⟨_, rfl⟩
      obtain ⟨xb, hxb⟩ : ∃ u, u = wr.heap.size := ⟨_, rfl⟩
      have HX1 : Hid (HelAt w1 xb 0 x) := Lib.hid (by rw [hw1]; exact held_new wr x hxb)
      have HK1 : Hid (Gr w0 w1 ∧ RowH 108 w1 u4 (outN (l.take i) y.n)) := Lib.hid (by rw [hw1]; exact ⟨HK.out.1.trans ((Gr.refl _).alloc _), HK.out.2.1.gr ((Gr.refl _).alloc _)⟩)
      rw [← hw1, ← hxb]
      clear hw1 hxb
      obtain ⟨x0, x1, x2, x3, x4, x5⟩ := HX1.out
      have y5 := (HY0.out.gr HK1.out.1).c5
      simp only [Nat.zero_add] at x1 x2 x3 x4 x5 y5
      obtain ⟨oa, oc, rfl⟩ := HK1.out.2.shape
      have HOW := Lib.hid HK.out.2.2
      by_cases hk : x.n = y.n
      · rw [if_neg (by simpa using hk), List.append_nil] at HTK
        go_wp2
        rw [HWI.out]
        go_roundw
        case measure => simp [intOf]; omega
        case rel => exact ⟨i + 1, by omega, by go_num, Lib.hid ⟨HK1.out.1, by rw [HTK.out]; exact HK1.out.2, HOW.out⟩⟩
      · rw [if_pos hk] at HTK
        go_wp2_with (at_builtin; refine wpList_append_rowH rfl _ _ _ (by rfl) i0' Hel.zero.val Tryd.underlying38 hi0 hz0 hz1 hz2 rfl ?c1 (by rfl) (HK1.out.2.gr ((Gr.refl _).alloc _)) ⟨w1.heap.size, 0, none⟩ 1 [x] (by rfl) (by simp) ?c3 ?c2 ?_; (case c1 => (intro u hu; exact (cells_int Hel.zero u (by simpa [Hel.val, Value.cells, Hel.cells] using hu)).2)); (case c3 => (rw [flat_one]; exact (held_new w1 x rfl).news)); (case c2 => (have h1 := HLE.out; simp; omega)); intro v4 w4 hrow hgr hown hold; have HG4 := Lib.hid (show Gr w0 w4 from (HK1.out.1.trans ((Gr.refl w1).alloc (.cells #[.int .i64 x.t, .int .i64 x.len, .int .i64 x.flow, .int .i64 x.band, .int .i64 x.mark, .int .i64 x.n] 108))).grown hgr (fun g hg => HOW.out g hg)); have HR4 := Lib.hid hrow; have HO4 := Lib.hid (show ∀ g, v4.ownBlock = some g → w0.heap.size ≤ g from fun g hg => (hown g hg).elim (HOW.out g) (fun e => Nat.le_trans (HK1.out.1.trans ((Gr.refl w1).alloc (.cells #[.int .i64 x.t, .int .i64 x.len, .int .i64 x.flow, .int .i64 x.band, .int .i64 x.mark, .int .i64 x.n] 108))).size e)); clear hrow hgr hown hold)
        rw [HWI.out]
        go_roundw
        case measure => simp [intOf]; omega
        case rel => exact ⟨i + 1, by omega, by go_num, Lib.hid ⟨HG4.out, by rw [HTK.out]; exact HR4.out, HO4.out⟩⟩
    · obtain rfl : i = l.length := by omega
      have i1 : ¬ (l.length : Int) < (l.length : Int) := by omega
      have h1 := HK.out
      rw [List.take_length] at h1
      have HK9 := Lib.hid h1
      have HMG := Lib.hid ((RHM.first HC.out).gr (HG0.out.trans h1.1))
      have c3 := HMG.out.at_.c3
      have f3 := HMG.out.at_.f3
      obtain ⟨oa, oc, rfl⟩ := h1.2.1.shape
      clear h1
      go_wp2
      go_end0
      exact ⟨rfl, _, _, (RHM.first HC.out).set_l (Sav.of_gr (HG0.out.trans HK9.out.1)) HK9.out.2.1 (fun g e => .inr (Nat.le_trans HG0.out.size (HK9.out.2.2 g e)))⟩
end Go.Proofs.YtbpofdfehcbppaaDoor

/-
  Colors by two buckets: bucket.Two, millraceref.Two. The law BucketTwo: its walk.
-/
import Derived.Test.YtogmjjaoflaogaaDoorBktD
import Derived.Test.YtogmjjaoflaogaaDoorRowI
import Derived.Test.YtogmjjaoflaogaaDoorSame
import Derived.Test.YtogmjjaoflaogaaDoorFrameI
namespace Go.Proofs.YtogmjjaoflaogaaDoor
open Go.RowKit Go.Extern.Stop Go.Stop Go.Extern

/-- What two buckets tell of a packet: 3, 2, 1; the committed one's state first. -/
def twoStep (C P : Bkt) (s : BSt × BSt) (x : Itm) : Int × (BSt × BSt) :=
  if (P.take s.2 x.t x.len).1 = true then
    (if (C.take s.1 x.t x.len).1 = true then 1 else 2, ((C.take s.1 x.t x.len).2, (P.take s.2 x.t x.len).2))
  else (3, (s.1, (P.take s.2 x.t x.len).2))
def twoSt (C P : Bkt) (l : List Itm) : Nat → BSt × BSt
  | 0 => (C.full, P.full)
  | k + 1 => (twoStep C P (twoSt C P l k) (l.getD k .zero)).2
def twoCol (C P : Bkt) (l : List Itm) (k : Nat) : Int := (twoStep C P (twoSt C P l k) (l.getD k .zero)).1
theorem twoSt_ok (C P : Bkt) (l : List Itm) (k : Nat) : C.Ok (twoSt C P l k).1 ∧ P.Ok (twoSt C P l k).2 := by
  induction k with
  | zero => exact ⟨C.full_ok, P.full_ok⟩
  | succ k ih =>
    show C.Ok (twoStep C P (twoSt C P l k) (l.getD k .zero)).2.1 ∧ P.Ok (twoStep C P (twoSt C P l k) (l.getD k .zero)).2.2
    unfold twoStep
    split
    · exact ⟨C.take_ok ih.1 _ _, P.take_ok ih.2 _ _⟩
    · exact ⟨ih.1, P.take_ok ih.2 _ _⟩
theorem noRatInt : NoRat isInt := ⟨(fun a n c ⟨_, h⟩ => by cases h), (fun x ⟨_, h⟩ => by cases h)⟩

/-- An own slice, its block from base on, in a world that has all of w. -/
structure OwnB (w : World) (base : Nat) (wr : World) (out : Value) : Prop where
  age : ∀ g, out.ownBlock = some g → base ≤ g
  gr : Gr w wr
  le : w.heap.size ≤ base
  top : base ≤ wr.heap.size
section
variable {w w1 w2 : World} {base p : Nat} {v v' : Value}
theorem OwnB.append (h : OwnB w base w1 v) (k : w1.grownBy w2 v.ownBlock) (hb : ∀ g, v'.ownBlock = some g → v.ownBlock = some g ∨ w1.heap.size ≤ g) : OwnB w base w2 v' :=
  ⟨fun g hg => by
    rcases hb g hg with h1 | h1
    · exact h.age g h1
    · exact Nat.le_trans h.top h1, h.gr.grown k (fun g hg => Nat.le_trans h.le (h.age g hg)), h.le, Nat.le_trans h.top k.size⟩
theorem OwnB.to (h : OwnB w base w1 v) (k : Gr w1 w2) : OwnB w base w2 v := ⟨h.age, h.gr.trans k, h.le, Nat.le_trans h.top k.size⟩
theorem OwnB.only (h : OwnB w base w1 v) (k : Only p 3 w1 w2) (hp : w.heap.size ≤ p) : OwnB w base w2 v := ⟨h.age, k.gr w h.gr hp, h.le, Nat.le_trans h.top k.size⟩
theorem OwnB.ne (h : OwnB w base w1 v) (hp : p < base) : v.ownBlock ≠ some p := fun e => by have := h.age p e; omega
theorem IntRow.only {xs : List Int} (hr : IntRow w1 v xs) (h : OwnB w base w1 v) (k : Only p 3 w1 w2) (hp : p < base) : IntRow w2 v xs :=
  Row.same hr fun g hg => k.block g (Row.lt hr hg) (fun e => h.ne hp (by rw [hg, e]))
end

/-- The program's round: packets so far, states so far. -/
structure TwoP (w : World) (base : Nat) (wr : World) (pc pp : Nat) (C P : Bkt) (out : Value) (cols : List Int) (s : BSt × BSt) : Prop where
  row : IntRow wr out cols
  own : OwnB w base wr out
  c : StAt wr pc C s.1
  p : StAt wr pp P s.2
  ne : pc ≠ pp
  ac : w.heap.size ≤ pc ∧ pc < base
  ap : w.heap.size ≤ pp ∧ pp < base
section
variable {w wr u : World} {base pc pp : Nat} {C P : Bkt} {out out' : Value} {cols : List Int} {s : BSt × BSt} {c' p' : BSt} {x : Int}
theorem TwoP.gr (h : TwoP w base wr pc pp C P out cols s) (g : Gr wr u) : TwoP w base u pc pp C P out cols s := ⟨h.row.gr g, h.own.to g, h.c.gr g, h.p.gr g, h.ne, h.ac, h.ap⟩
theorem TwoP.takeP (h : TwoP w base wr pc pp C P out cols s) (hs : StAt u pp P p') (ho : Only pp 3 wr u) : TwoP w base u pc pp C P out cols (s.1, p') :=
  ⟨h.row.only h.own ho h.ap.2, h.own.only ho h.ap.1, h.c.only ho h.ne, hs, h.ne, h.ac, h.ap⟩
theorem TwoP.takeC (h : TwoP w base wr pc pp C P out cols s) (hs : StAt u pc C c') (ho : Only pc 3 wr u) : TwoP w base u pc pp C P out cols (c', s.2) :=
  ⟨h.row.only h.own ho h.ac.2, h.own.only ho h.ac.1, hs, h.p.only ho (Ne.symm h.ne), h.ne, h.ac, h.ap⟩
theorem TwoP.append (h : TwoP w base wr pc pp C P out cols s) (hr : IntRow u out' (cols ++ [x])) (hg : wr.grownBy u out.ownBlock) (hb : ∀ g, out'.ownBlock = some g → out.ownBlock = some g ∨ wr.heap.size ≤ g) : TwoP w base u pc pp C P out' (cols ++ [x]) s :=
  ⟨hr, h.own.append hg hb, h.c.block (grown_block hg (cell_lt h.c.c0) (h.own.ne h.ac.2)), h.p.block (grown_block hg (cell_lt h.p.c0) (h.own.ne h.ap.2)), h.ne, h.ac, h.ap⟩
end
theorem upTo_next {C P : Bkt} {l : List Itm} {k : Nat} {x : Int} {s : BSt × BSt} (h : twoStep C P (twoSt C P l k) (l.getD k .zero) = (x, s)) : upTo (twoCol C P l) k ++ [x] = upTo (twoCol C P l) (k + 1) ∧ s = twoSt C P l (k + 1) := by
  have h1 : twoCol C P l k = x := by unfold twoCol; rw [h]
  have h2 : twoSt C P l (k + 1) = s := by show (twoStep C P (twoSt C P l k) (l.getD k .zero)).2 = s; rw [h]
  exact ⟨by rw [← h1, upTo_succ], h2.symm⟩

set_option maxRecDepth 100000 in
set_option maxHeartbeats 8000000 in
theorem two_ok (C P : Bkt) {v : Value} {l : List Itm} (w : World) (hx : Items w v l) (hg : Glob w) (hl : listCode l = 0) (hn : l.length ≤ 100) (hbd : Hid (∀ i, i < l.length → -9223372036854775808 ≤ (l.getD i .zero).t)) :
    Calls Tryd.prog 23 #[bktV (C.b : Int) (C.t : Int) (C.r : Int), bktV (P.b : Int) (P.t : Int) (P.r : Int), v] w fun e w' => ∃ r, e = .returned (.tuple #[r, .nilIface]) ∧ IntRow w' r (upTo (twoCol C P l) l.length) ∧ Gr w w' := by
  obtain ⟨a, cap, rfl⟩ := items_shape hx
  have HXX := Lib.hid hx
  have HX : Hid (0 < l.length → ∃ b off, a = some ⟨b, off, none⟩ ∧ ∀ i, i < l.length → ItemAt w b (off + i * 5) (l.getD i .zero)) := Lib.hid (fun h0 => by
    obtain ⟨b, off, cap', h1, _, _, h2⟩ := items_cells hx h0
    simp at h1
    exact ⟨b, off, h1.1, h2.out⟩)
  have HGL := Lib.hid hg
  have HL := Lib.hid hl
  obtain ⟨w0, hw0⟩ : ∃ w0, w0 = (w.alloc (.cells #[.int .i64 (C.b : Int), .int .i64 (C.t : Int), .int .i64 (C.r : Int)] 25)).alloc (.cells #[.int .i64 (P.b : Int), .int .i64 (P.t : Int), .int .i64 (P.r : Int)] 25) := ⟨_, rfl⟩
  have HG0 : Hid (Gr w w0) := Lib.hid (by rw [hw0]; exact ((Gr.refl w).alloc _).alloc _)
  have HCC : Hid (Cells3 w0 w.heap.size (.int .i64 (C.b : Int)) (.int .i64 (C.t : Int)) (.int .i64 (C.r : Int))) := Lib.hid (by rw [hw0]; exact ⟨by simp, by simp, by simp⟩)
  have HCP : Hid (Cells3 w0 (w.heap.size + 1) (.int .i64 (P.b : Int)) (.int .i64 (P.t : Int)) (.int .i64 (P.r : Int))) := Lib.hid (by rw [hw0]; exact ⟨by simp, by simp, by simp⟩)
  have b1 : (l.length : Int) ≤ 100 := by omega
  have HNC := Lib.hid (fun u => bnew_ok C u)
  have HNP := Lib.hid (fun u => bnew_ok P u)
  unfold bktV at *
  clear hx hg hl
  generalize hnn : l.length = n at *
  have HN := Lib.hid hnn
  clear hnn
  have tok1 := trivial
  go_enter Tryd.func23, Tryd.ntmps23
  go_wp2_with fail
  rw [← hw0]
  clear hw0
  obtain ⟨x0, x1, x2⟩ := HCC.out
  go_wp2_with (first
    | (go_at_call 47; have _ := tok1; (with_reducible refine (HNC.out _).mono ?_); rintro e w1 ⟨pc, rfl, hp, hs, hg1⟩; have HG1 := Lib.hid (HG0.out.trans hg1); have HS := Lib.hid hs; have HP := Lib.hid (Nat.le_trans HG0.out.size hp); obtain ⟨y0, y1, y2⟩ := HCP.out.gr hg1; clear hp hs hg1 tok1; have tok2 := trivial)
    | (go_at_call 47; have _ := tok2; (with_reducible refine (HNP.out _).mono ?_); rintro e w2 ⟨pp, rfl, hp, hs, hg2⟩; have HG2 := Lib.hid (HG1.out.trans hg2); have HS2 := Lib.hid hs; have HS1 := Lib.hid (HS.out.gr hg2); have HP2 := Lib.hid (show pc < pp ∧ w.heap.size ≤ pp from ⟨Nat.lt_of_lt_of_le (cell_lt HS.out.c0) hp, Nat.le_trans HG1.out.size hp⟩); clear hp hs hg2 tok2)
    | (go_at_call 40; (with_reducible refine (ilist_ok _ (HXX.out.gr HG2.out) (HGL.out.gr HG2.out) HL.out).mono ?_); rintro e w3 ⟨rfl, hg3⟩; have HG3 := Lib.hid (HG2.out.trans hg3); have HC0 : Hid (TwoP w w3.heap.size w3 pc pp C P (.slice none 0 0) (upTo (twoCol C P l) 0) (twoSt C P l 0)) := Lib.hid ⟨IntRow.nil _, ⟨(fun g hg => by cases hg), HG3.out, HG3.out.size, Nat.le_refl _⟩, HS1.out.gr hg3, HS2.out.gr hg3, Nat.ne_of_lt HP2.out.1, ⟨HP.out, Nat.lt_of_lt_of_le (cell_lt HS1.out.c0) hg3.size⟩, ⟨HP2.out.2, Nat.lt_of_lt_of_le (cell_lt HS2.out.c0) hg3.size⟩⟩; clear hg3))
  obtain ⟨base, hbase⟩ : ∃ base, base = w3.heap.size := ⟨_, rfl⟩
  rw [← hbase] at HC0
  clear hbase
  go_loopw [12, 38] (fun out i wr => ∃ k : Nat, k ≤ n ∧ i = .int .i64 k ∧ Hid (TwoP w base wr pc pp C P out (upTo (twoCol C P l) k) (twoSt C P l k))) (fun _ i _ => n - (intOf i).toNat)
  case atStart => exact ⟨0, Nat.zero_le _, rfl, HC0⟩
  case round =>
    obtain ⟨k, hk, rfl, HC⟩ := hrel
    by_cases hlt : k < n
    · obtain ⟨b, off, rfl, hA2⟩ := HX.out (by omega)
      have hit := hA2 k hlt
      have c0 := HC.out.own.gr.cell hit.c0
      have c1 := HC.out.own.gr.cell hit.c1
      have c2 := HC.out.own.gr.cell hit.c2
      have c3 := HC.out.own.gr.cell hit.c3
      have c4 := HC.out.own.gr.cell hit.c4
      have i0 : (0 : Int) ≤ (k : Int) := by omega
      have i1 : (k : Int) < (n : Int) := by omega
      have HTP := Lib.hid (fun u (hu : StAt u pp P (twoSt C P l k).2) => take_any pp P _ (l.getD k .zero).t (l.getD k .zero).len u hu (twoSt_ok C P l k).2 (hbd.out k hlt))
      have HTC := Lib.hid (fun u (hu : StAt u pc C (twoSt C P l k).1) => take_any pc C _ (l.getD k .zero).t (l.getD k .zero).len u hu (twoSt_ok C P l k).1 (hbd.out k hlt))
      have HD : Hid (∀ x s, twoStep C P (twoSt C P l k) (l.getD k .zero) = (x, s) → _) := Lib.hid (fun x s h => upTo_next (x := x) (s := s) h)
      have hlen : (upTo (twoCol C P l) k).length = k := upTo_len _ _
      have HK : Hid ((upTo (twoCol C P l) k).length ≤ 1000000) := Lib.hid (by omega)
      clear hA2 hit hlen
      by_cases h1 : (P.take (twoSt C P l k).2 (l.getD k .zero).t (l.getD k .zero).len).1 = true
      · rw [h1] at HTP
        by_cases h2 : (C.take (twoSt C P l k).1 (l.getD k .zero).t (l.getD k .zero).len).1 = true
        · rw [h2] at HTC
          have HD2 := Lib.hid (HD.out 1 ((C.take (twoSt C P l k).1 (l.getD k .zero).t (l.getD k .zero).len).2, (P.take (twoSt C P l k).2 (l.getD k .zero).t (l.getD k .zero).len).2) (by unfold twoStep; rw [if_pos h1, if_pos h2]))
          clear h1 h2 HD
          generalize (C.take (twoSt C P l k).1 (l.getD k .zero).t (l.getD k .zero).len).2 = c' at *
          generalize (P.take (twoSt C P l k).2 (l.getD k .zero).t (l.getD k .zero).len).2 = p' at *
          generalize l.getD k .zero = x at *
          obtain ⟨t, len, flow, band, mark⟩ := x
          have HC1 := Lib.hid (HC.out.gr ((Gr.refl wr).alloc (.cells #[.int .i64 t, .int .i64 len, .int .i64 flow, .int .i64 band, .int .i64 mark] 73)))
          have HB1 : Hid (Cells2 (wr.alloc (.cells #[.int .i64 t, .int .i64 len, .int .i64 flow, .int .i64 band, .int .i64 mark] 73)) wr.heap.size (.int .i64 t) (.int .i64 len)) := Lib.hid ⟨by simp, by simp⟩
          have HBN : Hid (pp ≠ wr.heap.size) := Lib.hid (Nat.ne_of_lt (cell_lt HC.out.p.c0))
          have tok3 := trivial
          go_wp2_with (first
            | (go_at_call 48; have _ := tok3; (with_reducible refine (HTP.out _ HC1.out.p).mono ?_); rintro e w4 ⟨rfl, hs, ho⟩; have HC2 := Lib.hid (HC1.out.takeP hs ho); have HB2 := Lib.hid (HB1.out.only ho HBN.out); obtain ⟨y0, y1⟩ := HB2.out; clear hs ho tok3; have tok4 := trivial)
            | (go_at_call 48; have _ := tok4; (with_reducible refine (HTC.out _ HC2.out.c).mono ?_); rintro e w5 ⟨rfl, hs, ho⟩; have HC3 := Lib.hid (HC2.out.takeC hs ho); have HC4 := Lib.hid (HC3.out.gr ((Gr.refl w5).alloc (.cells #[.int .i64 1] 3))); clear hs ho tok4)
            | (at_builtin; refine wpList_append_intR rfl _ _ _ (by rfl) (by rfl) u12 _ 1 (by rfl) HC4.out.row ⟨w5.heap.size, 0, none⟩ 1 (by rfl) (by simp) HK.out ?_; intro v' w6 hrow hgr hblk; have HC5 := Lib.hid (HC4.out.append hrow hgr hblk); clear hrow hgr hblk))
          go_roundw
          case rel => exact ⟨k + 1, by omega, by go_num, by rw [← HD2.out.1, ← HD2.out.2]; exact HC5⟩
          case measure => simp [intOf]; omega
        · have h2' : (C.take (twoSt C P l k).1 (l.getD k .zero).t (l.getD k .zero).len).1 = false := by simpa using h2
          rw [h2'] at HTC
          have HD2 := Lib.hid (HD.out 2 ((C.take (twoSt C P l k).1 (l.getD k .zero).t (l.getD k .zero).len).2, (P.take (twoSt C P l k).2 (l.getD k .zero).t (l.getD k .zero).len).2) (by unfold twoStep; rw [if_pos h1, if_neg h2]))
          clear h1 h2 h2' HD
          generalize (C.take (twoSt C P l k).1 (l.getD k .zero).t (l.getD k .zero).len).2 = c' at *
          generalize (P.take (twoSt C P l k).2 (l.getD k .zero).t (l.getD k .zero).len).2 = p' at *
          generalize l.getD k .zero = x at *
          obtain ⟨t, len, flow, band, mark⟩ := x
          have HC1 := Lib.hid (HC.out.gr ((Gr.refl wr).alloc (.cells #[.int .i64 t, .int .i64 len, .int .i64 flow, .int .i64 band, .int .i64 mark] 73)))
          have HB1 : Hid (Cells2 (wr.alloc (.cells #[.int .i64 t, .int .i64 len, .int .i64 flow, .int .i64 band, .int .i64 mark] 73)) wr.heap.size (.int .i64 t) (.int .i64 len)) := Lib.hid ⟨by simp, by simp⟩
          have HBN : Hid (pp ≠ wr.heap.size) := Lib.hid (Nat.ne_of_lt (cell_lt HC.out.p.c0))
          have tok3 := trivial
          go_wp2_with (first
            | (go_at_call 48; have _ := tok3; (with_reducible refine (HTP.out _ HC1.out.p).mono ?_); rintro e w4 ⟨rfl, hs, ho⟩; have HC2 := Lib.hid (HC1.out.takeP hs ho); have HB2 := Lib.hid (HB1.out.only ho HBN.out); obtain ⟨y0, y1⟩ := HB2.out; clear hs ho tok3; have tok4 := trivial)
            | (go_at_call 48; have _ := tok4; (with_reducible refine (HTC.out _ HC2.out.c).mono ?_); rintro e w5 ⟨rfl, hs, ho⟩; have HC3 := Lib.hid (HC2.out.takeC hs ho); have HC4 := Lib.hid (HC3.out.gr ((Gr.refl w5).alloc (.cells #[.int .i64 2] 3))); clear hs ho tok4)
            | (at_builtin; refine wpList_append_intR rfl _ _ _ (by rfl) (by rfl) u12 _ 2 (by rfl) HC4.out.row ⟨w5.heap.size, 0, none⟩ 1 (by rfl) (by simp) HK.out ?_; intro v' w6 hrow hgr hblk; have HC5 := Lib.hid (HC4.out.append hrow hgr hblk); clear hrow hgr hblk))
          go_roundw
          case rel => exact ⟨k + 1, by omega, by go_num, by rw [← HD2.out.1, ← HD2.out.2]; exact HC5⟩
          case measure => simp [intOf]; omega
      · have h1' : (P.take (twoSt C P l k).2 (l.getD k .zero).t (l.getD k .zero).len).1 = false := by simpa using h1
        rw [h1'] at HTP
        have HD2 := Lib.hid (HD.out 3 ((twoSt C P l k).1, (P.take (twoSt C P l k).2 (l.getD k .zero).t (l.getD k .zero).len).2) (by unfold twoStep; rw [if_neg h1]))
        clear h1 h1' HD HTC
        generalize (P.take (twoSt C P l k).2 (l.getD k .zero).t (l.getD k .zero).len).2 = p' at *
        generalize l.getD k .zero = x at *
        obtain ⟨t, len, flow, band, mark⟩ := x
        have HC1 := Lib.hid (HC.out.gr ((Gr.refl wr).alloc (.cells #[.int .i64 t, .int .i64 len, .int .i64 flow, .int .i64 band, .int .i64 mark] 73)))
        go_wp2_with (first
          | (go_at_call 48; (with_reducible refine (HTP.out _ HC1.out.p).mono ?_); rintro e w4 ⟨rfl, hs, ho⟩; have HC2 := Lib.hid (HC1.out.takeP hs ho); have HC4 := Lib.hid (HC2.out.gr ((Gr.refl w4).alloc (.cells #[.int .i64 3] 3))); clear hs ho)
          | (at_builtin; refine wpList_append_intR rfl _ _ _ (by rfl) (by rfl) u12 _ 3 (by rfl) HC4.out.row ⟨w4.heap.size, 0, none⟩ 1 (by rfl) (by simp) HK.out ?_; intro v' w6 hrow hgr hblk; have HC5 := Lib.hid (HC4.out.append hrow hgr hblk); clear hrow hgr hblk))
        go_roundw
        case rel => exact ⟨k + 1, by omega, by go_num, by rw [← HD2.out.1, ← HD2.out.2]; exact HC5⟩
        case measure => simp [intOf]; omega
    · obtain rfl : k = n := by omega
      go_wp2
      go_ret2
      exact ⟨_, rfl, HC.out.row, HC.out.own.gr⟩
/-- The reference's round. -/
structure TwoR (w : World) (base : Nat) (wr : World) (pc pp : Nat) (C P : Bkt) (out : Value) (cols : List Int) (s : BSt × BSt) : Prop where
  row : IntRow wr out cols
  own : OwnB w base wr out
  c : ∃ g, FAt wr pc C s.1 g
  p : ∃ g, FAt wr pp P s.2 g
  ne : pc ≠ pp
  ac : w.heap.size ≤ pc ∧ pc < base
  ap : w.heap.size ≤ pp ∧ pp < base
section
variable {w wr u : World} {base pc pp : Nat} {C P : Bkt} {out out' : Value} {cols : List Int} {s : BSt × BSt} {c' p' : BSt} {x : Int}
theorem TwoR.gr (h : TwoR w base wr pc pp C P out cols s) (g : Gr wr u) : TwoR w base u pc pp C P out cols s := by
  obtain ⟨gc, hc⟩ := h.c
  obtain ⟨gp, hp⟩ := h.p
  exact ⟨h.row.gr g, h.own.to g, ⟨gc, hc.gr g⟩, ⟨gp, hp.gr g⟩, h.ne, h.ac, h.ap⟩
theorem TwoR.takeP (h : TwoR w base wr pc pp C P out cols s) (hs : ∃ g, FAt u pp P p' g) (ho : Only pp 3 wr u) : TwoR w base u pc pp C P out cols (s.1, p') := by
  obtain ⟨gc, hc⟩ := h.c
  obtain ⟨gp, hp⟩ := h.p
  exact ⟨h.row.only h.own ho h.ap.2, h.own.only ho h.ap.1, ⟨gc, hc.only hp.mine ho h.ne⟩, hs, h.ne, h.ac, h.ap⟩
theorem TwoR.takeC (h : TwoR w base wr pc pp C P out cols s) (hs : ∃ g, FAt u pc C c' g) (ho : Only pc 3 wr u) : TwoR w base u pc pp C P out cols (c', s.2) := by
  obtain ⟨gc, hc⟩ := h.c
  obtain ⟨gp, hp⟩ := h.p
  exact ⟨h.row.only h.own ho h.ac.2, h.own.only ho h.ac.1, hs, ⟨gp, hp.only hc.mine ho (Ne.symm h.ne)⟩, h.ne, h.ac, h.ap⟩
theorem TwoR.append (h : TwoR w base wr pc pp C P out cols s) (hr : IntRow u out' (cols ++ [x])) (hg : wr.grownBy u out.ownBlock) (hb : ∀ g, out'.ownBlock = some g → out.ownBlock = some g ∨ wr.heap.size ≤ g) : TwoR w base u pc pp C P out' (cols ++ [x]) s := by
  obtain ⟨gc, hc⟩ := h.c
  obtain ⟨gp, hp⟩ := h.p
  exact ⟨hr, h.own.append hg hb, ⟨gc, hc.block (grown_block hg (cell_lt hc.c0) (h.own.ne h.ac.2)) (hc.rat.row h.row noRatInt hg)⟩, ⟨gp, hp.block (grown_block hg (cell_lt hp.c0) (h.own.ne h.ap.2)) (hp.rat.row h.row noRatInt hg)⟩, h.ne, h.ac, h.ap⟩
end
theorem both3 {w w' : World} {p q : Nat} {x y z x' y' z' : Value} (k : Gr w w') (h : Cells3 w p x y z) (h' : Cells3 w q x' y' z') :
    (w'.cell? ⟨p, 0, none⟩ = some x ∧ w'.cell? ⟨p, 1, none⟩ = some y ∧ w'.cell? ⟨p, 2, none⟩ = some z) ∧ (w'.cell? ⟨q, 0, none⟩ = some x' ∧ w'.cell? ⟨q, 1, none⟩ = some y' ∧ w'.cell? ⟨q, 2, none⟩ = some z') :=
  ⟨⟨k.cell h.c0, k.cell h.c1, k.cell h.c2⟩, k.cell h'.c0, k.cell h'.c1, k.cell h'.c2⟩
set_option maxRecDepth 100000 in
set_option maxHeartbeats 8000000 in
theorem rtwo_ok (C P : Bkt) {v : Value} {l : List Itm} (w : World) (hx : Items w v l) (hn : l.length ≤ 100) (hbd : Hid (∀ i, i < l.length → -9223372036854775808 ≤ (l.getD i .zero).t)) :
    Calls Tryd.prog 22 #[bktV (C.b : Int) (C.t : Int) (C.r : Int), bktV (P.b : Int) (P.t : Int) (P.r : Int), v] w fun e w' => ∃ r, e = .returned r ∧ IntRow w' r (upTo (twoCol C P l) l.length) ∧ Gr w w' := by
  obtain ⟨a, cap, rfl⟩ := items_shape hx
  have HX : Hid (0 < l.length → ∃ b off, a = some ⟨b, off, none⟩ ∧ ∀ i, i < l.length → ItemAt w b (off + i * 5) (l.getD i .zero)) := Lib.hid (fun h0 => by
    obtain ⟨b, off, cap', h1, _, _, h2⟩ := items_cells hx h0
    simp at h1
    exact ⟨b, off, h1.1, h2.out⟩)
  obtain ⟨w0, hw0⟩ : ∃ w0, w0 = (w.alloc (.cells #[.int .i64 (C.b : Int), .int .i64 (C.t : Int), .int .i64 (C.r : Int)] 34)).alloc (.cells #[.int .i64 (P.b : Int), .int .i64 (P.t : Int), .int .i64 (P.r : Int)] 34) := ⟨_, rfl⟩
  have HG0 : Hid (Gr w w0) := Lib.hid (by rw [hw0]; exact ((Gr.refl w).alloc _).alloc _)
  have HCC : Hid (Cells3 w0 w.heap.size (.int .i64 (C.b : Int)) (.int .i64 (C.t : Int)) (.int .i64 (C.r : Int))) := Lib.hid (by rw [hw0]; exact ⟨by simp, by simp, by simp⟩)
  have HCP : Hid (Cells3 w0 (w.heap.size + 1) (.int .i64 (P.b : Int)) (.int .i64 (P.t : Int)) (.int .i64 (P.r : Int))) := Lib.hid (by rw [hw0]; exact ⟨by simp, by simp, by simp⟩)
  have b1 : (l.length : Int) ≤ 100 := by omega
  have HNC := Lib.hid (fun u => newFilled_any C u)
  have HNP := Lib.hid (fun u => newFilled_any P u)
  unfold bktV at *
  clear hx
  generalize hnn : l.length = n at *
  have HN := Lib.hid hnn
  clear hnn
  go_enter Tryd.func22, Tryd.ntmps22
  go_wp2_with fail
  rw [← hw0]
  clear hw0
  obtain ⟨x0, x1, x2⟩ := HCC.out
  obtain ⟨y0, y1, y2⟩ := HCP.out
  have tok1 := trivial
  go_region_held3 (fun w' => (w'.cell? ⟨w.heap.size, 0, none⟩ = some (.int .i64 (C.b : Int)) ∧ w'.cell? ⟨w.heap.size, 1, none⟩ = some (.int .i64 (C.t : Int)) ∧ w'.cell? ⟨w.heap.size, 2, none⟩ = some (.int .i64 (C.r : Int))) ∧ (w'.cell? ⟨w.heap.size + 1, 0, none⟩ = some (.int .i64 (P.b : Int)) ∧ w'.cell? ⟨w.heap.size + 1, 1, none⟩ = some (.int .i64 (P.t : Int)) ∧ w'.cell? ⟨w.heap.size + 1, 2, none⟩ = some (.int .i64 (P.r : Int))))
    (first
      | exact both3 (((Gr.refl w0).drew.trans hg1).trans hg2) HCC.out HCP.out
      | exact both3 ((Gr.refl w0).drew.trans hg1) HCC.out HCP.out
      | go_keep)
    (first
      | (go_at_call 26; have _ := tok2; (with_reducible refine (HNP.out _).mono ?_); rintro e w2 ⟨pp, gp, rfl, hp2, hs2, hg2⟩)
      | (go_at_call 26; (with_reducible refine (HNC.out _).mono ?_); rintro e w1 ⟨pc, gc, rfl, hp1, hs1, hg1⟩; have tok2 := trivial))
  have HGG : Hid (Gr w0 w1) := Lib.hid ((Gr.refl w0).drew.trans hg1)
  have HC0 : Hid (TwoR w w2.heap.size w2 pc pp C P (.slice none 0 0) (upTo (twoCol C P l) 0) (twoSt C P l 0)) := Lib.hid ⟨IntRow.nil _, ⟨(fun g hg => by cases hg), (HG0.out.trans HGG.out).trans hg2, ((HG0.out.trans HGG.out).trans hg2).size, Nat.le_refl _⟩, ⟨gc, hs1.gr hg2⟩, ⟨gp, hs2⟩, Nat.ne_of_lt (Nat.lt_of_lt_of_le (cell_lt hs1.c0) hp2), ⟨Nat.le_trans HG0.out.size hp1, Nat.lt_of_lt_of_le (cell_lt hs1.c0) hg2.size⟩, ⟨Nat.le_trans (HG0.out.trans HGG.out).size hp2, cell_lt hs2.c0⟩⟩
  clear hp1 hs1 hg1 hp2 hs2 hg2
  go_wp2
  obtain ⟨base, hbase⟩ : ∃ base, base = w2.heap.size := ⟨_, rfl⟩
  rw [← hbase] at HC0
  clear hbase
  go_loopw [9, 19] (fun out i wr => ∃ k : Nat, k ≤ n ∧ i = .int .i64 k ∧ Hid (TwoR w base wr pc pp C P out (upTo (twoCol C P l) k) (twoSt C P l k))) (fun _ i _ => n - (intOf i).toNat)
  case atStart => exact ⟨0, Nat.zero_le _, rfl, HC0⟩
  case round =>
    obtain ⟨k, hk, rfl, HC⟩ := hrel
    by_cases hlt : k < n
    · obtain ⟨b, off, rfl, hA2⟩ := HX.out (by omega)
      have hit := hA2 k hlt
      have c0 := HC.out.own.gr.cell hit.c0
      have c1 := HC.out.own.gr.cell hit.c1
      have c2 := HC.out.own.gr.cell hit.c2
      have c3 := HC.out.own.gr.cell hit.c3
      have c4 := HC.out.own.gr.cell hit.c4
      have i0 : (0 : Int) ≤ (k : Int) := by omega
      have i1 : (k : Int) < (n : Int) := by omega
      have HTP := Lib.hid (fun u g (hu : FAt u pp P (twoSt C P l k).2 g) => rtake_any pp g P _ (l.getD k .zero).t (l.getD k .zero).len u hu (twoSt_ok C P l k).2 (hbd.out k hlt))
      have HTC := Lib.hid (fun u g (hu : FAt u pc C (twoSt C P l k).1 g) => rtake_any pc g C _ (l.getD k .zero).t (l.getD k .zero).len u hu (twoSt_ok C P l k).1 (hbd.out k hlt))
      have HD : Hid (∀ x s, twoStep C P (twoSt C P l k) (l.getD k .zero) = (x, s) → _) := Lib.hid (fun x s h => upTo_next (x := x) (s := s) h)
      have hlen : (upTo (twoCol C P l) k).length = k := upTo_len _ _
      have HK : Hid ((upTo (twoCol C P l) k).length ≤ 1000000) := Lib.hid (by omega)
      clear hA2 hit hlen
      by_cases h1 : (P.take (twoSt C P l k).2 (l.getD k .zero).t (l.getD k .zero).len).1 = true
      · rw [h1] at HTP
        by_cases h2 : (C.take (twoSt C P l k).1 (l.getD k .zero).t (l.getD k .zero).len).1 = true
        · rw [h2] at HTC
          have HD2 := Lib.hid (HD.out 1 ((C.take (twoSt C P l k).1 (l.getD k .zero).t (l.getD k .zero).len).2, (P.take (twoSt C P l k).2 (l.getD k .zero).t (l.getD k .zero).len).2) (by unfold twoStep; rw [if_pos h1, if_pos h2]))
          clear h1 h2 HD
          generalize (C.take (twoSt C P l k).1 (l.getD k .zero).t (l.getD k .zero).len).2 = c' at *
          generalize (P.take (twoSt C P l k).2 (l.getD k .zero).t (l.getD k .zero).len).2 = p' at *
          generalize l.getD k .zero = x at *
          obtain ⟨t, len, flow, band, mark⟩ := x
          have HC1 := Lib.hid (HC.out.gr ((Gr.refl wr).alloc (.cells #[.int .i64 t, .int .i64 len, .int .i64 flow, .int .i64 band, .int .i64 mark] 73)))
          have HB1 : Hid (Cells2 (wr.alloc (.cells #[.int .i64 t, .int .i64 len, .int .i64 flow, .int .i64 band, .int .i64 mark] 73)) wr.heap.size (.int .i64 t) (.int .i64 len)) := Lib.hid ⟨by simp, by simp⟩
          have HBN : Hid (pp ≠ wr.heap.size) := Lib.hid (by obtain ⟨_, h⟩ := HC.out.p; exact Nat.ne_of_lt (cell_lt h.c0))
          have tok3 := trivial
          go_wp2_with (first
            | (go_at_call 46; have _ := tok3; obtain ⟨gp1, hgp1⟩ := HC1.out.p; (with_reducible refine (HTP.out _ gp1 hgp1).mono ?_); clear hgp1; rintro e w4 ⟨rfl, hs, ho⟩; have HC2 := Lib.hid (HC1.out.takeP hs ho); have HB2 := Lib.hid (HB1.out.only ho HBN.out); obtain ⟨y0, y1⟩ := HB2.out; clear hs ho tok3; have tok4 := trivial)
            | (go_at_call 46; have _ := tok4; obtain ⟨gc1, hgc1⟩ := HC2.out.c; (with_reducible refine (HTC.out _ gc1 hgc1).mono ?_); clear hgc1; rintro e w5 ⟨rfl, hs, ho⟩; have HC3 := Lib.hid (HC2.out.takeC hs ho); have HC4 := Lib.hid (HC3.out.gr ((Gr.refl w5).alloc (.cells #[.int .i64 1] 3))); clear hs ho tok4)
            | (at_builtin; refine wpList_append_intR rfl _ _ _ (by rfl) (by rfl) u9 _ 1 (by rfl) HC4.out.row ⟨w5.heap.size, 0, none⟩ 1 (by rfl) (by simp) HK.out ?_; intro v' w6 hrow hgr hblk; have HC5 := Lib.hid (HC4.out.append hrow hgr hblk); clear hrow hgr hblk))
          go_roundw
          case rel => exact ⟨k + 1, by omega, by go_num, by rw [← HD2.out.1, ← HD2.out.2]; exact HC5⟩
          case measure => simp [intOf]; omega
        · have h2' : (C.take (twoSt C P l k).1 (l.getD k .zero).t (l.getD k .zero).len).1 = false := by simpa using h2
          rw [h2'] at HTC
          have HD2 := Lib.hid (HD.out 2 ((C.take (twoSt C P l k).1 (l.getD k .zero).t (l.getD k .zero).len).2, (P.take (twoSt C P l k).2 (l.getD k .zero).t (l.getD k .zero).len).2) (by unfold twoStep; rw [if_pos h1, if_neg h2]))
          clear h1 h2 h2' HD
          generalize (C.take (twoSt C P l k).1 (l.getD k .zero).t (l.getD k .zero).len).2 = c' at *
          generalize (P.take (twoSt C P l k).2 (l.getD k .zero).t (l.getD k .zero).len).2 = p' at *
          generalize l.getD k .zero = x at *
          obtain ⟨t, len, flow, band, mark⟩ := x
          have HC1 := Lib.hid (HC.out.gr ((Gr.refl wr).alloc (.cells #[.int .i64 t, .int .i64 len, .int .i64 flow, .int .i64 band, .int .i64 mark] 73)))
          have HB1 : Hid (Cells2 (wr.alloc (.cells #[.int .i64 t, .int .i64 len, .int .i64 flow, .int .i64 band, .int .i64 mark] 73)) wr.heap.size (.int .i64 t) (.int .i64 len)) := Lib.hid ⟨by simp, by simp⟩
          have HBN : Hid (pp ≠ wr.heap.size) := Lib.hid (by obtain ⟨_, h⟩ := HC.out.p; exact Nat.ne_of_lt (cell_lt h.c0))
          have tok3 := trivial
          go_wp2_with (first
            | (go_at_call 46; have _ := tok3; obtain ⟨gp1, hgp1⟩ := HC1.out.p; (with_reducible refine (HTP.out _ gp1 hgp1).mono ?_); clear hgp1; rintro e w4 ⟨rfl, hs, ho⟩; have HC2 := Lib.hid (HC1.out.takeP hs ho); have HB2 := Lib.hid (HB1.out.only ho HBN.out); obtain ⟨y0, y1⟩ := HB2.out; clear hs ho tok3; have tok4 := trivial)
            | (go_at_call 46; have _ := tok4; obtain ⟨gc1, hgc1⟩ := HC2.out.c; (with_reducible refine (HTC.out _ gc1 hgc1).mono ?_); clear hgc1; rintro e w5 ⟨rfl, hs, ho⟩; have HC3 := Lib.hid (HC2.out.takeC hs ho); have HC4 := Lib.hid (HC3.out.gr ((Gr.refl w5).alloc (.cells #[.int .i64 2] 3))); clear hs ho tok4)
            | (at_builtin; refine wpList_append_intR rfl _ _ _ (by rfl) (by rfl) u9 _ 2 (by rfl) HC4.out.row ⟨w5.heap.size, 0, none⟩ 1 (by rfl) (by simp) HK.out ?_; intro v' w6 hrow hgr hblk; have HC5 := Lib.hid (HC4.out.append hrow hgr hblk); clear hrow hgr hblk))
          go_roundw
          case rel => exact ⟨k + 1, by omega, by go_num, by rw [← HD2.out.1, ← HD2.out.2]; exact HC5⟩
          case measure => simp [intOf]; omega
      · have h1' : (P.take (twoSt C P l k).2 (l.getD k .zero).t (l.getD k .zero).len).1 = false := by simpa using h1
        rw [h1'] at HTP
        have HD2 := Lib.hid (HD.out 3 ((twoSt C P l k).1, (P.take (twoSt C P l k).2 (l.getD k .zero).t (l.getD k .zero).len).2) (by unfold twoStep; rw [if_neg h1]))
        clear h1 h1' HD HTC
        generalize (P.take (twoSt C P l k).2 (l.getD k .zero).t (l.getD k .zero).len).2 = p' at *
        generalize l.getD k .zero = x at *
        obtain ⟨t, len, flow, band, mark⟩ := x
        have HC1 := Lib.hid (HC.out.gr ((Gr.refl wr).alloc (.cells #[.int .i64 t, .int .i64 len, .int .i64 flow, .int .i64 band, .int .i64 mark] 73)))
        go_wp2_with (first
          | (go_at_call 46; obtain ⟨gp1, hgp1⟩ := HC1.out.p; (with_reducible refine (HTP.out _ gp1 hgp1).mono ?_); clear hgp1; rintro e w4 ⟨rfl, hs, ho⟩; have HC2 := Lib.hid (HC1.out.takeP hs ho); have HC4 := Lib.hid (HC2.out.gr ((Gr.refl w4).alloc (.cells #[.int .i64 3] 3))); clear hs ho)
          | (at_builtin; refine wpList_append_intR rfl _ _ _ (by rfl) (by rfl) u9 _ 3 (by rfl) HC4.out.row ⟨w4.heap.size, 0, none⟩ 1 (by rfl) (by simp) HK.out ?_; intro v' w6 hrow hgr hblk; have HC5 := Lib.hid (HC4.out.append hrow hgr hblk); clear hrow hgr hblk))
        go_roundw
        case rel => exact ⟨k + 1, by omega, by go_num, by rw [← HD2.out.1, ← HD2.out.2]; exact HC5⟩
        case measure => simp [intOf]; omega
    · obtain rfl : k = n := by omega
      go_wp2
      go_ret
      exact ⟨_, rfl, HC.out.row, HC.out.own.gr⟩

theorem bin_dec (b t r : Int) : BIn b t r ∨ ¬ BIn b t r := Classical.em _
set_option maxRecDepth 100000 in
set_option maxHeartbeats 4000000 in
theorem two_badC (b t r b' t' r' : Int) {v : Value} (w : World) (hb : Bd b ∧ Bd t ∧ Bd r) (h0 : ¬ BIn b t r) :
    Calls Tryd.prog 23 #[bktV b t r, bktV b' t' r', v] w fun e w' => e = .returned (.tuple #[.slice none 0 0, .iface 28 (.int .i64 2)]) ∧ Gr w w' := by
  have HG0 := Lib.hid (((Gr.refl w).alloc (.cells #[.int .i64 b, .int .i64 t, .int .i64 r] 25)).alloc (.cells #[.int .i64 b', .int .i64 t', .int .i64 r'] 25))
  have HH := Lib.hid (fun u => bnew_no b t r u hb.1 hb.2.1 hb.2.2 h0)
  clear h0
  unfold bktV at *
  go_enter Tryd.func23, Tryd.ntmps23
  go_wp2_with (go_at_call 47; (with_reducible refine (HH.out _).mono ?_); rintro e w1 ⟨rfl, hg1⟩; have HG1 := Lib.hid (HG0.out.trans hg1); clear hg1)
  go_ret2
  exact ⟨rfl, HG1.out⟩
set_option maxRecDepth 100000 in
set_option maxHeartbeats 4000000 in
theorem two_badP (C : Bkt) (b t r : Int) {v : Value} (w : World) (hb : Bd b ∧ Bd t ∧ Bd r) (h0 : ¬ BIn b t r) :
    Calls Tryd.prog 23 #[bktV (C.b : Int) (C.t : Int) (C.r : Int), bktV b t r, v] w fun e w' => e = .returned (.tuple #[.slice none 0 0, .iface 28 (.int .i64 2)]) ∧ Gr w w' := by
  obtain ⟨w0, hw0⟩ : ∃ w0, w0 = (w.alloc (.cells #[.int .i64 (C.b : Int), .int .i64 (C.t : Int), .int .i64 (C.r : Int)] 25)).alloc (.cells #[.int .i64 b, .int .i64 t, .int .i64 r] 25) := ⟨_, rfl⟩
  have HG0 : Hid (Gr w w0) := Lib.hid (by rw [hw0]; exact ((Gr.refl w).alloc _).alloc _)
  have HCC : Hid (Cells3 w0 w.heap.size (.int .i64 (C.b : Int)) (.int .i64 (C.t : Int)) (.int .i64 (C.r : Int))) := Lib.hid (by rw [hw0]; exact ⟨by simp, by simp, by simp⟩)
  have HCP : Hid (Cells3 w0 (w.heap.size + 1) (.int .i64 b) (.int .i64 t) (.int .i64 r)) := Lib.hid (by rw [hw0]; exact ⟨by simp, by simp, by simp⟩)
  have HNC := Lib.hid (fun u => bnew_ok C u)
  have HH := Lib.hid (fun u => bnew_no b t r u hb.1 hb.2.1 hb.2.2 h0)
  clear h0
  unfold bktV at *
  have tok1 := trivial
  go_enter Tryd.func23, Tryd.ntmps23
  go_wp2_with fail
  rw [← hw0]
  clear hw0
  obtain ⟨x0, x1, x2⟩ := HCC.out
  go_wp2_with (first
    | (go_at_call 47; have _ := tok1; (with_reducible refine (HNC.out _).mono ?_); rintro e w1 ⟨pc, rfl, _, _, hg1⟩; have HG1 := Lib.hid (HG0.out.trans hg1); obtain ⟨y0, y1, y2⟩ := HCP.out.gr hg1; clear hg1 tok1; have tok2 := trivial)
    | (go_at_call 47; have _ := tok2; (with_reducible refine (HH.out _).mono ?_); rintro e w2 ⟨rfl, hg2⟩; have HG2 := Lib.hid (HG1.out.trans hg2); clear hg2 tok2))
  go_ret2
  exact ⟨rfl, HG2.out⟩
set_option maxRecDepth 100000 in
set_option maxHeartbeats 4000000 in
theorem two_badL (C P : Bkt) {v : Value} {l : List Itm} (w : World) (hx : Items w v l) (hg : Glob w) (hl : listCode l ≠ 0) :
    Calls Tryd.prog 23 #[bktV (C.b : Int) (C.t : Int) (C.r : Int), bktV (P.b : Int) (P.t : Int) (P.r : Int), v] w fun e w' => ∃ v', e = .returned (.tuple #[.slice none 0 0, v']) ∧ ErrIs w' v' (listCode l) (listPlace l) ∧ Gr w w' := by
  obtain ⟨a, cap, rfl⟩ := items_shape hx
  have HXX := Lib.hid hx
  have HGL := Lib.hid hg
  have HL := Lib.hid hl
  obtain ⟨w0, hw0⟩ : ∃ w0, w0 = (w.alloc (.cells #[.int .i64 (C.b : Int), .int .i64 (C.t : Int), .int .i64 (C.r : Int)] 25)).alloc (.cells #[.int .i64 (P.b : Int), .int .i64 (P.t : Int), .int .i64 (P.r : Int)] 25) := ⟨_, rfl⟩
  have HG0 : Hid (Gr w w0) := Lib.hid (by rw [hw0]; exact ((Gr.refl w).alloc _).alloc _)
  have HCC : Hid (Cells3 w0 w.heap.size (.int .i64 (C.b : Int)) (.int .i64 (C.t : Int)) (.int .i64 (C.r : Int))) := Lib.hid (by rw [hw0]; exact ⟨by simp, by simp, by simp⟩)
  have HCP : Hid (Cells3 w0 (w.heap.size + 1) (.int .i64 (P.b : Int)) (.int .i64 (P.t : Int)) (.int .i64 (P.r : Int))) := Lib.hid (by rw [hw0]; exact ⟨by simp, by simp, by simp⟩)
  have HNC := Lib.hid (fun u => bnew_ok C u)
  have HNP := Lib.hid (fun u => bnew_ok P u)
  unfold bktV at *
  clear hx hg hl
  have tok1 := trivial
  go_enter Tryd.func23, Tryd.ntmps23
  go_wp2_with fail
  rw [← hw0]
  clear hw0
  obtain ⟨x0, x1, x2⟩ := HCC.out
  go_wp2_with (first
    | (go_at_call 47; have _ := tok1; (with_reducible refine (HNC.out _).mono ?_); rintro e w1 ⟨pc, rfl, _, _, hg1⟩; have HG1 := Lib.hid (HG0.out.trans hg1); obtain ⟨y0, y1, y2⟩ := HCP.out.gr hg1; clear hg1 tok1; have tok2 := trivial)
    | (go_at_call 47; have _ := tok2; (with_reducible refine (HNP.out _).mono ?_); rintro e w2 ⟨pp, rfl, _, _, hg2⟩; have HG2 := Lib.hid (HG1.out.trans hg2); clear hg2 tok2)
    | (go_at_call 40; (with_reducible refine (ilist_bad _ (HXX.out.gr HG2.out) (HGL.out.gr HG2.out) HL.out).mono ?_); rintro e w3 ⟨ty, x, rfl, he, hg3⟩; have HE := Lib.hid he; have HG3 := Lib.hid (HG2.out.trans hg3); clear hg3 he))
  go_ret2
  exact ⟨_, rfl, HE.out, HG3.out⟩
/-- What is wrong, the committed one ahead of the peak, this one ahead of packets. -/
theorem two_bad (b t r b' t' r' : Int) {v : Value} {l : List Itm} (w : World) (hb : Bd b ∧ Bd t ∧ Bd r) (hb' : Bd b' ∧ Bd t' ∧ Bd r') (hx : Items w v l) (hg : Glob w) (hw : ckB b t r ≠ 0 ∨ wrongC b' t' r' l ≠ 0) :
    Calls Tryd.prog 23 #[bktV b t r, bktV b' t' r', v] w fun e w' => ∃ v', e = .returned (.tuple #[.slice none 0 0, v']) ∧ ErrIs w' v' (if ckB b t r = 0 then wrongC b' t' r' l else ckB b t r) (if ckB b t r = 0 then wrongP b' t' r' l else -1) ∧ Gr w w' := by
  rcases bin_dec b t r with h | h
  · rw [if_pos (ckB_ok h), if_pos (ckB_ok h)]
    obtain ⟨C, rfl, rfl, rfl⟩ := bkt_of h
    have hw2 : wrongC b' t' r' l ≠ 0 := hw.resolve_left (fun hh => hh (ckB_ok h))
    rcases bin_dec b' t' r' with h' | h'
    · obtain ⟨P, rfl, rfl, rfl⟩ := bkt_of h'
      unfold wrongC wrongP at *
      rw [if_pos (ckB_ok h')] at hw2 ⊢
      rw [if_pos (ckB_ok h')]
      exact two_badL C P w hx hg hw2
    · unfold wrongC wrongP
      rw [if_neg (by rw [ckB_no h']; decide), if_neg (by rw [ckB_no h']; decide), ckB_no h']
      exact (two_badP C b' t' r' w hb' h').mono fun e w' ⟨h1, h2⟩ => ⟨_, h1, ErrIs.no _ _, h2⟩
  · rw [if_neg (by rw [ckB_no h]; decide), if_neg (by rw [ckB_no h]; decide), ckB_no h]
    exact (two_badC b t r b' t' r' w hb h).mono fun e w' ⟨h1, h2⟩ => ⟨_, h1, ErrIs.no _ _, h2⟩

theorem ints_nil (w : World) : Ints w (.slice none 0 0) [] := .inl ⟨_, _, rfl, rfl⟩
theorem res2_set {w : World} {p : Nat} {a b : Value} (h : Res2 w p a b) (x y : Value) : Cells2 ((w.setCell ⟨p, 0, none⟩ x).setCell ⟨p, 1, none⟩ y) p x y := by
  have e0 : (w.setCell ⟨p, 0, none⟩ x).cell? ⟨p, 0, none⟩ = some x := World.cell?_setCell_same _ _ _ (u := a) h.c0
  have e1 : (w.setCell ⟨p, 0, none⟩ x).cell? ⟨p, 1, none⟩ = some b := by rw [World.cell?_setCell_other _ _ _ _ (by simp)]; exact h.c1
  exact ⟨by rw [World.cell?_setCell_other _ _ _ _ (by simp)]; exact e0, World.cell?_setCell_same _ _ _ (u := b) e1⟩
theorem res2_new (w : World) (c p : Int) : Res2 (w.alloc (.cells #[.int .i64 c, .int .i64 p] 30)) w.heap.size (.int .i64 c) (.int .i64 p) := ⟨by simp, by simp, by simp, by simp⟩
set_option maxRecDepth 100000 in
set_option maxHeartbeats 8000000 in
theorem bucketTwo_walk (w : World) (hg : Glob w) (hf : FineIs w) (b t r : Int) (hb : Bd b ∧ Bd t ∧ Bd r) (b' t' r' : Int) (hb' : Bd b' ∧ Bd t' ∧ Bd r') {v : Value} {l : List Itm} (hx : Items w v l) (hbd : ∀ i, i < l.length → (l.getD i .zero).bd) :
    Calls Tryd.prog 6 #[bktV b t r, bktV b' t' r', v] w fun e w' => e = .returned (.bool true) ∧ Gr w w' := by
  have HGL := Lib.hid hg
  have HBD : Hid (∀ i, i < l.length → -9223372036854775808 ≤ (l.getD i .zero).t) := Lib.hid (fun i hi => (hbd i hi).1.1)
  obtain ⟨w0, hw0⟩ : ∃ w0, w0 = (w.alloc (.cells #[.int .i64 b, .int .i64 t, .int .i64 r] 25)).alloc (.cells #[.int .i64 b', .int .i64 t', .int .i64 r'] 25) := ⟨_, rfl⟩
  have HG0 : Hid (Gr w w0) := Lib.hid (by rw [hw0]; exact ((Gr.refl w).alloc _).alloc _)
  have HCC : Hid (Cells3 w0 w.heap.size (.int .i64 b) (.int .i64 t) (.int .i64 r)) := Lib.hid (by rw [hw0]; exact ⟨by simp, by simp, by simp⟩)
  have HCP : Hid (Cells3 w0 (w.heap.size + 1) (.int .i64 b') (.int .i64 t') (.int .i64 r')) := Lib.hid (by rw [hw0]; exact ⟨by simp, by simp, by simp⟩)
  have HO := Lib.hid (fun b t r u => of_any b t r u)
  have HBC := Lib.hid (fun u => rbcheck_any b t r u)
  have HW := Lib.hid (fun u (k : Gr w u) => wrong_any b' t' r' u (hx.gr k) (hf.gr k))
  obtain ⟨a, cap, rfl⟩ := items_shape hx
  by_cases hm : 40 < l.length ∧ l.length ≤ 100 ∨ 150 < l.length
  · have HM := Lib.hid (fun u => many_yes a l.length cap u hm)
    clear hx hg hf hbd hm
    unfold bktV at *
    go_enter Tryd.func6, Tryd.ntmps6
    go_wp2_with fail
    rw [← hw0]
    clear hw0
    go_wp2_with (go_at_call 8; (with_reducible refine (HM.out _).mono ?_); rintro e w1 ⟨rfl, rfl⟩)
    go_ret
    exact ⟨rfl, HG0.out⟩
  · have HM := Lib.hid (fun u => many_no a l.length cap u (by omega))
    by_cases hw : ckB b t r = 0 ∧ wrongC b' t' r' l = 0
    · obtain ⟨hc0, hw1⟩ := hw
      have hc1 : ckB b' t' r' = 0 := by
        unfold wrongC at hw1
        by_cases h : ckB b' t' r' = 0
        · exact h
        · rw [if_neg h] at hw1
          exact absurd hw1 h
      have hl0 : listCode l = 0 := by unfold wrongC at hw1; rw [if_pos hc1] at hw1; exact hw1
      obtain ⟨C, rfl, rfl, rfl⟩ := bkt_of (ckB_zero hc0)
      obtain ⟨P, rfl, rfl, rfl⟩ := bkt_of (ckB_zero hc1)
      have hn : l.length ≤ 100 := by
        rcases Nat.lt_or_ge 100 l.length with h | h
        · rw [(list_many h).1] at hl0
          cases hl0
        · exact h
      have HP := Lib.hid (fun u (k : Gr w u) => two_ok C P u (hx.gr k) (hg.gr k) hl0 hn HBD)
      have HR := Lib.hid (fun u (k : Gr w u) => rtwo_ok C P u (hx.gr k) hn HBD)
      have HWC : Hid (wrongC (P.b : Int) (P.t : Int) (P.r : Int) l = 0 ∧ wrongP (P.b : Int) (P.t : Int) (P.r : Int) l = -1) := Lib.hid ⟨hw1, by unfold wrongP; rw [if_pos hc1]; exact (list_fine rfl (by omega) (list_zero hl0 hn)).2⟩
      have HC0 := Lib.hid hc0
      clear hx hg hf hbd hm hw1 hc0 hc1 hl0 hn
      unfold bktV at *
      generalize upTo (twoCol C P l) l.length = cs at *
      go_enter Tryd.func6, Tryd.ntmps6
      go_wp2_with fail
      rw [← hw0]
      clear hw0
      obtain ⟨x0, x1, x2⟩ := HCP.out
      go_wp2_with (first
        | (go_at_call 8; (with_reducible refine (HM.out _).mono ?_); rintro e w1 ⟨rfl, rfl⟩)
        | (go_at_call 9; (with_reducible refine (HW.out _ HG0.out).mono ?_); rintro e w2 ⟨rfl, hg2⟩; rw [HWC.out.1, HWC.out.2]; unfold faultV; have HGB := Lib.hid (hg2.alloc (.cells #[.int .i64 0, .int .i64 (-1)] 30)); have HGA := Lib.hid (HG0.out.trans HGB.out); have HF2 : Hid (Cells2 (w2.alloc (.cells #[.int .i64 0, .int .i64 (-1)] 30)) w2.heap.size (.int .i64 0) (.int .i64 (-1))) := Lib.hid ⟨by simp, by simp⟩; obtain ⟨y0, y1, y2⟩ := HCC.out.gr HGB.out; clear hg2)
        | (go_at_call 11; (with_reducible refine (HO.out _ _ _ _).mono ?_); rintro e w3 ⟨rfl, hg3⟩; have HG3 := Lib.hid hg3; clear hg3)
        | (go_at_call 15; (with_reducible refine (HBC.out _).mono ?_); rintro e w4 ⟨rfl, hg4⟩; rw [HC0.out]; have HG4 := Lib.hid (HG3.out.trans hg4); obtain ⟨z0, z1⟩ := HF2.out.gr HG4.out; clear hg4))
      have HCC4 := Lib.hid (HCC.out.gr (HGB.out.trans HG4.out))
      have HCP4 := Lib.hid (HCP.out.gr (HGB.out.trans HG4.out))
      have HF4 := Lib.hid (HF2.out.gr HG4.out)
      have HGA4 := Lib.hid (HGA.out.trans HG4.out)
      clear HGB HG3 HG4 HGA HF2 HCC HCP
      obtain ⟨p0, p1, p2⟩ := HCC4.out
      obtain ⟨q0, q1, q2⟩ := HCP4.out
      clear y0 y1 y2 z0 z1
      have tok3 := trivial
      go_region_held3 (fun w' => (w'.cell? ⟨w.heap.size, 0, none⟩ = some (.int .i64 (C.b : Int)) ∧ w'.cell? ⟨w.heap.size, 1, none⟩ = some (.int .i64 (C.t : Int)) ∧ w'.cell? ⟨w.heap.size, 2, none⟩ = some (.int .i64 (C.r : Int))) ∧ (w'.cell? ⟨w.heap.size + 1, 0, none⟩ = some (.int .i64 (P.b : Int)) ∧ w'.cell? ⟨w.heap.size + 1, 1, none⟩ = some (.int .i64 (P.t : Int)) ∧ w'.cell? ⟨w.heap.size + 1, 2, none⟩ = some (.int .i64 (P.r : Int))))
        (first
          | exact both3 ((((Gr.refl w4).drew.trans hg5).trans hg6).trans hg7) HCC4.out HCP4.out
          | exact both3 (((Gr.refl w4).drew.trans hg5).trans hg6) HCC4.out HCP4.out
          | exact both3 ((Gr.refl w4).drew.trans hg5) HCC4.out HCP4.out
          | go_keep)
        (first
          | (go_at_call 11; have _ := tok4; (with_reducible refine (HO.out _ _ _ _).mono ?_); rintro e w6 ⟨rfl, hg6⟩)
          | (go_at_call 11; (with_reducible refine (HO.out _ _ _ _).mono ?_); rintro e w5 ⟨rfl, hg5⟩; have tok4 := trivial)
          | (go_at_call 22; (with_reducible refine (HR.out _ (HGA4.out.trans (((Gr.refl w4).drew.trans hg5).trans hg6))).mono ?_); rintro e w7 ⟨r1, rfl, hr1, hg7⟩))
      have HG7 := Lib.hid ((((Gr.refl w4).drew.trans hg5).trans hg6).trans hg7)
      have HR1 := Lib.hid hr1
      obtain ⟨m0, m1, m2⟩ := HCC4.out.gr HG7.out
      obtain ⟨n0, n1, n2⟩ := HCP4.out.gr HG7.out
      clear hg5 hg6 hg7 hr1 p0 p1 p2 q0 q1 q2
      go_wp2_with (first
        | (go_at_call 23; (with_reducible refine (HP.out _ (HGA4.out.trans HG7.out)).mono ?_); rintro e w8 ⟨r2, rfl, hr2, hg8⟩; have HR2 := Lib.hid hr2; have HR1 := Lib.hid (IntRow.gr HR1.out hg8); have HG8 := Lib.hid (HG7.out.trans hg8); obtain ⟨z0, z1⟩ := HF4.out.gr HG8.out; clear hr2 hg8)
        | (go_at_call 13; (with_reducible refine (at_yes _ (HGL.out.gr (HGA4.out.trans HG8.out)) (ErrIs.nil _)).mono ?_); rintro e w9 ⟨rfl, hg9⟩; have HG9 := Lib.hid hg9; clear hg9)
        | (go_at_call 19; (with_reducible refine (sameInts_any _ (IntRow.gr HR2.out HG9.out).ints (IntRow.gr HR1.out HG9.out).ints).mono ?_); rintro e w10 ⟨rfl, hg10⟩; have HG10 := Lib.hid (HG9.out.trans hg10); clear hg10))
      go_ret
      exact ⟨rfl, (HGA4.out.trans HG8.out).trans HG10.out⟩
    · have hw' : ckB b t r ≠ 0 ∨ wrongC b' t' r' l ≠ 0 := by
        by_cases h : ckB b t r = 0
        · exact .inr fun h2 => hw ⟨h, h2⟩
        · exact .inl h
      have HP := Lib.hid (fun u (k : Gr w u) => two_bad b t r b' t' r' u hb hb' (hx.gr k) (hg.gr k) hw')
      by_cases hc : ckB b t r = 0
      · have hw2 : wrongC b' t' r' l ≠ 0 := hw'.resolve_left (fun h => h hc)
        have hne : (wrongC b' t' r' l == 0) = false := by simpa using hw2
        simp only [hc, if_true] at HP
        have HC0 := Lib.hid hc
        clear hx hg hf hbd hm hw hw' hw2 hc
        unfold bktV at *
        generalize wrongC b' t' r' l = c at *
        generalize wrongP b' t' r' l = pl at *
        go_enter Tryd.func6, Tryd.ntmps6
        go_wp2_with fail
        rw [← hw0]
        clear hw0
        obtain ⟨x0, x1, x2⟩ := HCP.out
        go_wp2_with (first
          | (go_at_call 8; (with_reducible refine (HM.out _).mono ?_); rintro e w1 ⟨rfl, rfl⟩)
          | (go_at_call 9; (with_reducible refine (HW.out _ HG0.out).mono ?_); rintro e w2 ⟨rfl, hg2⟩; unfold faultV; have HGB := Lib.hid (hg2.alloc (.cells #[.int .i64 c, .int .i64 pl] 30)); have HGA := Lib.hid (HG0.out.trans HGB.out); have HF2 : Hid (Cells2 (w2.alloc (.cells #[.int .i64 c, .int .i64 pl] 30)) w2.heap.size (.int .i64 c) (.int .i64 pl)) := Lib.hid ⟨by simp, by simp⟩; obtain ⟨y0, y1, y2⟩ := HCC.out.gr HGB.out; clear hg2)
          | (go_at_call 11; (with_reducible refine (HO.out _ _ _ _).mono ?_); rintro e w3 ⟨rfl, hg3⟩; have HG3 := Lib.hid hg3; clear hg3)
          | (go_at_call 15; (with_reducible refine (HBC.out _).mono ?_); rintro e w4 ⟨rfl, hg4⟩; rw [HC0.out]; have HG4 := Lib.hid (HG3.out.trans hg4); obtain ⟨z0, z1⟩ := HF2.out.gr HG4.out; obtain ⟨p0, p1, p2⟩ := HCC.out.gr (HGB.out.trans HG4.out); obtain ⟨q0, q1, q2⟩ := HCP.out.gr (HGB.out.trans HG4.out); clear hg4)
          | (go_at_call 23; (with_reducible refine (HP.out _ (HGA.out.trans HG4.out)).mono ?_); rintro e w5 ⟨v', rfl, he, hg5⟩; have HE := Lib.hid he; have HG5 := Lib.hid (HG4.out.trans hg5); obtain ⟨z0, z1⟩ := HF2.out.gr HG5.out; clear he hg5)
          | (go_at_call 13; (with_reducible refine (at_yes _ (HGL.out.gr (HGA.out.trans HG5.out)) HE.out).mono ?_); rintro e w6 ⟨rfl, hg6⟩; have HG6 := Lib.hid hg6; clear hg6)
          | (go_at_call 19; (with_reducible refine (sameInts_any _ (ints_nil _) (ints_nil _)).mono ?_); rintro e w7 ⟨rfl, hg7⟩; have HG7 := Lib.hid (HG6.out.trans hg7); clear hg7))
        go_ret
        exact ⟨rfl, (HGA.out.trans HG5.out).trans HG7.out⟩
      · have hne : (ckB b t r == 0) = false := by simpa using hc
        simp only [hc, if_false] at HP
        clear hx hg hf hbd hm hw hw' hc
        unfold bktV at *
        generalize wrongC b' t' r' l = c at *
        generalize wrongP b' t' r' l = pl at *
        generalize ckB b t r = cc at *
        go_enter Tryd.func6, Tryd.ntmps6
        go_wp2_with fail
        rw [← hw0]
        clear hw0
        obtain ⟨x0, x1, x2⟩ := HCP.out
        go_wp2_with (first
          | (go_at_call 8; (with_reducible refine (HM.out _).mono ?_); rintro e w1 ⟨rfl, rfl⟩)
          | (go_at_call 9; (with_reducible refine (HW.out _ HG0.out).mono ?_); rintro e w2 ⟨rfl, hg2⟩; unfold faultV; have HGB := Lib.hid (hg2.alloc (.cells #[.int .i64 c, .int .i64 pl] 30)); have HGA := Lib.hid (HG0.out.trans HGB.out); have HF2 := Lib.hid (res2_new w2 c pl); have HLE := Lib.hid (Nat.le_trans HG0.out.size hg2.size); have HGB0 := Lib.hid hg2.size; obtain ⟨y0, y1, y2⟩ := HCC.out.gr HGB.out; clear hg2)
          | (go_at_call 11; (with_reducible refine (HO.out _ _ _ _).mono ?_); rintro e w3 ⟨rfl, hg3⟩; have HG3 := Lib.hid hg3; clear hg3)
          | (go_at_call 15; (with_reducible refine (HBC.out _).mono ?_); rintro e w4 ⟨rfl, hg4⟩; have HG4 := Lib.hid (HG3.out.trans hg4); clear hg4)
          | (go_at_call 16; (with_reducible refine (bare_any _ _).mono ?_); rintro e w5 ⟨rfl, hg5⟩; have HG5 := Lib.hid (HG4.out.trans hg5); obtain ⟨z0, z1, z2, z3⟩ := HF2.out.gr HG5.out; clear hg5; have HGS : Hid (Gr w ((w5.setCell ⟨w2.heap.size, 0, none⟩ (.int .i64 cc)).setCell ⟨w2.heap.size, 1, none⟩ (.int .i64 (-1)))) := Lib.hid (((HGA.out.trans HG5.out).setCell HLE.out _).setCell HLE.out _); have HG0S : Hid (Gr w0 ((w5.setCell ⟨w2.heap.size, 0, none⟩ (.int .i64 cc)).setCell ⟨w2.heap.size, 1, none⟩ (.int .i64 (-1)))) := Lib.hid (((HGB.out.trans HG5.out).setCell HGB0.out _).setCell HGB0.out _); obtain ⟨p0, p1, p2⟩ := HCC.out.gr HG0S.out; obtain ⟨q0, q1, q2⟩ := HCP.out.gr HG0S.out; have HF5 := Lib.hid (res2_set ⟨z0, z1, z2, z3⟩ (.int .i64 cc) (.int .i64 (-1))))
          | (go_at_call 23; (with_reducible refine (HP.out _ HGS.out).mono ?_); rintro e w6 ⟨v', rfl, he, hg6⟩; have HE := Lib.hid he; have HG6 := Lib.hid hg6; obtain ⟨n0, n1⟩ := HF5.out.gr hg6; clear he hg6)
          | (go_at_call 13; (with_reducible refine (at_yes _ (HGL.out.gr (HGS.out.trans HG6.out)) HE.out).mono ?_); rintro e w7 ⟨rfl, hg7⟩; have HG7 := Lib.hid hg7; clear hg7)
          | (go_at_call 19; (with_reducible refine (sameInts_any _ (ints_nil _) (ints_nil _)).mono ?_); rintro e w8 ⟨rfl, hg8⟩; have HG8 := Lib.hid (HG7.out.trans hg8); clear hg8))
        go_ret
        exact ⟨rfl, (HGS.out.trans HG6.out).trans HG8.out⟩
end Go.Proofs.YtogmjjaoflaogaaDoor

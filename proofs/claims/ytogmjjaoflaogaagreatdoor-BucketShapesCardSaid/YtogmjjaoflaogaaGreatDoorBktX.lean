/-
  When packets may go at the earliest: bucket.Shape, millraceref.Shape. (Printed by genshape.py.)
-/
import Derived.Test.YtogmjjaoflaogaaGreatDoorBktR
import Derived.Test.YtogmjjaoflaogaaGreatDoorBktQ
import Derived.Test.YtogmjjaoflaogaaGreatDoorBktM
import Derived.Test.YtogmjjaoflaogaaGreatDoorApp
namespace Go.Proofs.YtogmjjaoflaogaaGreatDoor
open Go.RowKit Go.Extern.Stop Go.Stop Go.Extern

theorem noRatInt : NoRat isInt := ⟨(fun a n c ⟨_, h⟩ => by cases h), (fun x ⟨_, h⟩ => by cases h)⟩
/-- An own slice, its block from base on, in a world that has all of w. -/
structure OwnB (w : World) (base : Nat) (wr : World) (out : Value) : Prop where
  age : ∀ g, out.ownBlock = some g → base ≤ g
  gr : Gr w wr
  le : w.heap.size ≤ base
  top : base ≤ wr.heap.size
section
variable {w w1 w2 : World} {base p : Nat} {v v' : Value}
theorem OwnB.append (h : OwnB w base w1 v) (k : w1.grownBy w2 v.ownBlock) (hb : ∀ g, v'.ownBlock = some g → v.ownBlock = some g ∨ w1.heap.size ≤ g) : OwnB w base w2 v' :=
  ⟨fun g hg => by
    rcases hb g hg with h1 | h1
    · exact h.age g h1
    · exact Nat.le_trans h.top h1, h.gr.grown k (fun g hg => Nat.le_trans h.le (h.age g hg)), h.le, Nat.le_trans h.top k.size⟩
theorem OwnB.to (h : OwnB w base w1 v) (k : Gr w1 w2) : OwnB w base w2 v := ⟨h.age, h.gr.trans k, h.le, Nat.le_trans h.top k.size⟩
theorem OwnB.only (h : OwnB w base w1 v) (k : Only p 3 w1 w2) (hp : w.heap.size ≤ p) : OwnB w base w2 v := ⟨h.age, k.gr w h.gr hp, h.le, Nat.le_trans h.top k.size⟩
theorem OwnB.ne (h : OwnB w base w1 v) (hp : p < base) : v.ownBlock ≠ some p := fun e => by have := h.age p e; omega
theorem IntRow.only {xs : List Int} (hr : IntRow w1 v xs) (h : OwnB w base w1 v) (k : Only p 3 w1 w2) (hp : p < base) : IntRow w2 v xs :=
  Row.same hr fun g hg => k.block g (Row.lt hr hg) (fun e => h.ne hp (by rw [hg, e]))
end


/-- What is told of packet k, and the bucket ahead of it, with the last one's time. -/
def shWhen (B : Bkt) (l : List Itm) (k : Nat) (s : BSt × Int) : (Int × Bool) × BSt := B.when s.1 (max s.2 (l.getD k .zero).t) (l.getD k .zero).len
def shSt (B : Bkt) (l : List Itm) : Nat → BSt × Int
  | 0 => (B.full, 0)
  | k + 1 => ((B.take (shWhen B l k (shSt B l k)).2 (shWhen B l k (shSt B l k)).1.1 (l.getD k .zero).len).2, (shWhen B l k (shSt B l k)).1.1)
def shT (B : Bkt) (l : List Itm) (k : Nat) : Int := (shWhen B l k (shSt B l k)).1.1
def shOk (B : Bkt) (l : List Itm) (k : Nat) : Prop := (shWhen B l k (shSt B l k)).1.2 = true ∧ shT B l k ≤ 1000000000
theorem shSt_ok (B : Bkt) (l : List Itm) (k : Nat) : B.Ok (shSt B l k).1 := by
  induction k with
  | zero => exact B.full_ok
  | succ k ih => exact B.take_ok (B.when_ok ih _ _) _ _
theorem when_nonneg (B : Bkt) {s : BSt} (h : B.Ok s) (now n : Int) : 0 ≤ (B.when s now n).1.1 := by
  unfold Bkt.when
  split
  · exact Int.le_refl _
  · have := (B.fill_ok h (now := now) (by omega)).l0
    show 0 ≤ B.at (B.fill s now) n
    unfold Bkt.at
    omega
/-- The program's round. -/
structure ShP (w : World) (base : Nat) (wr : World) (p : Nat) (B : Bkt) (out : Value) (xs : List Int) (s : BSt) : Prop where
  row : IntRow wr out xs
  own : OwnB w base wr out
  st : StAt wr p B s
  ap : w.heap.size ≤ p ∧ p < base
section
variable {w wr u : World} {base p : Nat} {B : Bkt} {out out' : Value} {xs : List Int} {s s' : BSt} {x : Int}
theorem ShP.gr (h : ShP w base wr p B out xs s) (g : Gr wr u) : ShP w base u p B out xs s := ⟨h.row.gr g, h.own.to g, h.st.gr g, h.ap⟩
theorem ShP.to (h : ShP w base wr p B out xs s) (hs : StAt u p B s') (ho : Only p 3 wr u) : ShP w base u p B out xs s' := ⟨h.row.only h.own ho h.ap.2, h.own.only ho h.ap.1, hs, h.ap⟩
theorem ShP.append (h : ShP w base wr p B out xs s) (hr : IntRow u out' (xs ++ [x])) (hg : wr.grownBy u out.ownBlock) (hb : ∀ g, out'.ownBlock = some g → out.ownBlock = some g ∨ wr.heap.size ≤ g) : ShP w base u p B out' (xs ++ [x]) s :=
  ⟨hr, h.own.append hg hb, h.st.block (grown_block hg (cell_lt h.st.c0) (h.own.ne h.ap.2)), h.ap⟩
end
/-- The reference's round. -/
structure ShR (w : World) (base : Nat) (wr : World) (p : Nat) (B : Bkt) (out : Value) (xs : List Int) (s : BSt) : Prop where
  row : IntRow wr out xs
  own : OwnB w base wr out
  st : ∃ g, FAt wr p B s g
  ap : w.heap.size ≤ p ∧ p < base
section
variable {w wr u : World} {base p : Nat} {B : Bkt} {out out' : Value} {xs : List Int} {s s' : BSt} {x : Int}
theorem ShR.gr (h : ShR w base wr p B out xs s) (g : Gr wr u) : ShR w base u p B out xs s := by
  obtain ⟨gp, hp⟩ := h.st
  exact ⟨h.row.gr g, h.own.to g, ⟨gp, hp.gr g⟩, h.ap⟩
theorem ShR.to (h : ShR w base wr p B out xs s) (hs : ∃ g, FAt u p B s' g) (ho : Only p 3 wr u) : ShR w base u p B out xs s' := ⟨h.row.only h.own ho h.ap.2, h.own.only ho h.ap.1, hs, h.ap⟩
theorem ShR.append (h : ShR w base wr p B out xs s) (hr : IntRow u out' (xs ++ [x])) (hg : wr.grownBy u out.ownBlock) (hb : ∀ g, out'.ownBlock = some g → out.ownBlock = some g ∨ wr.heap.size ≤ g) : ShR w base u p B out' (xs ++ [x]) s := by
  obtain ⟨gp, hp⟩ := h.st
  exact ⟨hr, h.own.append hg hb, ⟨gp, hp.block (grown_block hg (cell_lt hp.c0) (h.own.ne h.ap.2)) (hp.rat.row h.row noRatInt hg)⟩, h.ap⟩
end

set_option maxRecDepth 100000 in
set_option maxHeartbeats 16000000 in
theorem shape_ok (B : Bkt) {v : Value} {l : List Itm} (w : World) (hx : Items w v l) (hg : Glob w) (hl : listCode l = 0) (hn : l.length ≤ 100) (hall : ∀ k, k < l.length → shOk B l k) :
    Calls Tryz.prog 20 #[bktV (B.b : Int) (B.t : Int) (B.r : Int), v] w fun e w' => ∃ r, e = .returned (.tuple #[r, .nilIface]) ∧ IntRow w' r (upTo (shT B l) l.length) ∧ Gr w w' := by
  obtain ⟨a, cap, rfl⟩ := items_shape hx
  have HXX := Lib.hid hx
  have HX : Hid (0 < l.length → ∃ b off, a = some ⟨b, off, none⟩ ∧ ∀ i, i < l.length → ItemAt w b (off + i * 5) (l.getD i .zero)) := Lib.hid (fun h0 => by
    obtain ⟨b, off, cap', h1, _, _, h2⟩ := items_cells hx h0
    simp at h1
    exact ⟨b, off, h1.1, h2.out⟩)
  have HALL := Lib.hid hall
  have HIT := Lib.hid (fun k (hk : k < l.length) => itIn (list_zero hl hn) hk)
  have HGL := Lib.hid hg
  have HL := Lib.hid hl
  obtain ⟨w0, hw0⟩ : ∃ w0, w0 = w.alloc (.cells #[.int .i64 (B.b : Int), .int .i64 (B.t : Int), .int .i64 (B.r : Int)] 25) := ⟨_, rfl⟩
  have HG0 : Hid (Gr w w0) := Lib.hid (by rw [hw0]; exact (Gr.refl w).alloc _)
  have HCC : Hid (Cells3 w0 w.heap.size (.int .i64 (B.b : Int)) (.int .i64 (B.t : Int)) (.int .i64 (B.r : Int))) := Lib.hid (by rw [hw0]; exact ⟨by simp, by simp, by simp⟩)
  have b1 : (l.length : Int) ≤ 100 := by omega
  have HNW := Lib.hid (fun u => bnew_ok B u)
  unfold bktV at *
  clear hx hg hl hall
  generalize hnn : l.length = n at *
  have HN := Lib.hid hnn
  clear hnn
  go_enter Tryz.func20, Tryz.ntmps20
  go_wp2_with fail
  rw [← hw0]
  clear hw0
  obtain ⟨x0, x1, x2⟩ := HCC.out
  go_wp2_with (first
    | (go_at_call 7; (with_reducible refine (HNW.out _).mono ?_); rintro e w1 ⟨p, rfl, hp, hs, hg1⟩; have HG1 := Lib.hid (HG0.out.trans hg1); have HS := Lib.hid hs; have HP := Lib.hid (Nat.le_trans HG0.out.size hp); clear hp hs hg1)
    | (go_at_call 37; (with_reducible refine (ilist_ok _ (HXX.out.gr HG1.out) (HGL.out.gr HG1.out) HL.out).mono ?_); rintro e w3 ⟨rfl, hg3⟩; have HG3 := Lib.hid (HG1.out.trans hg3); have HC0 : Hid (ShP w w3.heap.size w3 p B (.slice none 0 0) (upTo (shT B l) 0) (shSt B l 0).1) := Lib.hid ⟨IntRow.nil _, ⟨(fun g hg => by cases hg), HG3.out, HG3.out.size, Nat.le_refl _⟩, HS.out.gr hg3, ⟨HP.out, Nat.lt_of_lt_of_le (cell_lt HS.out.c0) hg3.size⟩⟩; clear hg3))
  obtain ⟨base, hbase⟩ : ∃ base, base = w3.heap.size := ⟨_, rfl⟩
  rw [← hbase] at HC0
  clear hbase x0 x1 x2
  go_loopw [9, 10, 30] (fun out nwv i wr => ∃ k : Nat, k ≤ n ∧ i = .int .i64 k ∧ nwv = .int .i64 (shSt B l k).2 ∧ Hid (ShP w base wr p B out (upTo (shT B l) k) (shSt B l k).1)) (fun _ _ i _ => n - (intOf i).toNat)
  case atStart => exact ⟨0, Nat.zero_le _, rfl, rfl, HC0⟩
  case round =>
    obtain ⟨k, hk, rfl, rfl, HC⟩ := hrel
    by_cases hlt : k < n
    · obtain ⟨b, off, rfl, hA2⟩ := HX.out (by omega)
      have hit := hA2 k (by omega)
      have c0 := HC.out.own.gr.cell hit.c0
      have c1 := HC.out.own.gr.cell hit.c1
      have c2 := HC.out.own.gr.cell hit.c2
      have c3 := HC.out.own.gr.cell hit.c3
      have c4 := HC.out.own.gr.cell hit.c4
      have i0 : (0 : Int) ≤ (k : Int) := by omega
      have i1 : (k : Int) < (n : Int) := by omega
      have ⟨t0, t1, n0, n1, _, _⟩ := HIT.out k (by omega)
      have htm : 0 ≤ shT B l k := when_nonneg B (shSt_ok B l k) _ _
      have HWN0 := Lib.hid (fun u (hu : StAt u p B (shSt B l k).1) => when_any p B (shSt B l k).1 (max (shSt B l k).2 (l.getD k .zero).t) (l.getD k .zero).len u hu (shSt_ok B l k) (by omega))
      have HTK := Lib.hid (fun u (hu : StAt u p B (shWhen B l k (shSt B l k)).2) => take_any p B (shWhen B l k (shSt B l k)).2 (shT B l k) (l.getD k .zero).len u hu (B.when_ok (shSt_ok B l k) _ _) (by omega))
      have HWN : Hid (∀ u, StAt u p B (shSt B l k).1 → Calls Tryz.prog 10 #[.pointer (some ⟨p, 0, none⟩), .int .i64 (max (shSt B l k).2 (l.getD k .zero).t), .int .i64 (l.getD k .zero).len] u fun e w' => e = .returned (.tuple #[.int .i64 (shT B l k), .bool (shWhen B l k (shSt B l k)).1.2]) ∧ StAt w' p B (shWhen B l k (shSt B l k)).2 ∧ Only p 3 u w') := HWN0
      clear HWN0
      have hlen : (upTo (shT B l) k).length = k := upTo_len _ _
      have HK : Hid ((upTo (shT B l) k).length ≤ 1000000) := Lib.hid (by omega)
      have HUP := Lib.hid (upTo_succ (shT B l) k)
      have HSS : Hid (shSt B l (k + 1) = ((B.take (shWhen B l k (shSt B l k)).2 (shT B l k) (l.getD k .zero).len).2, shT B l k)) := Lib.hid rfl
      clear hA2 hit hlen
      have hmx : ((shSt B l k).2 < (l.getD k .zero).t ∧ max (shSt B l k).2 (l.getD k .zero).t = (l.getD k .zero).t) ∨ (¬ (shSt B l k).2 < (l.getD k .zero).t ∧ max (shSt B l k).2 (l.getD k .zero).t = (shSt B l k).2) := by omega
      have HOKK : Hid (shOk B l k ↔ (shWhen B l k (shSt B l k)).1.2 = true ∧ shT B l k ≤ 1000000000) := Lib.hid Iff.rfl
      generalize (B.take (shWhen B l k (shSt B l k)).2 (shT B l k) (l.getD k .zero).len).2 = s2 at *
      generalize (shWhen B l k (shSt B l k)).1.2 = okb at *
      generalize hs1 : (shWhen B l k (shSt B l k)).2 = s1 at *
      generalize shT B l k = tm at *
      generalize shSt B l k = sk at *
      obtain ⟨s0, nw⟩ := sk
      generalize l.getD k .zero = x at *
      obtain ⟨t, len, flow, band, mark⟩ := x
      simp only at *
      have HC1 := Lib.hid (HC.out.gr ((Gr.refl wr).alloc (.cells #[.int .i64 t, .int .i64 len, .int .i64 flow, .int .i64 band, .int .i64 mark] 76)))
      have HB1 : Hid (Cells2 (wr.alloc (.cells #[.int .i64 t, .int .i64 len, .int .i64 flow, .int .i64 band, .int .i64 mark] 76)) wr.heap.size (.int .i64 t) (.int .i64 len)) := Lib.hid ⟨by simp, by simp⟩
      have HBN : Hid (p ≠ wr.heap.size) := Lib.hid (by exact Nat.ne_of_lt (cell_lt HC.out.st.c0))
      clear hs1
      have ⟨hok1, hok2⟩ := HOKK.out.1 (HALL.out k (by omega))
      subst hok1
      clear HOKK
      rcases hmx with ⟨hm1, hm2⟩ | ⟨hm1, hm2⟩
      · rw [hm2] at HWN
        clear hm2
        go_wp2_with (first
          | (go_at_call 10; (with_reducible refine (HWN.out _ HC1.out.st).mono ?_); rintro e w4 ⟨rfl, hs, ho⟩; have HC2 := Lib.hid (HC1.out.to hs ho); have HB2 := Lib.hid (HB1.out.only ho HBN.out); obtain ⟨y0, y1⟩ := HB2.out; clear hs ho)
          | (go_at_call 12; (with_reducible refine (HTK.out _ HC2.out.st).mono ?_); rintro e w5 ⟨rfl, hs, ho⟩; have HC3 := Lib.hid ((HC2.out.to hs ho).gr ((Gr.refl w5).alloc (.cells #[.int .i64 tm] 3))); clear hs ho)
          | (at_builtin; refine wpList_append_intR rfl _ _ _ (by rfl) (by rfl) u9 _ tm (by rfl) HC3.out.row ⟨w5.heap.size, 0, none⟩ 1 (by rfl) (by simp) HK.out ?_; intro v' w6 hrow hgr hblk; have HC5 := Lib.hid (HC3.out.append hrow hgr hblk); clear hrow hgr hblk))
        all_goals (try (exfalso; omega))
        go_roundw
        case rel => exact ⟨k + 1, by omega, by go_num, by rw [HSS.out], by rw [HSS.out, ← HUP.out]; exact HC5⟩
        case measure => simp [intOf]; omega
      · rw [hm2] at HWN
        clear hm2
        go_wp2_with (first
          | (go_at_call 10; (with_reducible refine (HWN.out _ HC1.out.st).mono ?_); rintro e w4 ⟨rfl, hs, ho⟩; have HC2 := Lib.hid (HC1.out.to hs ho); have HB2 := Lib.hid (HB1.out.only ho HBN.out); obtain ⟨y0, y1⟩ := HB2.out; clear hs ho)
          | (go_at_call 12; (with_reducible refine (HTK.out _ HC2.out.st).mono ?_); rintro e w5 ⟨rfl, hs, ho⟩; have HC3 := Lib.hid ((HC2.out.to hs ho).gr ((Gr.refl w5).alloc (.cells #[.int .i64 tm] 3))); clear hs ho)
          | (at_builtin; refine wpList_append_intR rfl _ _ _ (by rfl) (by rfl) u9 _ tm (by rfl) HC3.out.row ⟨w5.heap.size, 0, none⟩ 1 (by rfl) (by simp) HK.out ?_; intro v' w6 hrow hgr hblk; have HC5 := Lib.hid (HC3.out.append hrow hgr hblk); clear hrow hgr hblk))
        all_goals (try (exfalso; omega))
        go_roundw
        case rel => exact ⟨k + 1, by omega, by go_num, by rw [HSS.out], by rw [HSS.out, ← HUP.out]; exact HC5⟩
        case measure => simp [intOf]; omega
    · obtain rfl : k = n := by omega
      go_wp2
      go_ret2
      exact ⟨_, rfl, HC.out.row, HC.out.own.gr⟩

set_option maxRecDepth 100000 in
set_option maxHeartbeats 16000000 in
theorem shape_full (B : Bkt) {v : Value} {l : List Itm} (w : World) (hx : Items w v l) (hg : Glob w) (hl : listCode l = 0) (hn : l.length ≤ 100) (q : Nat) (hq : q < l.length) (hall : ∀ k, k < q → shOk B l k) (hbad : ¬ shOk B l q) :
    Calls Tryz.prog 20 #[bktV (B.b : Int) (B.t : Int) (B.r : Int), v] w fun e w' => e = .returned (.tuple #[.slice none 0 0, .iface 27 (.int .i64 12)]) ∧ Gr w w' := by
  obtain ⟨a, cap, rfl⟩ := items_shape hx
  have HXX := Lib.hid hx
  have HX : Hid (0 < l.length → ∃ b off, a = some ⟨b, off, none⟩ ∧ ∀ i, i < l.length → ItemAt w b (off + i * 5) (l.getD i .zero)) := Lib.hid (fun h0 => by
    obtain ⟨b, off, cap', h1, _, _, h2⟩ := items_cells hx h0
    simp at h1
    exact ⟨b, off, h1.1, h2.out⟩)
  have HALL := Lib.hid hall
  have HIT := Lib.hid (fun k (hk : k < l.length) => itIn (list_zero hl hn) hk)
  have HGL := Lib.hid hg
  have HL := Lib.hid hl
  have HBAD := Lib.hid hbad
  clear hbad
  obtain ⟨w0, hw0⟩ : ∃ w0, w0 = w.alloc (.cells #[.int .i64 (B.b : Int), .int .i64 (B.t : Int), .int .i64 (B.r : Int)] 25) := ⟨_, rfl⟩
  have HG0 : Hid (Gr w w0) := Lib.hid (by rw [hw0]; exact (Gr.refl w).alloc _)
  have HCC : Hid (Cells3 w0 w.heap.size (.int .i64 (B.b : Int)) (.int .i64 (B.t : Int)) (.int .i64 (B.r : Int))) := Lib.hid (by rw [hw0]; exact ⟨by simp, by simp, by simp⟩)
  have b1 : (l.length : Int) ≤ 100 := by omega
  have HNW := Lib.hid (fun u => bnew_ok B u)
  unfold bktV at *
  clear hx hg hl hall
  generalize hnn : l.length = n at *
  have HN := Lib.hid hnn
  clear hnn
  go_enter Tryz.func20, Tryz.ntmps20
  go_wp2_with fail
  rw [← hw0]
  clear hw0
  obtain ⟨x0, x1, x2⟩ := HCC.out
  go_wp2_with (first
    | (go_at_call 7; (with_reducible refine (HNW.out _).mono ?_); rintro e w1 ⟨p, rfl, hp, hs, hg1⟩; have HG1 := Lib.hid (HG0.out.trans hg1); have HS := Lib.hid hs; have HP := Lib.hid (Nat.le_trans HG0.out.size hp); clear hp hs hg1)
    | (go_at_call 37; (with_reducible refine (ilist_ok _ (HXX.out.gr HG1.out) (HGL.out.gr HG1.out) HL.out).mono ?_); rintro e w3 ⟨rfl, hg3⟩; have HG3 := Lib.hid (HG1.out.trans hg3); have HC0 : Hid (ShP w w3.heap.size w3 p B (.slice none 0 0) (upTo (shT B l) 0) (shSt B l 0).1) := Lib.hid ⟨IntRow.nil _, ⟨(fun g hg => by cases hg), HG3.out, HG3.out.size, Nat.le_refl _⟩, HS.out.gr hg3, ⟨HP.out, Nat.lt_of_lt_of_le (cell_lt HS.out.c0) hg3.size⟩⟩; clear hg3))
  obtain ⟨base, hbase⟩ : ∃ base, base = w3.heap.size := ⟨_, rfl⟩
  rw [← hbase] at HC0
  clear hbase x0 x1 x2
  go_loopw [9, 10, 30] (fun out nwv i wr => ∃ k : Nat, k ≤ q ∧ i = .int .i64 k ∧ nwv = .int .i64 (shSt B l k).2 ∧ Hid (ShP w base wr p B out (upTo (shT B l) k) (shSt B l k).1)) (fun _ _ i _ => n - (intOf i).toNat)
  case atStart => exact ⟨0, Nat.zero_le _, rfl, rfl, HC0⟩
  case round =>
    obtain ⟨k, hk, rfl, rfl, HC⟩ := hrel
    by_cases hlt : k < q
    · obtain ⟨b, off, rfl, hA2⟩ := HX.out (by omega)
      have hit := hA2 k (by omega)
      have c0 := HC.out.own.gr.cell hit.c0
      have c1 := HC.out.own.gr.cell hit.c1
      have c2 := HC.out.own.gr.cell hit.c2
      have c3 := HC.out.own.gr.cell hit.c3
      have c4 := HC.out.own.gr.cell hit.c4
      have i0 : (0 : Int) ≤ (k : Int) := by omega
      have i1 : (k : Int) < (n : Int) := by omega
      have ⟨t0, t1, n0, n1, _, _⟩ := HIT.out k (by omega)
      have htm : 0 ≤ shT B l k := when_nonneg B (shSt_ok B l k) _ _
      have HWN0 := Lib.hid (fun u (hu : StAt u p B (shSt B l k).1) => when_any p B (shSt B l k).1 (max (shSt B l k).2 (l.getD k .zero).t) (l.getD k .zero).len u hu (shSt_ok B l k) (by omega))
      have HTK := Lib.hid (fun u (hu : StAt u p B (shWhen B l k (shSt B l k)).2) => take_any p B (shWhen B l k (shSt B l k)).2 (shT B l k) (l.getD k .zero).len u hu (B.when_ok (shSt_ok B l k) _ _) (by omega))
      have HWN : Hid (∀ u, StAt u p B (shSt B l k).1 → Calls Tryz.prog 10 #[.pointer (some ⟨p, 0, none⟩), .int .i64 (max (shSt B l k).2 (l.getD k .zero).t), .int .i64 (l.getD k .zero).len] u fun e w' => e = .returned (.tuple #[.int .i64 (shT B l k), .bool (shWhen B l k (shSt B l k)).1.2]) ∧ StAt w' p B (shWhen B l k (shSt B l k)).2 ∧ Only p 3 u w') := HWN0
      clear HWN0
      have hlen : (upTo (shT B l) k).length = k := upTo_len _ _
      have HK : Hid ((upTo (shT B l) k).length ≤ 1000000) := Lib.hid (by omega)
      have HUP := Lib.hid (upTo_succ (shT B l) k)
      have HSS : Hid (shSt B l (k + 1) = ((B.take (shWhen B l k (shSt B l k)).2 (shT B l k) (l.getD k .zero).len).2, shT B l k)) := Lib.hid rfl
      clear hA2 hit hlen
      have hmx : ((shSt B l k).2 < (l.getD k .zero).t ∧ max (shSt B l k).2 (l.getD k .zero).t = (l.getD k .zero).t) ∨ (¬ (shSt B l k).2 < (l.getD k .zero).t ∧ max (shSt B l k).2 (l.getD k .zero).t = (shSt B l k).2) := by omega
      have HOKK : Hid (shOk B l k ↔ (shWhen B l k (shSt B l k)).1.2 = true ∧ shT B l k ≤ 1000000000) := Lib.hid Iff.rfl
      generalize (B.take (shWhen B l k (shSt B l k)).2 (shT B l k) (l.getD k .zero).len).2 = s2 at *
      generalize (shWhen B l k (shSt B l k)).1.2 = okb at *
      generalize hs1 : (shWhen B l k (shSt B l k)).2 = s1 at *
      generalize shT B l k = tm at *
      generalize shSt B l k = sk at *
      obtain ⟨s0, nw⟩ := sk
      generalize l.getD k .zero = x at *
      obtain ⟨t, len, flow, band, mark⟩ := x
      simp only at *
      have HC1 := Lib.hid (HC.out.gr ((Gr.refl wr).alloc (.cells #[.int .i64 t, .int .i64 len, .int .i64 flow, .int .i64 band, .int .i64 mark] 76)))
      have HB1 : Hid (Cells2 (wr.alloc (.cells #[.int .i64 t, .int .i64 len, .int .i64 flow, .int .i64 band, .int .i64 mark] 76)) wr.heap.size (.int .i64 t) (.int .i64 len)) := Lib.hid ⟨by simp, by simp⟩
      have HBN : Hid (p ≠ wr.heap.size) := Lib.hid (by exact Nat.ne_of_lt (cell_lt HC.out.st.c0))
      clear hs1
      have ⟨hok1, hok2⟩ := HOKK.out.1 (HALL.out k (by omega))
      subst hok1
      clear HOKK
      rcases hmx with ⟨hm1, hm2⟩ | ⟨hm1, hm2⟩
      · rw [hm2] at HWN
        clear hm2
        go_wp2_with (first
          | (go_at_call 10; (with_reducible refine (HWN.out _ HC1.out.st).mono ?_); rintro e w4 ⟨rfl, hs, ho⟩; have HC2 := Lib.hid (HC1.out.to hs ho); have HB2 := Lib.hid (HB1.out.only ho HBN.out); obtain ⟨y0, y1⟩ := HB2.out; clear hs ho)
          | (go_at_call 12; (with_reducible refine (HTK.out _ HC2.out.st).mono ?_); rintro e w5 ⟨rfl, hs, ho⟩; have HC3 := Lib.hid ((HC2.out.to hs ho).gr ((Gr.refl w5).alloc (.cells #[.int .i64 tm] 3))); clear hs ho)
          | (at_builtin; refine wpList_append_intR rfl _ _ _ (by rfl) (by rfl) u9 _ tm (by rfl) HC3.out.row ⟨w5.heap.size, 0, none⟩ 1 (by rfl) (by simp) HK.out ?_; intro v' w6 hrow hgr hblk; have HC5 := Lib.hid (HC3.out.append hrow hgr hblk); clear hrow hgr hblk))
        all_goals (try (exfalso; omega))
        go_roundw
        case rel => exact ⟨k + 1, by omega, by go_num, by rw [HSS.out], by rw [HSS.out, ← HUP.out]; exact HC5⟩
        case measure => simp [intOf]; omega
      · rw [hm2] at HWN
        clear hm2
        go_wp2_with (first
          | (go_at_call 10; (with_reducible refine (HWN.out _ HC1.out.st).mono ?_); rintro e w4 ⟨rfl, hs, ho⟩; have HC2 := Lib.hid (HC1.out.to hs ho); have HB2 := Lib.hid (HB1.out.only ho HBN.out); obtain ⟨y0, y1⟩ := HB2.out; clear hs ho)
          | (go_at_call 12; (with_reducible refine (HTK.out _ HC2.out.st).mono ?_); rintro e w5 ⟨rfl, hs, ho⟩; have HC3 := Lib.hid ((HC2.out.to hs ho).gr ((Gr.refl w5).alloc (.cells #[.int .i64 tm] 3))); clear hs ho)
          | (at_builtin; refine wpList_append_intR rfl _ _ _ (by rfl) (by rfl) u9 _ tm (by rfl) HC3.out.row ⟨w5.heap.size, 0, none⟩ 1 (by rfl) (by simp) HK.out ?_; intro v' w6 hrow hgr hblk; have HC5 := Lib.hid (HC3.out.append hrow hgr hblk); clear hrow hgr hblk))
        all_goals (try (exfalso; omega))
        go_roundw
        case rel => exact ⟨k + 1, by omega, by go_num, by rw [HSS.out], by rw [HSS.out, ← HUP.out]; exact HC5⟩
        case measure => simp [intOf]; omega
    · obtain rfl : k = q := by omega
      obtain ⟨b, off, rfl, hA2⟩ := HX.out (by omega)
      have hit := hA2 k (by omega)
      have c0 := HC.out.own.gr.cell hit.c0
      have c1 := HC.out.own.gr.cell hit.c1
      have c2 := HC.out.own.gr.cell hit.c2
      have c3 := HC.out.own.gr.cell hit.c3
      have c4 := HC.out.own.gr.cell hit.c4
      have i0 : (0 : Int) ≤ (k : Int) := by omega
      have i1 : (k : Int) < (n : Int) := by omega
      have ⟨t0, t1, n0, n1, _, _⟩ := HIT.out k (by omega)
      have htm : 0 ≤ shT B l k := when_nonneg B (shSt_ok B l k) _ _
      have HWN0 := Lib.hid (fun u (hu : StAt u p B (shSt B l k).1) => when_any p B (shSt B l k).1 (max (shSt B l k).2 (l.getD k .zero).t) (l.getD k .zero).len u hu (shSt_ok B l k) (by omega))
      have HTK := Lib.hid (fun u (hu : StAt u p B (shWhen B l k (shSt B l k)).2) => take_any p B (shWhen B l k (shSt B l k)).2 (shT B l k) (l.getD k .zero).len u hu (B.when_ok (shSt_ok B l k) _ _) (by omega))
      have HWN : Hid (∀ u, StAt u p B (shSt B l k).1 → Calls Tryz.prog 10 #[.pointer (some ⟨p, 0, none⟩), .int .i64 (max (shSt B l k).2 (l.getD k .zero).t), .int .i64 (l.getD k .zero).len] u fun e w' => e = .returned (.tuple #[.int .i64 (shT B l k), .bool (shWhen B l k (shSt B l k)).1.2]) ∧ StAt w' p B (shWhen B l k (shSt B l k)).2 ∧ Only p 3 u w') := HWN0
      clear HWN0
      have hlen : (upTo (shT B l) k).length = k := upTo_len _ _
      have HK : Hid ((upTo (shT B l) k).length ≤ 1000000) := Lib.hid (by omega)
      have HUP := Lib.hid (upTo_succ (shT B l) k)
      have HSS : Hid (shSt B l (k + 1) = ((B.take (shWhen B l k (shSt B l k)).2 (shT B l k) (l.getD k .zero).len).2, shT B l k)) := Lib.hid rfl
      clear hA2 hit hlen
      have hmx : ((shSt B l k).2 < (l.getD k .zero).t ∧ max (shSt B l k).2 (l.getD k .zero).t = (l.getD k .zero).t) ∨ (¬ (shSt B l k).2 < (l.getD k .zero).t ∧ max (shSt B l k).2 (l.getD k .zero).t = (shSt B l k).2) := by omega
      have HOKK : Hid (shOk B l k ↔ (shWhen B l k (shSt B l k)).1.2 = true ∧ shT B l k ≤ 1000000000) := Lib.hid Iff.rfl
      generalize (B.take (shWhen B l k (shSt B l k)).2 (shT B l k) (l.getD k .zero).len).2 = s2 at *
      generalize (shWhen B l k (shSt B l k)).1.2 = okb at *
      generalize hs1 : (shWhen B l k (shSt B l k)).2 = s1 at *
      generalize shT B l k = tm at *
      generalize shSt B l k = sk at *
      obtain ⟨s0, nw⟩ := sk
      generalize l.getD k .zero = x at *
      obtain ⟨t, len, flow, band, mark⟩ := x
      simp only at *
      have HC1 := Lib.hid (HC.out.gr ((Gr.refl wr).alloc (.cells #[.int .i64 t, .int .i64 len, .int .i64 flow, .int .i64 band, .int .i64 mark] 76)))
      have HB1 : Hid (Cells2 (wr.alloc (.cells #[.int .i64 t, .int .i64 len, .int .i64 flow, .int .i64 band, .int .i64 mark] 76)) wr.heap.size (.int .i64 t) (.int .i64 len)) := Lib.hid ⟨by simp, by simp⟩
      have HBN : Hid (p ≠ wr.heap.size) := Lib.hid (by exact Nat.ne_of_lt (cell_lt HC.out.st.c0))
      clear hs1
      clear HTK HSS HUP HK
      have hbb : okb = false ∨ okb = true ∧ 1000000000 < tm := by
        have h := fun hh => HBAD.out (HOKK.out.2 hh)
        cases okb with
        | false => exact .inl rfl
        | true => exact .inr ⟨rfl, Int.not_le.1 (fun h2 => h ⟨rfl, h2⟩)⟩
      clear HOKK HBAD
      rcases hmx with ⟨hm1, hm2⟩ | ⟨hm1, hm2⟩
      · rw [hm2] at HWN
        clear hm2
        rcases hbb with rfl | ⟨rfl, hbb⟩
        · go_wp2_with (go_at_call 10; (with_reducible refine (HWN.out _ HC1.out.st).mono ?_); rintro e w4 ⟨rfl, hs, ho⟩; have HC2 := Lib.hid (HC1.out.to hs ho); have HB2 := Lib.hid (HB1.out.only ho HBN.out); obtain ⟨y0, y1⟩ := HB2.out; clear hs ho)
          all_goals (try (exfalso; omega))
          go_ret2
          exact ⟨rfl, HC2.out.own.gr⟩
        · go_wp2_with (go_at_call 10; (with_reducible refine (HWN.out _ HC1.out.st).mono ?_); rintro e w4 ⟨rfl, hs, ho⟩; have HC2 := Lib.hid (HC1.out.to hs ho); have HB2 := Lib.hid (HB1.out.only ho HBN.out); obtain ⟨y0, y1⟩ := HB2.out; clear hs ho)
          all_goals (try (exfalso; omega))
          go_ret2
          exact ⟨rfl, HC2.out.own.gr⟩
      · rw [hm2] at HWN
        clear hm2
        rcases hbb with rfl | ⟨rfl, hbb⟩
        · go_wp2_with (go_at_call 10; (with_reducible refine (HWN.out _ HC1.out.st).mono ?_); rintro e w4 ⟨rfl, hs, ho⟩; have HC2 := Lib.hid (HC1.out.to hs ho); have HB2 := Lib.hid (HB1.out.only ho HBN.out); obtain ⟨y0, y1⟩ := HB2.out; clear hs ho)
          all_goals (try (exfalso; omega))
          go_ret2
          exact ⟨rfl, HC2.out.own.gr⟩
        · go_wp2_with (go_at_call 10; (with_reducible refine (HWN.out _ HC1.out.st).mono ?_); rintro e w4 ⟨rfl, hs, ho⟩; have HC2 := Lib.hid (HC1.out.to hs ho); have HB2 := Lib.hid (HB1.out.only ho HBN.out); obtain ⟨y0, y1⟩ := HB2.out; clear hs ho)
          all_goals (try (exfalso; omega))
          go_ret2
          exact ⟨rfl, HC2.out.own.gr⟩

set_option maxRecDepth 100000 in
set_option maxHeartbeats 16000000 in
theorem rshape_ok (B : Bkt) {v : Value} {l : List Itm} (w : World) (hx : Items w v l) (hl : listCode l = 0) (hn : l.length ≤ 100) (hall : ∀ k, k < l.length → shOk B l k) :
    Calls Tryz.prog 19 #[bktV (B.b : Int) (B.t : Int) (B.r : Int), v] w fun e w' => ∃ r, e = .returned (.tuple #[r, .bool true]) ∧ IntRow w' r (upTo (shT B l) l.length) ∧ Gr w w' := by
  obtain ⟨a, cap, rfl⟩ := items_shape hx
  have HXX := Lib.hid hx
  have HX : Hid (0 < l.length → ∃ b off, a = some ⟨b, off, none⟩ ∧ ∀ i, i < l.length → ItemAt w b (off + i * 5) (l.getD i .zero)) := Lib.hid (fun h0 => by
    obtain ⟨b, off, cap', h1, _, _, h2⟩ := items_cells hx h0
    simp at h1
    exact ⟨b, off, h1.1, h2.out⟩)
  have HALL := Lib.hid hall
  have HIT := Lib.hid (fun k (hk : k < l.length) => itIn (list_zero hl hn) hk)
  obtain ⟨w0, hw0⟩ : ∃ w0, w0 = w.alloc (.cells #[.int .i64 (B.b : Int), .int .i64 (B.t : Int), .int .i64 (B.r : Int)] 29) := ⟨_, rfl⟩
  have HG0 : Hid (Gr w w0) := Lib.hid (by rw [hw0]; exact (Gr.refl w).alloc _)
  have HCC : Hid (Cells3 w0 w.heap.size (.int .i64 (B.b : Int)) (.int .i64 (B.t : Int)) (.int .i64 (B.r : Int))) := Lib.hid (by rw [hw0]; exact ⟨by simp, by simp, by simp⟩)
  have b1 : (l.length : Int) ≤ 100 := by omega
  have HNW := Lib.hid (fun u => newFilled_any B u)
  unfold bktV at *
  clear hx hl hall
  generalize hnn : l.length = n at *
  have HN := Lib.hid hnn
  clear hnn
  go_enter Tryz.func19, Tryz.ntmps19
  go_wp2_with fail
  rw [← hw0]
  clear hw0
  obtain ⟨x0, x1, x2⟩ := HCC.out
  go_wp2_with (go_at_call 13; (with_reducible refine (HNW.out _).mono ?_); rintro e w3 ⟨p, g0, rfl, hp, hs, hg3⟩; have HC0 : Hid (ShR w w3.heap.size w3 p B (.slice none 0 0) (upTo (shT B l) 0) (shSt B l 0).1) := Lib.hid ⟨IntRow.nil _, ⟨(fun g hg => by cases hg), HG0.out.trans hg3, (HG0.out.trans hg3).size, Nat.le_refl _⟩, ⟨g0, hs⟩, ⟨Nat.le_trans HG0.out.size hp, cell_lt hs.c0⟩⟩; clear hp hs hg3)
  obtain ⟨base, hbase⟩ : ∃ base, base = w3.heap.size := ⟨_, rfl⟩
  rw [← hbase] at HC0
  clear hbase x0 x1 x2
  go_loopw [7, 8, 17] (fun out nwv i wr => ∃ k : Nat, k ≤ n ∧ i = .int .i64 k ∧ nwv = .int .i64 (shSt B l k).2 ∧ Hid (ShR w base wr p B out (upTo (shT B l) k) (shSt B l k).1)) (fun _ _ i _ => n - (intOf i).toNat)
  case atStart => exact ⟨0, Nat.zero_le _, rfl, rfl, HC0⟩
  case round =>
    obtain ⟨k, hk, rfl, rfl, HC⟩ := hrel
    by_cases hlt : k < n
    · obtain ⟨b, off, rfl, hA2⟩ := HX.out (by omega)
      have hit := hA2 k (by omega)
      have c0 := HC.out.own.gr.cell hit.c0
      have c1 := HC.out.own.gr.cell hit.c1
      have c2 := HC.out.own.gr.cell hit.c2
      have c3 := HC.out.own.gr.cell hit.c3
      have c4 := HC.out.own.gr.cell hit.c4
      have i0 : (0 : Int) ≤ (k : Int) := by omega
      have i1 : (k : Int) < (n : Int) := by omega
      have ⟨t0, t1, n0, n1, _, _⟩ := HIT.out k (by omega)
      have htm : 0 ≤ shT B l k := when_nonneg B (shSt_ok B l k) _ _
      have HWN0 := Lib.hid (fun u g (hu : FAt u p B (shSt B l k).1 g) => rwhen_any p g B (shSt B l k).1 (max (shSt B l k).2 (l.getD k .zero).t) (l.getD k .zero).len u hu (shSt_ok B l k) (by omega))
      have HTK := Lib.hid (fun u g (hu : FAt u p B (shWhen B l k (shSt B l k)).2 g) => rtake_any p g B (shWhen B l k (shSt B l k)).2 (shT B l k) (l.getD k .zero).len u hu (B.when_ok (shSt_ok B l k) _ _) (by omega))
      have HWN : Hid (∀ u g, FAt u p B (shSt B l k).1 g → Calls Tryz.prog 16 #[.pointer (some ⟨p, 0, none⟩), .int .i64 (max (shSt B l k).2 (l.getD k .zero).t), .int .i64 (l.getD k .zero).len] u fun e w' => e = .returned (.tuple #[.int .i64 (shT B l k), .bool (shWhen B l k (shSt B l k)).1.2]) ∧ (∃ g', FAt w' p B (shWhen B l k (shSt B l k)).2 g') ∧ Only p 3 u w') := HWN0
      clear HWN0
      have hlen : (upTo (shT B l) k).length = k := upTo_len _ _
      have HK : Hid ((upTo (shT B l) k).length ≤ 1000000) := Lib.hid (by omega)
      have HUP := Lib.hid (upTo_succ (shT B l) k)
      have HSS : Hid (shSt B l (k + 1) = ((B.take (shWhen B l k (shSt B l k)).2 (shT B l k) (l.getD k .zero).len).2, shT B l k)) := Lib.hid rfl
      clear hA2 hit hlen
      have hmx : ((shSt B l k).2 < (l.getD k .zero).t ∧ max (shSt B l k).2 (l.getD k .zero).t = (l.getD k .zero).t) ∨ (¬ (shSt B l k).2 < (l.getD k .zero).t ∧ max (shSt B l k).2 (l.getD k .zero).t = (shSt B l k).2) := by omega
      have HOKK : Hid (shOk B l k ↔ (shWhen B l k (shSt B l k)).1.2 = true ∧ shT B l k ≤ 1000000000) := Lib.hid Iff.rfl
      generalize (B.take (shWhen B l k (shSt B l k)).2 (shT B l k) (l.getD k .zero).len).2 = s2 at *
      generalize (shWhen B l k (shSt B l k)).1.2 = okb at *
      generalize hs1 : (shWhen B l k (shSt B l k)).2 = s1 at *
      generalize shT B l k = tm at *
      generalize shSt B l k = sk at *
      obtain ⟨s0, nw⟩ := sk
      generalize l.getD k .zero = x at *
      obtain ⟨t, len, flow, band, mark⟩ := x
      simp only at *
      have HC1 := Lib.hid (HC.out.gr ((Gr.refl wr).alloc (.cells #[.int .i64 t, .int .i64 len, .int .i64 flow, .int .i64 band, .int .i64 mark] 76)))
      have HB1 : Hid (Cells2 (wr.alloc (.cells #[.int .i64 t, .int .i64 len, .int .i64 flow, .int .i64 band, .int .i64 mark] 76)) wr.heap.size (.int .i64 t) (.int .i64 len)) := Lib.hid ⟨by simp, by simp⟩
      have HBN : Hid (p ≠ wr.heap.size) := Lib.hid (by obtain ⟨_, h⟩ := HC.out.st; exact Nat.ne_of_lt (cell_lt h.c0))
      clear hs1
      have ⟨hok1, hok2⟩ := HOKK.out.1 (HALL.out k (by omega))
      subst hok1
      clear HOKK
      rcases hmx with ⟨hm1, hm2⟩ | ⟨hm1, hm2⟩
      · rw [hm2] at HWN
        clear hm2
        go_wp2_with (first
          | (go_at_call 16; obtain ⟨g1, hg1⟩ := HC1.out.st; (with_reducible refine (HWN.out _ g1 hg1).mono ?_); clear hg1; rintro e w4 ⟨rfl, hs, ho⟩; have HC2 := Lib.hid (HC1.out.to hs ho); have HB2 := Lib.hid (HB1.out.only ho HBN.out); obtain ⟨y0, y1⟩ := HB2.out; clear hs ho)
          | (go_at_call 15; obtain ⟨g2, hg2⟩ := HC2.out.st; (with_reducible refine (HTK.out _ g2 hg2).mono ?_); clear hg2; rintro e w5 ⟨rfl, hs, ho⟩; have HC3 := Lib.hid ((HC2.out.to hs ho).gr ((Gr.refl w5).alloc (.cells #[.int .i64 tm] 3))); clear hs ho)
          | (at_builtin; refine wpList_append_intR rfl _ _ _ (by rfl) (by rfl) u7 _ tm (by rfl) HC3.out.row ⟨w5.heap.size, 0, none⟩ 1 (by rfl) (by simp) HK.out ?_; intro v' w6 hrow hgr hblk; have HC5 := Lib.hid (HC3.out.append hrow hgr hblk); clear hrow hgr hblk))
        all_goals (try (exfalso; omega))
        go_roundw
        case rel => exact ⟨k + 1, by omega, by go_num, by rw [HSS.out], by rw [HSS.out, ← HUP.out]; exact HC5⟩
        case measure => simp [intOf]; omega
      · rw [hm2] at HWN
        clear hm2
        go_wp2_with (first
          | (go_at_call 16; obtain ⟨g1, hg1⟩ := HC1.out.st; (with_reducible refine (HWN.out _ g1 hg1).mono ?_); clear hg1; rintro e w4 ⟨rfl, hs, ho⟩; have HC2 := Lib.hid (HC1.out.to hs ho); have HB2 := Lib.hid (HB1.out.only ho HBN.out); obtain ⟨y0, y1⟩ := HB2.out; clear hs ho)
          | (go_at_call 15; obtain ⟨g2, hg2⟩ := HC2.out.st; (with_reducible refine (HTK.out _ g2 hg2).mono ?_); clear hg2; rintro e w5 ⟨rfl, hs, ho⟩; have HC3 := Lib.hid ((HC2.out.to hs ho).gr ((Gr.refl w5).alloc (.cells #[.int .i64 tm] 3))); clear hs ho)
          | (at_builtin; refine wpList_append_intR rfl _ _ _ (by rfl) (by rfl) u7 _ tm (by rfl) HC3.out.row ⟨w5.heap.size, 0, none⟩ 1 (by rfl) (by simp) HK.out ?_; intro v' w6 hrow hgr hblk; have HC5 := Lib.hid (HC3.out.append hrow hgr hblk); clear hrow hgr hblk))
        all_goals (try (exfalso; omega))
        go_roundw
        case rel => exact ⟨k + 1, by omega, by go_num, by rw [HSS.out], by rw [HSS.out, ← HUP.out]; exact HC5⟩
        case measure => simp [intOf]; omega
    · obtain rfl : k = n := by omega
      go_wp2
      go_ret2
      exact ⟨_, rfl, HC.out.row, HC.out.own.gr⟩

set_option maxRecDepth 100000 in
set_option maxHeartbeats 16000000 in
theorem rshape_full (B : Bkt) {v : Value} {l : List Itm} (w : World) (hx : Items w v l) (hl : listCode l = 0) (hn : l.length ≤ 100) (q : Nat) (hq : q < l.length) (hall : ∀ k, k < q → shOk B l k) (hbad : ¬ shOk B l q) :
    Calls Tryz.prog 19 #[bktV (B.b : Int) (B.t : Int) (B.r : Int), v] w fun e w' => e = .returned (.tuple #[.slice none 0 0, .bool false]) ∧ Gr w w' := by
  obtain ⟨a, cap, rfl⟩ := items_shape hx
  have HXX := Lib.hid hx
  have HX : Hid (0 < l.length → ∃ b off, a = some ⟨b, off, none⟩ ∧ ∀ i, i < l.length → ItemAt w b (off + i * 5) (l.getD i .zero)) := Lib.hid (fun h0 => by
    obtain ⟨b, off, cap', h1, _, _, h2⟩ := items_cells hx h0
    simp at h1
    exact ⟨b, off, h1.1, h2.out⟩)
  have HALL := Lib.hid hall
  have HIT := Lib.hid (fun k (hk : k < l.length) => itIn (list_zero hl hn) hk)
  have HBAD := Lib.hid hbad
  clear hbad
  obtain ⟨w0, hw0⟩ : ∃ w0, w0 = w.alloc (.cells #[.int .i64 (B.b : Int), .int .i64 (B.t : Int), .int .i64 (B.r : Int)] 29) := ⟨_, rfl⟩
  have HG0 : Hid (Gr w w0) := Lib.hid (by rw [hw0]; exact (Gr.refl w).alloc _)
  have HCC : Hid (Cells3 w0 w.heap.size (.int .i64 (B.b : Int)) (.int .i64 (B.t : Int)) (.int .i64 (B.r : Int))) := Lib.hid (by rw [hw0]; exact ⟨by simp, by simp, by simp⟩)
  have b1 : (l.length : Int) ≤ 100 := by omega
  have HNW := Lib.hid (fun u => newFilled_any B u)
  unfold bktV at *
  clear hx hl hall
  generalize hnn : l.length = n at *
  have HN := Lib.hid hnn
  clear hnn
  go_enter Tryz.func19, Tryz.ntmps19
  go_wp2_with fail
  rw [← hw0]
  clear hw0
  obtain ⟨x0, x1, x2⟩ := HCC.out
  go_wp2_with (go_at_call 13; (with_reducible refine (HNW.out _).mono ?_); rintro e w3 ⟨p, g0, rfl, hp, hs, hg3⟩; have HC0 : Hid (ShR w w3.heap.size w3 p B (.slice none 0 0) (upTo (shT B l) 0) (shSt B l 0).1) := Lib.hid ⟨IntRow.nil _, ⟨(fun g hg => by cases hg), HG0.out.trans hg3, (HG0.out.trans hg3).size, Nat.le_refl _⟩, ⟨g0, hs⟩, ⟨Nat.le_trans HG0.out.size hp, cell_lt hs.c0⟩⟩; clear hp hs hg3)
  obtain ⟨base, hbase⟩ : ∃ base, base = w3.heap.size := ⟨_, rfl⟩
  rw [← hbase] at HC0
  clear hbase x0 x1 x2
  go_loopw [7, 8, 17] (fun out nwv i wr => ∃ k : Nat, k ≤ q ∧ i = .int .i64 k ∧ nwv = .int .i64 (shSt B l k).2 ∧ Hid (ShR w base wr p B out (upTo (shT B l) k) (shSt B l k).1)) (fun _ _ i _ => n - (intOf i).toNat)
  case atStart => exact ⟨0, Nat.zero_le _, rfl, rfl, HC0⟩
  case round =>
    obtain ⟨k, hk, rfl, rfl, HC⟩ := hrel
    by_cases hlt : k < q
    · obtain ⟨b, off, rfl, hA2⟩ := HX.out (by omega)
      have hit := hA2 k (by omega)
      have c0 := HC.out.own.gr.cell hit.c0
      have c1 := HC.out.own.gr.cell hit.c1
      have c2 := HC.out.own.gr.cell hit.c2
      have c3 := HC.out.own.gr.cell hit.c3
      have c4 := HC.out.own.gr.cell hit.c4
      have i0 : (0 : Int) ≤ (k : Int) := by omega
      have i1 : (k : Int) < (n : Int) := by omega
      have ⟨t0, t1, n0, n1, _, _⟩ := HIT.out k (by omega)
      have htm : 0 ≤ shT B l k := when_nonneg B (shSt_ok B l k) _ _
      have HWN0 := Lib.hid (fun u g (hu : FAt u p B (shSt B l k).1 g) => rwhen_any p g B (shSt B l k).1 (max (shSt B l k).2 (l.getD k .zero).t) (l.getD k .zero).len u hu (shSt_ok B l k) (by omega))
      have HTK := Lib.hid (fun u g (hu : FAt u p B (shWhen B l k (shSt B l k)).2 g) => rtake_any p g B (shWhen B l k (shSt B l k)).2 (shT B l k) (l.getD k .zero).len u hu (B.when_ok (shSt_ok B l k) _ _) (by omega))
      have HWN : Hid (∀ u g, FAt u p B (shSt B l k).1 g → Calls Tryz.prog 16 #[.pointer (some ⟨p, 0, none⟩), .int .i64 (max (shSt B l k).2 (l.getD k .zero).t), .int .i64 (l.getD k .zero).len] u fun e w' => e = .returned (.tuple #[.int .i64 (shT B l k), .bool (shWhen B l k (shSt B l k)).1.2]) ∧ (∃ g', FAt w' p B (shWhen B l k (shSt B l k)).2 g') ∧ Only p 3 u w') := HWN0
      clear HWN0
      have hlen : (upTo (shT B l) k).length = k := upTo_len _ _
      have HK : Hid ((upTo (shT B l) k).length ≤ 1000000) := Lib.hid (by omega)
      have HUP := Lib.hid (upTo_succ (shT B l) k)
      have HSS : Hid (shSt B l (k + 1) = ((B.take (shWhen B l k (shSt B l k)).2 (shT B l k) (l.getD k .zero).len).2, shT B l k)) := Lib.hid rfl
      clear hA2 hit hlen
      have hmx : ((shSt B l k).2 < (l.getD k .zero).t ∧ max (shSt B l k).2 (l.getD k .zero).t = (l.getD k .zero).t) ∨ (¬ (shSt B l k).2 < (l.getD k .zero).t ∧ max (shSt B l k).2 (l.getD k .zero).t = (shSt B l k).2) := by omega
      have HOKK : Hid (shOk B l k ↔ (shWhen B l k (shSt B l k)).1.2 = true ∧ shT B l k ≤ 1000000000) := Lib.hid Iff.rfl
      generalize (B.take (shWhen B l k (shSt B l k)).2 (shT B l k) (l.getD k .zero).len).2 = s2 at *
      generalize (shWhen B l k (shSt B l k)).1.2 = okb at *
      generalize hs1 : (shWhen B l k (shSt B l k)).2 = s1 at *
      generalize shT B l k = tm at *
      generalize shSt B l k = sk at *
      obtain ⟨s0, nw⟩ := sk
      generalize l.getD k .zero = x at *
      obtain ⟨t, len, flow, band, mark⟩ := x
      simp only at *
      have HC1 := Lib.hid (HC.out.gr ((Gr.refl wr).alloc (.cells #[.int .i64 t, .int .i64 len, .int .i64 flow, .int .i64 band, .int .i64 mark] 76)))
      have HB1 : Hid (Cells2 (wr.alloc (.cells #[.int .i64 t, .int .i64 len, .int .i64 flow, .int .i64 band, .int .i64 mark] 76)) wr.heap.size (.int .i64 t) (.int .i64 len)) := Lib.hid ⟨by simp, by simp⟩
      have HBN : Hid (p ≠ wr.heap.size) := Lib.hid (by obtain ⟨_, h⟩ := HC.out.st; exact Nat.ne_of_lt (cell_lt h.c0))
      clear hs1
      have ⟨hok1, hok2⟩ := HOKK.out.1 (HALL.out k (by omega))
      subst hok1
      clear HOKK
      rcases hmx with ⟨hm1, hm2⟩ | ⟨hm1, hm2⟩
      · rw [hm2] at HWN
        clear hm2
        go_wp2_with (first
          | (go_at_call 16; obtain ⟨g1, hg1⟩ := HC1.out.st; (with_reducible refine (HWN.out _ g1 hg1).mono ?_); clear hg1; rintro e w4 ⟨rfl, hs, ho⟩; have HC2 := Lib.hid (HC1.out.to hs ho); have HB2 := Lib.hid (HB1.out.only ho HBN.out); obtain ⟨y0, y1⟩ := HB2.out; clear hs ho)
          | (go_at_call 15; obtain ⟨g2, hg2⟩ := HC2.out.st; (with_reducible refine (HTK.out _ g2 hg2).mono ?_); clear hg2; rintro e w5 ⟨rfl, hs, ho⟩; have HC3 := Lib.hid ((HC2.out.to hs ho).gr ((Gr.refl w5).alloc (.cells #[.int .i64 tm] 3))); clear hs ho)
          | (at_builtin; refine wpList_append_intR rfl _ _ _ (by rfl) (by rfl) u7 _ tm (by rfl) HC3.out.row ⟨w5.heap.size, 0, none⟩ 1 (by rfl) (by simp) HK.out ?_; intro v' w6 hrow hgr hblk; have HC5 := Lib.hid (HC3.out.append hrow hgr hblk); clear hrow hgr hblk))
        all_goals (try (exfalso; omega))
        go_roundw
        case rel => exact ⟨k + 1, by omega, by go_num, by rw [HSS.out], by rw [HSS.out, ← HUP.out]; exact HC5⟩
        case measure => simp [intOf]; omega
      · rw [hm2] at HWN
        clear hm2
        go_wp2_with (first
          | (go_at_call 16; obtain ⟨g1, hg1⟩ := HC1.out.st; (with_reducible refine (HWN.out _ g1 hg1).mono ?_); clear hg1; rintro e w4 ⟨rfl, hs, ho⟩; have HC2 := Lib.hid (HC1.out.to hs ho); have HB2 := Lib.hid (HB1.out.only ho HBN.out); obtain ⟨y0, y1⟩ := HB2.out; clear hs ho)
          | (go_at_call 15; obtain ⟨g2, hg2⟩ := HC2.out.st; (with_reducible refine (HTK.out _ g2 hg2).mono ?_); clear hg2; rintro e w5 ⟨rfl, hs, ho⟩; have HC3 := Lib.hid ((HC2.out.to hs ho).gr ((Gr.refl w5).alloc (.cells #[.int .i64 tm] 3))); clear hs ho)
          | (at_builtin; refine wpList_append_intR rfl _ _ _ (by rfl) (by rfl) u7 _ tm (by rfl) HC3.out.row ⟨w5.heap.size, 0, none⟩ 1 (by rfl) (by simp) HK.out ?_; intro v' w6 hrow hgr hblk; have HC5 := Lib.hid (HC3.out.append hrow hgr hblk); clear hrow hgr hblk))
        all_goals (try (exfalso; omega))
        go_roundw
        case rel => exact ⟨k + 1, by omega, by go_num, by rw [HSS.out], by rw [HSS.out, ← HUP.out]; exact HC5⟩
        case measure => simp [intOf]; omega
    · obtain rfl : k = q := by omega
      obtain ⟨b, off, rfl, hA2⟩ := HX.out (by omega)
      have hit := hA2 k (by omega)
      have c0 := HC.out.own.gr.cell hit.c0
      have c1 := HC.out.own.gr.cell hit.c1
      have c2 := HC.out.own.gr.cell hit.c2
      have c3 := HC.out.own.gr.cell hit.c3
      have c4 := HC.out.own.gr.cell hit.c4
      have i0 : (0 : Int) ≤ (k : Int) := by omega
      have i1 : (k : Int) < (n : Int) := by omega
      have ⟨t0, t1, n0, n1, _, _⟩ := HIT.out k (by omega)
      have htm : 0 ≤ shT B l k := when_nonneg B (shSt_ok B l k) _ _
      have HWN0 := Lib.hid (fun u g (hu : FAt u p B (shSt B l k).1 g) => rwhen_any p g B (shSt B l k).1 (max (shSt B l k).2 (l.getD k .zero).t) (l.getD k .zero).len u hu (shSt_ok B l k) (by omega))
      have HTK := Lib.hid (fun u g (hu : FAt u p B (shWhen B l k (shSt B l k)).2 g) => rtake_any p g B (shWhen B l k (shSt B l k)).2 (shT B l k) (l.getD k .zero).len u hu (B.when_ok (shSt_ok B l k) _ _) (by omega))
      have HWN : Hid (∀ u g, FAt u p B (shSt B l k).1 g → Calls Tryz.prog 16 #[.pointer (some ⟨p, 0, none⟩), .int .i64 (max (shSt B l k).2 (l.getD k .zero).t), .int .i64 (l.getD k .zero).len] u fun e w' => e = .returned (.tuple #[.int .i64 (shT B l k), .bool (shWhen B l k (shSt B l k)).1.2]) ∧ (∃ g', FAt w' p B (shWhen B l k (shSt B l k)).2 g') ∧ Only p 3 u w') := HWN0
      clear HWN0
      have hlen : (upTo (shT B l) k).length = k := upTo_len _ _
      have HK : Hid ((upTo (shT B l) k).length ≤ 1000000) := Lib.hid (by omega)
      have HUP := Lib.hid (upTo_succ (shT B l) k)
      have HSS : Hid (shSt B l (k + 1) = ((B.take (shWhen B l k (shSt B l k)).2 (shT B l k) (l.getD k .zero).len).2, shT B l k)) := Lib.hid rfl
      clear hA2 hit hlen
      have hmx : ((shSt B l k).2 < (l.getD k .zero).t ∧ max (shSt B l k).2 (l.getD k .zero).t = (l.getD k .zero).t) ∨ (¬ (shSt B l k).2 < (l.getD k .zero).t ∧ max (shSt B l k).2 (l.getD k .zero).t = (shSt B l k).2) := by omega
      have HOKK : Hid (shOk B l k ↔ (shWhen B l k (shSt B l k)).1.2 = true ∧ shT B l k ≤ 1000000000) := Lib.hid Iff.rfl
      generalize (B.take (shWhen B l k (shSt B l k)).2 (shT B l k) (l.getD k .zero).len).2 = s2 at *
      generalize (shWhen B l k (shSt B l k)).1.2 = okb at *
      generalize hs1 : (shWhen B l k (shSt B l k)).2 = s1 at *
      generalize shT B l k = tm at *
      generalize shSt B l k = sk at *
      obtain ⟨s0, nw⟩ := sk
      generalize l.getD k .zero = x at *
      obtain ⟨t, len, flow, band, mark⟩ := x
      simp only at *
      have HC1 := Lib.hid (HC.out.gr ((Gr.refl wr).alloc (.cells #[.int .i64 t, .int .i64 len, .int .i64 flow, .int .i64 band, .int .i64 mark] 76)))
      have HB1 : Hid (Cells2 (wr.alloc (.cells #[.int .i64 t, .int .i64 len, .int .i64 flow, .int .i64 band, .int .i64 mark] 76)) wr.heap.size (.int .i64 t) (.int .i64 len)) := Lib.hid ⟨by simp, by simp⟩
      have HBN : Hid (p ≠ wr.heap.size) := Lib.hid (by obtain ⟨_, h⟩ := HC.out.st; exact Nat.ne_of_lt (cell_lt h.c0))
      clear hs1
      clear HTK HSS HUP HK
      have hbb : okb = false ∨ okb = true ∧ 1000000000 < tm := by
        have h := fun hh => HBAD.out (HOKK.out.2 hh)
        cases okb with
        | false => exact .inl rfl
        | true => exact .inr ⟨rfl, Int.not_le.1 (fun h2 => h ⟨rfl, h2⟩)⟩
      clear HOKK HBAD
      rcases hmx with ⟨hm1, hm2⟩ | ⟨hm1, hm2⟩
      · rw [hm2] at HWN
        clear hm2
        rcases hbb with rfl | ⟨rfl, hbb⟩
        · go_wp2_with (go_at_call 16; obtain ⟨g1, hg1⟩ := HC1.out.st; (with_reducible refine (HWN.out _ g1 hg1).mono ?_); clear hg1; rintro e w4 ⟨rfl, hs, ho⟩; have HC2 := Lib.hid (HC1.out.to hs ho); have HB2 := Lib.hid (HB1.out.only ho HBN.out); obtain ⟨y0, y1⟩ := HB2.out; clear hs ho)
          all_goals (try (exfalso; omega))
          go_ret2
          exact ⟨rfl, HC2.out.own.gr⟩
        · go_wp2_with (go_at_call 16; obtain ⟨g1, hg1⟩ := HC1.out.st; (with_reducible refine (HWN.out _ g1 hg1).mono ?_); clear hg1; rintro e w4 ⟨rfl, hs, ho⟩; have HC2 := Lib.hid (HC1.out.to hs ho); have HB2 := Lib.hid (HB1.out.only ho HBN.out); obtain ⟨y0, y1⟩ := HB2.out; clear hs ho)
          all_goals (try (exfalso; omega))
          go_ret2
          exact ⟨rfl, HC2.out.own.gr⟩
      · rw [hm2] at HWN
        clear hm2
        rcases hbb with rfl | ⟨rfl, hbb⟩
        · go_wp2_with (go_at_call 16; obtain ⟨g1, hg1⟩ := HC1.out.st; (with_reducible refine (HWN.out _ g1 hg1).mono ?_); clear hg1; rintro e w4 ⟨rfl, hs, ho⟩; have HC2 := Lib.hid (HC1.out.to hs ho); have HB2 := Lib.hid (HB1.out.only ho HBN.out); obtain ⟨y0, y1⟩ := HB2.out; clear hs ho)
          all_goals (try (exfalso; omega))
          go_ret2
          exact ⟨rfl, HC2.out.own.gr⟩
        · go_wp2_with (go_at_call 16; obtain ⟨g1, hg1⟩ := HC1.out.st; (with_reducible refine (HWN.out _ g1 hg1).mono ?_); clear hg1; rintro e w4 ⟨rfl, hs, ho⟩; have HC2 := Lib.hid (HC1.out.to hs ho); have HB2 := Lib.hid (HB1.out.only ho HBN.out); obtain ⟨y0, y1⟩ := HB2.out; clear hs ho)
          all_goals (try (exfalso; omega))
          go_ret2
          exact ⟨rfl, HC2.out.own.gr⟩
end Go.Proofs.YtogmjjaoflaogaaGreatDoor

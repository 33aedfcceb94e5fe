/-
  Which packets conform: bucket.Conform, millraceref.Conform.
-/
import Derived.Test.YtogmjjaoflaogaaDoorBktN
import Derived.Test.YtogmjjaoflaogaaDoorRowB
namespace Go.Proofs.YtogmjjaoflaogaaDoor
open Go.RowKit Go.Extern.Stop Go.Stop Go.Extern

/-- The bucket ahead of packet k, as all are asked for. -/
def Bkt.st (B : Bkt) (l : List Itm) : Nat → BSt
  | 0 => B.full
  | k + 1 => (B.take (B.st l k) (l.getD k .zero).t (l.getD k .zero).len).2
def Bkt.dec (B : Bkt) (l : List Itm) (k : Nat) : Bool := (B.take (B.st l k) (l.getD k .zero).t (l.getD k .zero).len).1
theorem Bkt.st_ok (B : Bkt) (l : List Itm) (k : Nat) : B.Ok (B.st l k) := by
  induction k with
  | zero => exact B.full_ok
  | succ k ih => exact B.take_ok ih _ _
def upToB (f : Nat → Bool) (k : Nat) : List Bool := (List.range k).map f
theorem upToB_len (f : Nat → Bool) (k : Nat) : (upToB f k).length = k := by simp [upToB]
theorem upToB_succ (f : Nat → Bool) (k : Nat) : upToB f k ++ [f k] = upToB f (k + 1) := by simp [upToB, List.range_succ]

section
variable {E : TypeId} {size : Nat} {K : Value → Prop} {w w' : World} {v : Value} {n : Nat} {xs : List Value}
theorem grown_block {row : Option Nat} (k : w.grownBy w' row) {q : Nat} (hq : q < w.heap.size) (hne : row ≠ some q) : w'.heap[q]? = w.heap[q]? := k.block q hq (Ne.symm hne)
theorem Row.keeps (h : Row E size K w v n xs) (k : w.grownBy w' v.ownBlock) {q i : Nat} {u : Value} (hc : w.cell? ⟨q, i, none⟩ = some u) (hu : ¬ K u) : w'.cell? ⟨q, i, none⟩ = some u :=
  (World.cell?_of_block (a := ⟨q, i, none⟩) (grown_block k (cell_lt hc) (h.ne hc hu))).trans hc
/-- What a Rat's cells aren't. -/
def NoRat (K : Value → Prop) : Prop := (∀ a n c, ¬ K (.slice a n c)) ∧ ∀ x, ¬ K (.int .u32 x)
theorem RatV.row {g T : Nat} {x : Int} (h : RatV w g x T) (hr : Row E size K w v n xs) (hK : NoRat K) (k : w.grownBy w' v.ownBlock) : RatV w' g x T := by
  have hn : ∀ {v' N}, Num w v' N → Num w' v' N := fun {v' N} ⟨n, f, ⟨a, cap, h1, h2, h3, h4⟩, h5, h6⟩ => ⟨n, f, ⟨a, cap, h1, h2, fun h0 => by
    obtain ⟨g, h7, h8⟩ := h3 h0
    exact ⟨g, h7, fun i hi => hr.keeps k (h8 i hi) (hK.2 _)⟩, h4⟩, h5, h6⟩
  have hi : ∀ {q o x}, IntAt w q o x → IntAt w' q o x := fun {q o x} hx => by
    obtain ⟨c0, a, n, c, c1, hN⟩ := hx.open
    have hb := grown_block k (cell_lt c1) (hr.ne c1 (hK.1 _ _ _))
    exact ⟨(World.cell?_of_block (a := ⟨q, o, none⟩) hb).trans c0, _, (World.cell?_of_block (a := ⟨q, o + 1, none⟩) hb).trans c1, hn hN⟩
  obtain ⟨h0, a, d, ⟨h1, h2, h3, h4⟩, h5⟩ := h
  exact ⟨h0, a, d, ⟨hi h1, hi h2, h3, h4⟩, h5⟩
theorem StAt.block {p : Nat} {B : Bkt} {s : BSt} (h : StAt w p B s) (hb : w'.heap[p]? = w.heap[p]?) : StAt w' p B s := by
  have hc : ∀ i, w'.cell? ⟨p, i, none⟩ = w.cell? ⟨p, i, none⟩ := fun i => World.cell?_of_block (a := ⟨p, i, none⟩) hb
  have hf : ∀ i, w'.frozen? ⟨p, i, none⟩ = w.frozen? ⟨p, i, none⟩ := fun i => World.frozen?_of_block (a := ⟨p, i, none⟩) hb
  exact ⟨(hc 0).trans h.c0, (hc 1).trans h.c1, (hc 2).trans h.c2, (hc 3).trans h.c3, (hc 4).trans h.c4, (hf 3).trans h.f3, (hf 4).trans h.f4⟩
theorem FAt.block {p g : Nat} {B : Bkt} {s : BSt} (h : FAt w p B s g) (hb : w'.heap[p]? = w.heap[p]?) (hr : RatV w' g s.x B.t) : FAt w' p B s g := by
  have hc : ∀ i, w'.cell? ⟨p, i, none⟩ = w.cell? ⟨p, i, none⟩ := fun i => World.cell?_of_block (a := ⟨p, i, none⟩) hb
  have hf : ∀ i, w'.frozen? ⟨p, i, none⟩ = w.frozen? ⟨p, i, none⟩ := fun i => World.frozen?_of_block (a := ⟨p, i, none⟩) hb
  exact ⟨(hc 0).trans h.c0, (hc 1).trans h.c1, (hc 2).trans h.c2, (hc 3).trans h.c3, (hc 4).trans h.c4, (hf 3).trans h.f3, (hf 4).trans h.f4, hr⟩
end

/-- An own slice, no older than w, in a world that has all of w. -/
structure Own (w wr : World) (out : Value) : Prop where
  age : ∀ g, out.ownBlock = some g → w.heap.size ≤ g
  gr : Gr w wr
theorem Own.append {w w1 w2 : World} {v v' : Value} (h : Own w w1 v) (k : w1.grownBy w2 v.ownBlock) (hb : ∀ g, v'.ownBlock = some g → v.ownBlock = some g ∨ w1.heap.size ≤ g) : Own w w2 v' :=
  ⟨fun g hg => by
    rcases hb g hg with h1 | h1
    · exact h.age g h1
    · exact Nat.le_trans h.gr.size h1, h.gr.grown k h.age⟩
theorem Own.to {w w1 w2 : World} {v : Value} (h : Own w w1 v) (k : Gr w1 w2) : Own w w2 v := ⟨h.age, h.gr.trans k⟩
theorem Own.only {w w1 w2 : World} {v : Value} {p : Nat} (h : Own w w1 v) (k : Only p 3 w1 w2) (hp : w.heap.size ≤ p) : Own w w2 v := ⟨h.age, k.gr w h.gr hp⟩
/-- The program's round. -/
structure ConfP (w wr : World) (p : Nat) (B : Bkt) (l : List Itm) (out : Value) (k : Nat) : Prop where
  row : BoolRow wr out (upToB (B.dec l) k)
  own : Own w wr out
  st : StAt wr p B (B.st l k)
  age : w.heap.size ≤ p
theorem notBool {n : Int} : ¬ isBool (.int .i64 n) := fun ⟨_, h⟩ => by cases h
theorem ConfP.gr {w wr u : World} {p : Nat} {B : Bkt} {l : List Itm} {out : Value} {k : Nat} (h : ConfP w wr p B l out k) (g : Gr wr u) : ConfP w u p B l out k :=
  ⟨h.row.gr g, h.own.to g, h.st.gr g, h.age⟩
/-- .. behind Take, ahead of append -/
structure ConfQ (w wr : World) (p : Nat) (B : Bkt) (l : List Itm) (out : Value) (k : Nat) : Prop where
  row : BoolRow wr out (upToB (B.dec l) k)
  own : Own w wr out
  st : StAt wr p B (B.st l (k + 1))
  age : w.heap.size ≤ p
theorem ConfP.take {w wr u : World} {p : Nat} {B : Bkt} {l : List Itm} {out : Value} {k : Nat} (h : ConfP w wr p B l out k) (hs : StAt u p B (B.st l (k + 1))) (ho : Only p 3 wr u) : ConfQ w u p B l out k :=
  ⟨Row.same h.row fun g hg => ho.block g (Row.lt h.row hg) (fun e => Row.ne h.row h.st.c0 notBool (by rw [hg, e])), h.own.only ho h.age, hs, h.age⟩
theorem ConfQ.gr {w wr u : World} {p : Nat} {B : Bkt} {l : List Itm} {out : Value} {k : Nat} (h : ConfQ w wr p B l out k) (g : Gr wr u) : ConfQ w u p B l out k :=
  ⟨h.row.gr g, h.own.to g, h.st.gr g, h.age⟩
theorem ConfQ.append {w wr u : World} {p : Nat} {B : Bkt} {l : List Itm} {out out' : Value} {k : Nat} (h : ConfQ w wr p B l out k) (hr : BoolRow u out' (upToB (B.dec l) k ++ [B.dec l k])) (hg : wr.grownBy u out.ownBlock) (hb : ∀ g, out'.ownBlock = some g → out.ownBlock = some g ∨ wr.heap.size ≤ g) : ConfP w u p B l out' (k + 1) :=
  ⟨by rw [← upToB_succ]; exact hr, h.own.append hg hb, h.st.block (grown_block hg (cell_lt h.st.c0) (Row.ne h.row h.st.c0 notBool)), h.age⟩

set_option maxRecDepth 100000 in
set_option maxHeartbeats 4000000 in
theorem conform_ok (B : Bkt) {v : Value} {l : List Itm} (w : World) (hx : Items w v l) (hg : Glob w) (hl : listCode l = 0) (hn : l.length ≤ 100) (hbd : Hid (∀ i, i < l.length → -9223372036854775808 ≤ (l.getD i .zero).t)) :
    Calls Tryd.prog 21 #[bktV (B.b : Int) (B.t : Int) (B.r : Int), v] w fun e w' => ∃ r, e = .returned (.tuple #[r, .nilIface]) ∧ BoolRow w' r (upToB (B.dec l) l.length) ∧ Gr w w' := by
  obtain ⟨a, cap, rfl⟩ := items_shape hx
  have HXX := Lib.hid hx
  have HX : Hid (0 < l.length → ∃ b off, a = some ⟨b, off, none⟩ ∧ ∀ i, i < l.length → ItemAt w b (off + i * 5) (l.getD i .zero)) := Lib.hid (fun h0 => by
    obtain ⟨b, off, cap', h1, _, _, h2⟩ := items_cells hx h0
    simp at h1
    exact ⟨b, off, h1.1, h2.out⟩)
  have HGL := Lib.hid hg
  have HL := Lib.hid hl
  have HG0 := Lib.hid ((Gr.refl w).alloc (.cells #[.int .i64 (B.b : Int), .int .i64 (B.t : Int), .int .i64 (B.r : Int)] 25))
  have b1 : (l.length : Int) ≤ 100 := by omega
  have HNW := Lib.hid (fun u => bnew_ok B u)
  unfold bktV at *
  clear hx hg hl
  generalize hnn : l.length = n at *
  have HN := Lib.hid hnn
  clear hnn
  go_enter Tryd.func21, Tryd.ntmps21
  go_wp2_with (first
    | (go_at_call 47; (with_reducible refine (HNW.out _).mono ?_); rintro e w1 ⟨p, rfl, hp, hs, hg1⟩; have HG1 := Lib.hid (HG0.out.trans hg1); have HS := Lib.hid hs; have HP := Lib.hid (Nat.le_trans HG0.out.size hp); clear hp hs hg1)
    | (go_at_call 40; (with_reducible refine (ilist_ok _ (HXX.out.gr HG1.out) (HGL.out.gr HG1.out) HL.out).mono ?_); rintro e w2 ⟨rfl, hg2⟩; have HC0 : Hid (ConfP w w2 p B l (.slice none 0 0) 0) := Lib.hid ⟨BoolRow.nil _, ⟨(fun g hg => by cases hg), HG1.out.trans hg2⟩, HS.out.gr hg2, HP.out⟩; clear hg2))
  go_loopw [9, 27] (fun out i wr => ∃ k : Nat, k ≤ n ∧ i = .int .i64 k ∧ Hid (ConfP w wr p B l out k)) (fun _ i _ => n - (intOf i).toNat)
  case atStart => exact ⟨0, Nat.zero_le _, rfl, HC0⟩
  case round =>
    obtain ⟨k, hk, rfl, HC⟩ := hrel
    by_cases hlt : k < n
    · obtain ⟨b, off, rfl, hA2⟩ := HX.out (by omega)
      have hit := hA2 k hlt
      have c0 := HC.out.own.gr.cell hit.c0
      have c1 := HC.out.own.gr.cell hit.c1
      have c2 := HC.out.own.gr.cell hit.c2
      have c3 := HC.out.own.gr.cell hit.c3
      have c4 := HC.out.own.gr.cell hit.c4
      have i0 : (0 : Int) ≤ (k : Int) := by omega
      have i1 : (k : Int) < (n : Int) := by omega
      have HTK := Lib.hid (fun u (hu : StAt u p B (B.st l k)) => take_any p B (B.st l k) (l.getD k .zero).t (l.getD k .zero).len u hu (B.st_ok l k) (hbd.out k hlt))
      have HD : Hid (B.take (B.st l k) (l.getD k .zero).t (l.getD k .zero).len = (B.dec l k, B.st l (k + 1))) := Lib.hid rfl
      clear hA2 hit
      rw [HD.out] at HTK
      generalize l.getD k .zero = x at *
      obtain ⟨t, len, flow, band, mark⟩ := x
      have HC1 := Lib.hid (HC.out.gr ((Gr.refl wr).alloc (.cells #[.int .i64 t, .int .i64 len, .int .i64 flow, .int .i64 band, .int .i64 mark] 73)))
      go_wp2_with (first
        | (go_at_call 48; (with_reducible refine (HTK.out _ HC1.out.st).mono ?_); rintro e w3 ⟨rfl, hs, ho⟩; have HQ := Lib.hid ((HC1.out.take hs ho).gr ((Gr.refl w3).alloc (.cells #[.bool (B.dec l k)] 4))); clear hs ho)
        | (at_builtin; go_loud (refine wpList_append_boolR rfl _ _ _ (by rfl) (by rfl) u9 _ (B.dec l k) (by rfl) HQ.out.row ⟨w3.heap.size, 0, none⟩ 1 (by rfl) (by simp) (by rw [upToB_len]; omega) ?_); intro v' w4 hrow hgr hblk; have HC4 := Lib.hid (HQ.out.append hrow hgr hblk); clear hrow hgr hblk))
      go_roundw
      case rel => exact ⟨k + 1, by omega, by go_num, HC4⟩
      case measure => simp [intOf]; omega
    · obtain rfl : k = n := by omega
      go_wp2
      go_ret2
      exact ⟨_, rfl, HC.out.row, HC.out.own.gr⟩
end Go.Proofs.YtogmjjaoflaogaaDoor

/-
  Which packets conform: millraceref.Conform, millracelaw.wrong, the law. Words for the bucket laws.
-/
import Derived.Test.YtogmjjaoflaogaaDoorBktC
namespace Go.Proofs.YtogmjjaoflaogaaDoor
open Go.RowKit Go.Extern.Stop Go.Stop Go.Extern
open Go.RowKit

theorem noRatBool : NoRat isBool := ⟨(fun a n c ⟨_, h⟩ => by cases h), (fun x ⟨_, h⟩ => by cases h)⟩
/-- The reference's round. -/
structure ConfR (w wr : World) (p : Nat) (B : Bkt) (l : List Itm) (out : Value) (k j : Nat) : Prop where
  row : BoolRow wr out (upToB (B.dec l) k)
  own : Own w wr out
  st : ∃ g, FAt wr p B (B.st l j) g
  age : w.heap.size ≤ p
theorem ConfR.gr {w wr u : World} {p : Nat} {B : Bkt} {l : List Itm} {out : Value} {k j : Nat} (h : ConfR w wr p B l out k j) (g : Gr wr u) : ConfR w u p B l out k j := by
  obtain ⟨g', hs⟩ := h.st
  exact ⟨h.row.gr g, h.own.to g, ⟨g', hs.gr g⟩, h.age⟩
theorem ConfR.take {w wr u : World} {p : Nat} {B : Bkt} {l : List Itm} {out : Value} {k j j' : Nat} (h : ConfR w wr p B l out k j) (hs : ∃ g, FAt u p B (B.st l j') g) (ho : Only p 3 wr u) : ConfR w u p B l out k j' := by
  obtain ⟨g', hh⟩ := h.st
  exact ⟨Row.same h.row fun g hg => ho.block g (Row.lt h.row hg) (fun e => Row.ne h.row hh.c0 notBool (by rw [hg, e])), h.own.only ho h.age, hs, h.age⟩
theorem ConfR.append {w wr u : World} {p : Nat} {B : Bkt} {l : List Itm} {out out' : Value} {k j : Nat} (h : ConfR w wr p B l out k j) (hr : BoolRow u out' (upToB (B.dec l) k ++ [B.dec l k])) (hg : wr.grownBy u out.ownBlock) (hb : ∀ g, out'.ownBlock = some g → out.ownBlock = some g ∨ wr.heap.size ≤ g) : ConfR w u p B l out' (k + 1) j := by
  obtain ⟨g', hh⟩ := h.st
  exact ⟨by rw [← upToB_succ]; exact hr, h.own.append hg hb, ⟨g', hh.block (grown_block hg (cell_lt hh.c0) (Row.ne h.row hh.c0 notBool)) (hh.rat.row h.row noRatBool hg)⟩, h.age⟩

set_option maxRecDepth 100000 in
set_option maxHeartbeats 4000000 in
theorem rconform_ok (B : Bkt) {v : Value} {l : List Itm} (w : World) (hx : Items w v l) (hn : l.length ≤ 100) (hbd : Hid (∀ i, i < l.length → -9223372036854775808 ≤ (l.getD i .zero).t)) :
    Calls Tryd.prog 20 #[bktV (B.b : Int) (B.t : Int) (B.r : Int), v] w fun e w' => ∃ r, e = .returned r ∧ BoolRow w' r (upToB (B.dec l) l.length) ∧ Gr w w' := by
  obtain ⟨a, cap, rfl⟩ := items_shape hx
  have HX : Hid (0 < l.length → ∃ b off, a = some ⟨b, off, none⟩ ∧ ∀ i, i < l.length → ItemAt w b (off + i * 5) (l.getD i .zero)) := Lib.hid (fun h0 => by
    obtain ⟨b, off, cap', h1, _, _, h2⟩ := items_cells hx h0
    simp at h1
    exact ⟨b, off, h1.1, h2.out⟩)
  have HG0 := Lib.hid ((Gr.refl w).alloc (.cells #[.int .i64 (B.b : Int), .int .i64 (B.t : Int), .int .i64 (B.r : Int)] 34))
  have b1 : (l.length : Int) ≤ 100 := by omega
  have HNW := Lib.hid (fun u => newFilled_any B u)
  unfold bktV at *
  clear hx
  generalize hnn : l.length = n at *
  have HN := Lib.hid hnn
  clear hnn
  go_enter Tryd.func20, Tryd.ntmps20
  go_wp2_with (go_at_call 26; (with_reducible refine (HNW.out _).mono ?_); rintro e w1 ⟨p, g0, rfl, hp, hs, hg1⟩; have HC0 : Hid (ConfR w w1 p B l (.slice none 0 0) 0 0) := Lib.hid ⟨BoolRow.nil _, ⟨(fun g hg => by cases hg), HG0.out.trans hg1⟩, ⟨g0, hs⟩, Nat.le_trans HG0.out.size hp⟩; clear hp hs hg1)
  go_loopw [6, 13] (fun out i wr => ∃ k : Nat, k ≤ n ∧ i = .int .i64 k ∧ Hid (ConfR w wr p B l out k k)) (fun _ i _ => n - (intOf i).toNat)
  case atStart => exact ⟨0, Nat.zero_le _, rfl, HC0⟩
  case round =>
    obtain ⟨k, hk, rfl, HC⟩ := hrel
    by_cases hlt : k < n
    · obtain ⟨b, off, rfl, hA2⟩ := HX.out (by omega)
      have hit := hA2 k hlt
      have c0 := HC.out.own.gr.cell hit.c0
      have c1 := HC.out.own.gr.cell hit.c1
      have c2 := HC.out.own.gr.cell hit.c2
      have c3 := HC.out.own.gr.cell hit.c3
      have c4 := HC.out.own.gr.cell hit.c4
      have i0 : (0 : Int) ≤ (k : Int) := by omega
      have i1 : (k : Int) < (n : Int) := by omega
      have HTK := Lib.hid (fun u g (hu : FAt u p B (B.st l k) g) => rtake_any p g B (B.st l k) (l.getD k .zero).t (l.getD k .zero).len u hu (B.st_ok l k) (hbd.out k hlt))
      have HD : Hid (B.take (B.st l k) (l.getD k .zero).t (l.getD k .zero).len = (B.dec l k, B.st l (k + 1))) := Lib.hid rfl
      clear hA2 hit
      rw [HD.out] at HTK
      generalize l.getD k .zero = x at *
      obtain ⟨t, len, flow, band, mark⟩ := x
      have HC1 := Lib.hid (HC.out.gr ((Gr.refl wr).alloc (.cells #[.int .i64 t, .int .i64 len, .int .i64 flow, .int .i64 band, .int .i64 mark] 73)))
      obtain ⟨g1, hg1⟩ := HC1.out.st
      have HF1 := Lib.hid hg1
      clear hg1
      go_wp2_with (first
        | (go_at_call 46; (with_reducible refine (HTK.out _ g1 HF1.out).mono ?_); rintro e w3 ⟨rfl, hs, ho⟩; have HQ := Lib.hid ((HC1.out.take hs ho).gr ((Gr.refl w3).alloc (.cells #[.bool (B.dec l k)] 4))); clear hs ho)
        | (at_builtin; refine wpList_append_boolR rfl _ _ _ (by rfl) (by rfl) u6 _ (B.dec l k) (by rfl) HQ.out.row ⟨w3.heap.size, 0, none⟩ 1 (by rfl) (by simp) (by rw [upToB_len]; omega) ?_; intro v' w4 hrow hgr hblk; have HC4 := Lib.hid (HQ.out.append hrow hgr hblk); clear hrow hgr hblk))
      go_roundw
      case rel => exact ⟨k + 1, by omega, by go_num, HC4⟩
      case measure => simp [intOf]; omega
    · obtain rfl : k = n := by omega
      go_wp2
      go_ret
      exact ⟨_, rfl, HC.out.row, HC.out.own.gr⟩

/-- The first thing that is wrong, a bucket ahead of packets. -/
noncomputable def wrongC (b t r : Int) (l : List Itm) : Int := if ckB b t r = 0 then listCode l else ckB b t r
noncomputable def wrongP (b t r : Int) (l : List Itm) : Int := if ckB b t r = 0 then listPlace l else -1
set_option maxHeartbeats 1000000 in
theorem of_any (b t r : Int) (w : World) : Calls Tryd.prog 11 #[bktV b t r] w fun e w' => e = .returned (bktV b t r) ∧ Gr w w' := by
  unfold bktV
  go_enter Tryd.func11, Tryd.ntmps11
  go_wp2
  exact bodyPost_ret (v := .agg #[.int .i64 b, .int .i64 t, .int .i64 r]) (by simp [results, Tryd.results11, go_sem]) rfl ⟨rfl, ((Gr.refl w).alloc _).alloc _⟩
theorem many_yes (a : Option Addr) (n cap : Nat) (w : World) (h : 40 < n ∧ n ≤ 100 ∨ 150 < n) : Calls Tryd.prog 8 #[.slice a n cap] w fun e w' => e = .returned (.bool true) ∧ w = w' := by
  by_cases h1 : 40 < n ∧ n ≤ 100
  · have h2 : (40 : Int) < (n : Int) := by omega
    have h3 : (n : Int) ≤ 100 := by omega
    clear h h1
    go_enter Tryd.func8, Tryd.ntmps8
    go_wp2
    go_ret
    exact ⟨rfl, rfl⟩
  · have h2 : (40 : Int) < (n : Int) := by omega
    have h3 : (100 : Int) < (n : Int) := by omega
    have h4 : (150 : Int) < (n : Int) := by omega
    clear h h1
    go_enter Tryd.func8, Tryd.ntmps8
    go_wp2
    go_ret
    exact ⟨rfl, rfl⟩
theorem many_no (a : Option Addr) (n cap : Nat) (w : World) (h : n ≤ 40 ∨ 100 < n ∧ n ≤ 150) : Calls Tryd.prog 8 #[.slice a n cap] w fun e w' => e = .returned (.bool false) ∧ w = w' := by
  by_cases h1 : n ≤ 40
  · have h2 : (n : Int) ≤ 40 := by omega
    clear h h1
    go_enter Tryd.func8, Tryd.ntmps8
    go_wp2
    all_goals (try (exfalso; omega))
    go_ret
    exact ⟨by simp; omega, rfl⟩
  · have h2 : (40 : Int) < (n : Int) := by omega
    have h3 : (100 : Int) < (n : Int) := by omega
    have h4 : (n : Int) ≤ 150 := by omega
    clear h h1
    go_enter Tryd.func8, Tryd.ntmps8
    go_wp2
    all_goals (try (exfalso; omega))
    go_ret
    exact ⟨by simp; omega, rfl⟩
set_option maxRecDepth 100000 in
set_option maxHeartbeats 4000000 in
theorem wrong_any (b t r : Int) {v : Value} {l : List Itm} (w : World) (hx : Items w v l) (hf : FineIs w) : Calls Tryd.prog 9 #[bktV b t r, v] w fun e w' => e = .returned (faultV (wrongC b t r l) (wrongP b t r l)) ∧ Gr w w' := by
  have HX := Lib.hid hx
  have HF := Lib.hid hf
  have HG0 := Lib.hid (((Gr.refl w).alloc (.cells #[.int .i64 b, .int .i64 t, .int .i64 r] 25)).alloc (.cells #[.int .i64 0, .int .i64 0] 30))
  have HR := Lib.hid (fault_res (w.alloc (.cells #[.int .i64 b, .int .i64 t, .int .i64 r] 25)))
  have HO := Lib.hid (fun u => of_any b t r u)
  have HC := Lib.hid (fun u => rbcheck_any b t r u)
  clear hx hf
  rw [World.size_alloc] at HR
  by_cases h0 : ckB b t r = 0
  · have HE : Hid (wrongC b t r l = listCode l ∧ wrongP b t r l = listPlace l) := Lib.hid (by unfold wrongC wrongP; rw [if_pos h0, if_pos h0]; exact ⟨rfl, rfl⟩)
    have H0 := Lib.hid h0
    clear h0
    unfold bktV at *
    rw [HE.out.1, HE.out.2]
    go_enter Tryd.func9, Tryd.ntmps9
    go_wp2_with (first
      | (go_at_call 11; (with_reducible refine (HO.out _).mono ?_); rintro e w1 ⟨rfl, hg⟩; have HG1 := Lib.hid hg; clear hg)
      | (go_at_call 15; (with_reducible refine (HC.out _).mono ?_); rintro e w2 ⟨rfl, hg⟩; rw [H0.out]; have HG2 := Lib.hid (HG1.out.trans hg); clear hg)
      | (go_at_call 31; (with_reducible refine (rlist_any _ (HX.out.gr (HG0.out.trans HG2.out)) (HF.out.gr (HG0.out.trans HG2.out))).mono ?_); rintro e w3 ⟨rfl, hg⟩; unfold faultV; obtain ⟨s0, s1, s2, s3⟩ := HR.out.gr (HG2.out.trans hg); have HG3 := Lib.hid (HG2.out.trans hg); clear hg))
    refine bodyPost_ret (v := .agg #[.int .i64 (listCode l), .int .i64 (listPlace l)]) (by simp [results, Tryd.results9, go_sem, s0, s1]) rfl ⟨rfl, ?_⟩
    exact ((HG0.out.trans HG3.out).setCell (by simp) _).setCell (by simp) _
  · have HE : Hid (wrongC b t r l = ckB b t r ∧ wrongP b t r l = -1) := Lib.hid (by unfold wrongC wrongP; rw [if_neg h0, if_neg h0]; exact ⟨rfl, rfl⟩)
    rw [HE.out.1, HE.out.2]
    have hc : (ckB b t r == 0) = false := by simpa using h0
    clear h0
    generalize ckB b t r = c at *
    unfold bktV at *
    go_enter Tryd.func9, Tryd.ntmps9
    go_wp2_with (first
      | (go_at_call 11; (with_reducible refine (HO.out _).mono ?_); rintro e w1 ⟨rfl, hg⟩; have HG1 := Lib.hid hg; clear hg)
      | (go_at_call 15; (with_reducible refine (HC.out _).mono ?_); rintro e w2 ⟨rfl, hg⟩; have HG2 := Lib.hid (HG1.out.trans hg); clear hg)
      | (go_at_call 16; (with_reducible refine (bare_any _ _).mono ?_); rintro e w3 ⟨rfl, hg⟩; obtain ⟨s0, s1, s2, s3⟩ := HR.out.gr (HG2.out.trans hg); have HG3 := Lib.hid (HG2.out.trans hg); clear hg))
    refine bodyPost_ret (v := .agg #[.int .i64 c, .int .i64 (-1)]) (by simp [results, Tryd.results9, go_sem, s0, s1]) rfl ⟨rfl, ?_⟩
    exact ((HG0.out.trans HG3.out).setCell (by simp) _).setCell (by simp) _

theorem bools_nil (w : World) : Bools w (.slice none 0 0) [] := .inl ⟨_, _, rfl, rfl⟩
structure Cells3 (w : World) (p : Nat) (x y z : Value) : Prop where
  c0 : w.cell? ⟨p, 0, none⟩ = some x
  c1 : w.cell? ⟨p, 1, none⟩ = some y
  c2 : w.cell? ⟨p, 2, none⟩ = some z
theorem Cells3.gr {w w' : World} {p : Nat} {x y z : Value} (h : Cells3 w p x y z) (k : Gr w w') : Cells3 w' p x y z := ⟨k.cell h.c0, k.cell h.c1, k.cell h.c2⟩
structure Cells2 (w : World) (p : Nat) (x y : Value) : Prop where
  c0 : w.cell? ⟨p, 0, none⟩ = some x
  c1 : w.cell? ⟨p, 1, none⟩ = some y
theorem Cells2.gr {w w' : World} {p : Nat} {x y : Value} (h : Cells2 w p x y) (k : Gr w w') : Cells2 w' p x y := ⟨k.cell h.c0, k.cell h.c1⟩
theorem Cells2.only {w w' : World} {p q : Nat} {x y : Value} (h : Cells2 w p x y) (k : Only q 3 w w') (hne : q ≠ p) : Cells2 w' p x y :=
  ⟨(k.cell p 0 (cell_lt h.c0) (.inl (Ne.symm hne))).trans h.c0, (k.cell p 1 (cell_lt h.c1) (.inl (Ne.symm hne))).trans h.c1⟩
theorem firstOf_all {f : Nat → Int} {n : Nat} (h : firstOf f n = 0) : ∀ j, j < n → f j = 0 := by
  induction n with
  | zero => intro j hj; omega
  | succ n ih =>
    rw [firstOf] at h
    by_cases h1 : firstOf f n = 0
    · rw [if_pos h1] at h
      exact okTo_succ (ih h1) h
    · rw [if_neg h1] at h
      exact absurd h h1
theorem list_zero {l : List Itm} (h : listCode l = 0) (hn : l.length ≤ 100) : ∀ j, j < l.length → listAt l j = 0 := by
  unfold listCode at h
  rw [if_neg (by omega)] at h
  exact firstOf_all h
end Go.Proofs.YtogmjjaoflaogaaDoor

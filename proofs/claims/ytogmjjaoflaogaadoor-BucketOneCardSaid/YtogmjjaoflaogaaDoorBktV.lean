/-
  Colors by one rate and two rooms: bucket.One.
-/
import Derived.Test.YtogmjjaoflaogaaDoorBktQ
import Derived.Test.YtogmjjaoflaogaaDoorBktD
import Derived.Test.YtogmjjaoflaogaaDoorApp
namespace Go.Proofs.YtogmjjaoflaogaaDoor
open Go.RowKit Go.Extern.Stop Go.Stop Go.Extern

theorem noRatI : NoRat isInt := ⟨(fun a n c ⟨_, h⟩ => by cases h), (fun x ⟨_, h⟩ => by cases h)⟩
/-- A row of the call's own, in a world that has all of w. -/
structure RowAt (w wr : World) (out : Value) (xs : List Int) : Prop where
  row : IntRow wr out xs
  own : Own w wr out
theorem RowAt.gr {w wr u : World} {out : Value} {xs : List Int} (h : RowAt w wr out xs) (g : Gr wr u) : RowAt w u out xs := ⟨h.row.gr g, h.own.to g⟩
theorem RowAt.append {w wr u : World} {out out' : Value} {xs ys : List Int} (h : RowAt w wr out xs) (hr : IntRow u out' ys) (hg : wr.grownBy u out.ownBlock) (hb : ∀ g, out'.ownBlock = some g → out.ownBlock = some g ∨ wr.heap.size ≤ g) : RowAt w u out' ys := ⟨hr, h.own.append hg hb⟩

set_option maxRecDepth 100000 in
set_option maxHeartbeats 8000000 in
theorem one_ok (B : Bkt) (E : Int) (hE : 0 ≤ E ∧ E ≤ 1000000) {v : Value} {l : List Itm} (w : World) (hx : Items w v l) (hg : Glob w) (hl : listCode l = 0) (hn : l.length ≤ 100) :
    Calls Tryd.prog 18 #[bktV (B.b : Int) (B.t : Int) (B.r : Int), .int .i64 E, v] w fun e w' => ∃ r, e = .returned (.tuple #[r, .nilIface]) ∧ IntRow w' r (upTo (oneCol B E l) l.length) ∧ Gr w w' := by
  have hb := B.hb
  have ht := B.ht
  have hr := B.hr
  obtain ⟨a, cap, rfl⟩ := items_shape hx
  have HXX := Lib.hid hx
  have HX : Hid (0 < l.length → ∃ b off, a = some ⟨b, off, none⟩ ∧ ∀ i, i < l.length → ItemAt w b (off + i * 5) (l.getD i .zero)) := Lib.hid (fun h0 => by
    obtain ⟨b, off, cap', h1, _, _, h2⟩ := items_cells hx h0
    simp at h1
    exact ⟨b, off, h1.1, h2.out⟩)
  have HGL := Lib.hid hg
  have HL := Lib.hid hl
  have HIT := Lib.hid (fun k (hk : k < l.length) => itIn (list_zero hl hn) hk)
  have HOI := Lib.hid (fun k (hk : k ≤ l.length) => oneSt_in B hE (list_zero hl hn) k hk)
  have HQ := Lib.hid (fun k (hk : k < l.length) => one_q B (itIn (list_zero hl hn) hk))
  have HM := Lib.hid (fun k (hk : k < l.length) => one_m B (itIn (list_zero hl hn) hk))
  obtain ⟨w0, hw0⟩ : ∃ w0, w0 = w.alloc (.cells #[.int .i64 (B.b : Int), .int .i64 (B.t : Int), .int .i64 (B.r : Int)] 25) := ⟨_, rfl⟩
  have HG0 : Hid (Gr w w0) := Lib.hid (by rw [hw0]; exact (Gr.refl w).alloc _)
  have HCC : Hid (w0.cell? ⟨w.heap.size, 0, none⟩ = some (.int .i64 (B.b : Int)) ∧ w0.cell? ⟨w.heap.size, 1, none⟩ = some (.int .i64 (B.t : Int)) ∧ w0.cell? ⟨w.heap.size, 2, none⟩ = some (.int .i64 (B.r : Int))) := Lib.hid (by rw [hw0]; exact ⟨by simp, by simp, by simp⟩)
  have b1 : (l.length : Int) ≤ 100 := by omega
  have HNW := Lib.hid (fun u => bcheck_any (B.b : Int) (B.t : Int) (B.r : Int) u ⟨by omega, by omega⟩ ⟨by omega, by omega⟩ ⟨by omega, by omega⟩)
  have HZ := Lib.hid (errV_zero (ckB_ok B.bin))
  have hrt := B.room
  have het := B.need (n := E) hE
  obtain ⟨e0, e1⟩ := hE
  have HS0 : Hid ((oneSt B E l 0).1 = (B.r : Int) * (B.t : Int) ∧ (oneSt B E l 0).2 = E * (B.t : Int)) := Lib.hid ⟨rfl, rfl⟩
  have HIS := Lib.hid (fun k => one_is B E l k)
  generalize hrt' : (B.r : Int) * (B.t : Int) = rt at *
  generalize het' : E * (B.t : Int) = et at *
  unfold bktV at *
  clear hx hg hl hb ht hr
  generalize hnn : l.length = n at *
  have HN := Lib.hid hnn
  clear hnn
  go_enter Tryd.func18, Tryd.ntmps18
  go_wp2_with fail
  rw [← hw0]
  clear hw0
  obtain ⟨x0, x1, x2⟩ := HCC.out
  go_wp2_with (first
    | (go_at_call 39; (with_reducible refine (HNW.out _).mono ?_); rintro e w1 ⟨rfl, hg1⟩; rw [HZ.out]; have HG1 := Lib.hid hg1; clear hg1)
    | (go_at_call 40; (with_reducible refine (ilist_ok _ (HXX.out.gr (HG0.out.trans HG1.out)) (HGL.out.gr (HG0.out.trans HG1.out)) HL.out).mono ?_); rintro e w2 ⟨rfl, hg2⟩; have HG2 := Lib.hid (HG1.out.trans hg2); clear hg2))
  have z0 := HG2.out.cell HCC.out.1
  have z1 := HG2.out.cell HCC.out.2.1
  have z2 := HG2.out.cell HCC.out.2.2
  clear x0 x1 x2
  go_quiet (fail)
  go_wp2
  go_loopw [10, 11, 12, 13, 49] (fun f s t out i wr => ∃ k : Nat, k ≤ n ∧ i = .int .i64 k ∧ f = .int .i64 (oneSt B E l k).1 ∧ s = .int .i64 (oneSt B E l k).2 ∧ t = .int .i64 (lastT l k) ∧ Hid (RowAt w0 wr out (upTo (oneCol B E l) k))) (fun _ _ _ _ i _ => n - (intOf i).toNat)
  case atStart => exact ⟨0, Nat.zero_le _, rfl, by rw [HS0.out.1], by rw [HS0.out.2], rfl, Lib.hid ⟨IntRow.nil _, ⟨(fun g hg => by cases hg), HG2.out.drewN _⟩⟩⟩
  case round =>
    obtain ⟨k, hk, rfl, rfl, rfl, rfl, HC⟩ := hrel
    by_cases hlt : k < n
    · obtain ⟨b, off, rfl, hA2⟩ := HX.out (by omega)
      have hit := hA2 k hlt
      have c0 := HC.out.own.gr.cell (HG0.out.cell hit.c0)
      have c1 := HC.out.own.gr.cell (HG0.out.cell hit.c1)
      have c2 := HC.out.own.gr.cell (HG0.out.cell hit.c2)
      have c3 := HC.out.own.gr.cell (HG0.out.cell hit.c3)
      have c4 := HC.out.own.gr.cell (HG0.out.cell hit.c4)
      have p0 := HC.out.own.gr.cell HCC.out.1
      have p1 := HC.out.own.gr.cell HCC.out.2.1
      have p2 := HC.out.own.gr.cell HCC.out.2.2
      have i0 : (0 : Int) ≤ (k : Int) := by omega
      have i1 : (k : Int) < (n : Int) := by omega
      have HI := HIS.out k
      have hq := HQ.out k hlt
      have hm := HM.out k hlt
      have ⟨t0, t1, n0, n1, o0, o1⟩ := HIT.out k hlt
      have ⟨a0, a1, d0, d1⟩ := HOI.out k hk
      have HLT := Lib.hid (show lastT l (k + 1) = (l.getD k .zero).t from rfl)
      have HU := Lib.hid (upTo_succ (oneCol B E l) k)
      have HK : Hid ((upTo (oneCol B E l) k).length ≤ 1000000) := Lib.hid (by have := upTo_len (oneCol B E l) k; omega)
      clear hA2 hit
      replace HI := Lib.hid HI
      generalize l.getD k .zero = x at *
      obtain ⟨t, len, flow, band, mark⟩ := x
      simp only at *
      have HC1 := Lib.hid (HC.out.gr ((Gr.refl wr).alloc (.cells #[.int .i64 t, .int .i64 len, .int .i64 flow, .int .i64 band, .int .i64 mark] 73)))
      generalize lastT l k = tl at *
      generalize hq' : (t - tl) * (B.b : Int) = q at *
      generalize hm' : len * (B.t : Int) = m at *
      generalize (oneSt B E l k).1 = s1 at *
      generalize (oneSt B E l k).2 = s2 at *
      generalize oneCol B E l k = c at *
      obtain ⟨f1, hf1⟩ : ∃ y, y = (oneSt B E l (k + 1)).1 := ⟨_, rfl⟩
      obtain ⟨f2, hf2⟩ : ∃ y, y = (oneSt B E l (k + 1)).2 := ⟨_, rfl⟩
      rw [← hf1, ← hf2] at HI
      have HF := Lib.hid (And.intro hf1.symm hf2.symm)
      clear hf1 hf2
      have hlt2 : w.heap.size < wr.heap.size := cell_lt p0
      rw [hrt'] at a1
      rw [het'] at d1
      go_wp2_with (first
        | (at_builtin; refine wpList_append_intR rfl _ _ _ (by rfl) (by rfl) u13 _ 1 (by rfl) (HC1.out.gr ((Gr.refl _).alloc (.cells #[.int .i64 1] 3))).row ⟨wr.heap.size + 1, 0, none⟩ 1 (by rfl) (by simp) HK.out ?_; intro v' w6 hrow hgr hblk; have HC5 : Hid (RowAt w0 w6 v' (upTo (oneCol B E l) (k + 1))) := Lib.hid (by rw [← HU.out, show c = 1 from by (have hi := HI.out; unfold OneIs at hi; simp only [min_ite] at *; omega)]; exact (HC1.out.gr ((Gr.refl _).alloc (.cells #[.int .i64 1] 3))).append hrow hgr hblk); clear hrow hgr hblk)
        | (at_builtin; refine wpList_append_intR rfl _ _ _ (by rfl) (by rfl) u13 _ 2 (by rfl) (HC1.out.gr ((Gr.refl _).alloc (.cells #[.int .i64 2] 3))).row ⟨wr.heap.size + 1, 0, none⟩ 1 (by rfl) (by simp) HK.out ?_; intro v' w6 hrow hgr hblk; have HC5 : Hid (RowAt w0 w6 v' (upTo (oneCol B E l) (k + 1))) := Lib.hid (by rw [← HU.out, show c = 2 from by (have hi := HI.out; unfold OneIs at hi; simp only [min_ite] at *; omega)]; exact (HC1.out.gr ((Gr.refl _).alloc (.cells #[.int .i64 2] 3))).append hrow hgr hblk); clear hrow hgr hblk)
        | (at_builtin; refine wpList_append_intR rfl _ _ _ (by rfl) (by rfl) u13 _ 3 (by rfl) (HC1.out.gr ((Gr.refl _).alloc (.cells #[.int .i64 3] 3))).row ⟨wr.heap.size + 1, 0, none⟩ 1 (by rfl) (by simp) HK.out ?_; intro v' w6 hrow hgr hblk; have HC5 : Hid (RowAt w0 w6 v' (upTo (oneCol B E l) (k + 1))) := Lib.hid (by rw [← HU.out, show c = 3 from by (have hi := HI.out; unfold OneIs at hi; simp only [min_ite] at *; omega)]; exact (HC1.out.gr ((Gr.refl _).alloc (.cells #[.int .i64 3] 3))).append hrow hgr hblk); clear hrow hgr hblk))
      all_goals (try (exfalso; omega))
      all_goals
        go_roundw
        case rel => exact ⟨k + 1, by omega, by go_num, congrArg (Value.int .i64) (by rw [HF.out.1]; have hi := HI.out; unfold OneIs at hi; simp only [min_ite] at *; omega), congrArg (Value.int .i64) (by rw [HF.out.2]; have hi := HI.out; unfold OneIs at hi; simp only [min_ite] at *; omega), by rw [HLT.out], HC5⟩
        case measure => simp [intOf]; omega
    · obtain rfl : k = n := by omega
      go_wp2
      go_ret2
      exact ⟨_, rfl, HC.out.row, HG0.out.trans HC.out.own.gr⟩
end Go.Proofs.YtogmjjaoflaogaaDoor

/-
  Which packets conform by when they should come: bucket.Cells.
-/
import Derived.Test.YtogmjjaoflaogaaDoorBktQ
import Derived.Test.YtogmjjaoflaogaaDoorBktD
namespace Go.Proofs.YtogmjjaoflaogaaDoor
open Go.RowKit Go.Extern.Stop Go.Stop Go.Extern

/-- A row of the call's own, in a world that has all of w. -/
structure BRowAt (w wr : World) (out : Value) (xs : List Bool) : Prop where
  row : BoolRow wr out xs
  own : Own w wr out
theorem BRowAt.gr {w wr u : World} {out : Value} {xs : List Bool} (h : BRowAt w wr out xs) (g : Gr wr u) : BRowAt w u out xs := ⟨h.row.gr g, h.own.to g⟩
theorem BRowAt.append {w wr u : World} {out out' : Value} {xs ys : List Bool} (h : BRowAt w wr out xs) (hr : BoolRow u out' ys) (hg : wr.grownBy u out.ownBlock) (hb : ∀ g, out'.ownBlock = some g → out.ownBlock = some g ∨ wr.heap.size ≤ g) : BRowAt w u out' ys := ⟨hr, h.own.append hg hb⟩

set_option maxRecDepth 100000 in
set_option maxHeartbeats 8000000 in
theorem cells_ok (B : Bkt) {v : Value} {l : List Itm} (w : World) (hx : Items w v l) (hg : Glob w) (hl : listCode l = 0) (hn : l.length ≤ 100) :
    Calls Tryd.prog 12 #[bktV (B.b : Int) (B.t : Int) (B.r : Int), v] w fun e w' => ∃ r, e = .returned (.tuple #[r, .nilIface]) ∧ BoolRow w' r (upToB (cellOk B l) l.length) ∧ Gr w w' := by
  have hb := B.hb
  have ht := B.ht
  have hr := B.hr
  obtain ⟨a, cap, rfl⟩ := items_shape hx
  have HXX := Lib.hid hx
  have HX : Hid (0 < l.length → ∃ b off, a = some ⟨b, off, none⟩ ∧ ∀ i, i < l.length → ItemAt w b (off + i * 5) (l.getD i .zero)) := Lib.hid (fun h0 => by
    obtain ⟨b, off, cap', h1, _, _, h2⟩ := items_cells hx h0
    simp at h1
    exact ⟨b, off, h1.1, h2.out⟩)
  have HGL := Lib.hid hg
  have HL := Lib.hid hl
  have HIT := Lib.hid (fun k (hk : k < l.length) => itIn (list_zero hl hn) hk)
  have HOI := Lib.hid (fun k (hk : k ≤ l.length) => cellSt_in B (list_zero hl hn) k hk)
  have HQ := Lib.hid (fun k (hk : k < l.length) => cell_x B (itIn (list_zero hl hn) hk))
  have HM := Lib.hid (fun k (hk : k < l.length) => one_m B (itIn (list_zero hl hn) hk))
  obtain ⟨w0, hw0⟩ : ∃ w0, w0 = w.alloc (.cells #[.int .i64 (B.b : Int), .int .i64 (B.t : Int), .int .i64 (B.r : Int)] 25) := ⟨_, rfl⟩
  have HG0 : Hid (Gr w w0) := Lib.hid (by rw [hw0]; exact (Gr.refl w).alloc _)
  have HCC : Hid (w0.cell? ⟨w.heap.size, 0, none⟩ = some (.int .i64 (B.b : Int)) ∧ w0.cell? ⟨w.heap.size, 1, none⟩ = some (.int .i64 (B.t : Int)) ∧ w0.cell? ⟨w.heap.size, 2, none⟩ = some (.int .i64 (B.r : Int))) := Lib.hid (by rw [hw0]; exact ⟨by simp, by simp, by simp⟩)
  have b1 : (l.length : Int) ≤ 100 := by omega
  have HNW := Lib.hid (fun u => bcheck_any (B.b : Int) (B.t : Int) (B.r : Int) u ⟨by omega, by omega⟩ ⟨by omega, by omega⟩ ⟨by omega, by omega⟩)
  have HZ := Lib.hid (errV_zero (ckB_ok B.bin))
  have hrt := B.room
  have HIY := Lib.hid (fun k => @cell_yes B l k)
  have HIN := Lib.hid (fun k => @cell_no B l k)
  generalize hrt' : (B.r : Int) * (B.t : Int) = rt at *
  unfold bktV at *
  clear hx hg hl hb ht hr
  generalize hnn : l.length = n at *
  have HN := Lib.hid hnn
  clear hnn
  go_enter Tryd.func12, Tryd.ntmps12
  go_wp2_with fail
  rw [← hw0]
  clear hw0
  obtain ⟨x0, x1, x2⟩ := HCC.out
  go_wp2_with (first
    | (go_at_call 39; (with_reducible refine (HNW.out _).mono ?_); rintro e w1 ⟨rfl, hg1⟩; rw [HZ.out]; have HG1 := Lib.hid hg1; clear hg1)
    | (go_at_call 40; (with_reducible refine (ilist_ok _ (HXX.out.gr (HG0.out.trans HG1.out)) (HGL.out.gr (HG0.out.trans HG1.out)) HL.out).mono ?_); rintro e w2 ⟨rfl, hg2⟩; have HG2 := Lib.hid (HG1.out.trans hg2); clear hg2))
  clear x0 x1 x2
  go_loopw [8, 9, 27] (fun s out i wr => ∃ k : Nat, k ≤ n ∧ i = .int .i64 k ∧ s = .int .i64 (cellSt B l k) ∧ Hid (BRowAt w0 wr out (upToB (cellOk B l) k))) (fun _ _ i _ => n - (intOf i).toNat)
  case atStart => exact ⟨0, Nat.zero_le _, rfl, rfl, Lib.hid ⟨BoolRow.nil _, ⟨(fun g hg => by cases hg), HG2.out⟩⟩⟩
  case round =>
    obtain ⟨k, hk, rfl, rfl, HC⟩ := hrel
    by_cases hlt : k < n
    · obtain ⟨b, off, rfl, hA2⟩ := HX.out (by omega)
      have hit := hA2 k hlt
      have c0 := HC.out.own.gr.cell (HG0.out.cell hit.c0)
      have c1 := HC.out.own.gr.cell (HG0.out.cell hit.c1)
      have c2 := HC.out.own.gr.cell (HG0.out.cell hit.c2)
      have c3 := HC.out.own.gr.cell (HG0.out.cell hit.c3)
      have c4 := HC.out.own.gr.cell (HG0.out.cell hit.c4)
      have p0 := HC.out.own.gr.cell HCC.out.1
      have p1 := HC.out.own.gr.cell HCC.out.2.1
      have p2 := HC.out.own.gr.cell HCC.out.2.2
      have i0 : (0 : Int) ≤ (k : Int) := by omega
      have i1 : (k : Int) < (n : Int) := by omega
      have HY := Lib.hid (HIY.out k)
      have HNO := Lib.hid (HIN.out k)
      have hq := HQ.out k hlt
      have hm := HM.out k hlt
      have ⟨t0, t1, n0, n1, _, _⟩ := HIT.out k hlt
      have hs := HOI.out k hk
      have HU := Lib.hid (upToB_succ (cellOk B l) k)
      have HK : Hid ((upToB (cellOk B l) k).length ≤ 1000000) := Lib.hid (by have := upToB_len (cellOk B l) k; omega)
      clear hA2 hit
      generalize l.getD k .zero = x at *
      obtain ⟨t, len, flow, band, mark⟩ := x
      simp only at *
      have HC1 := Lib.hid (HC.out.gr ((Gr.refl wr).alloc (.cells #[.int .i64 t, .int .i64 len, .int .i64 flow, .int .i64 band, .int .i64 mark] 73)))
      have hlt2 : w.heap.size < wr.heap.size := cell_lt p0
      generalize hq' : t * (B.b : Int) = q at *
      generalize hm' : len * (B.t : Int) = m at *
      generalize cellSt B l k = sh at *
      generalize cellOk B l k = ok at *
      by_cases hmx : sh < q
      · by_cases hok : m ≤ rt
        · have HW := Lib.hid (HY.out (by omega))
          clear HY HNO
          go_wp2_with (at_builtin; refine wpList_append_boolR rfl _ _ _ (by rfl) (by rfl) u9 _ true (by rfl) (HC1.out.gr ((Gr.refl _).alloc (.cells #[.bool true] 4))).row ⟨wr.heap.size + 1, 0, none⟩ 1 (by rfl) (by simp) HK.out ?_; intro v' w6 hrow hgr hblk; have HC5 : Hid (BRowAt w0 w6 v' (upToB (cellOk B l) (k + 1))) := Lib.hid (by rw [← HU.out, HW.out.1]; exact (HC1.out.gr ((Gr.refl _).alloc (.cells #[.bool true] 4))).append hrow hgr hblk); clear hrow hgr hblk)
          all_goals (try (exfalso; omega))
          go_roundw
          case rel => exact ⟨k + 1, by omega, by go_num, congrArg (Value.int .i64) (by have := HW.out.2; omega), HC5⟩
          case measure => simp [intOf]; omega
        · have hok' : ¬ q + m - q ≤ rt := by omega
          have HW := Lib.hid (HNO.out (by omega))
          clear HY HNO
          go_wp2_with (at_builtin; refine wpList_append_boolR rfl _ _ _ (by rfl) (by rfl) u9 _ false (by rfl) (HC1.out.gr ((Gr.refl _).alloc (.cells #[.bool false] 4))).row ⟨wr.heap.size + 1, 0, none⟩ 1 (by rfl) (by simp) HK.out ?_; intro v' w6 hrow hgr hblk; have HC5 : Hid (BRowAt w0 w6 v' (upToB (cellOk B l) (k + 1))) := Lib.hid (by rw [← HU.out, HW.out.1]; exact (HC1.out.gr ((Gr.refl _).alloc (.cells #[.bool false] 4))).append hrow hgr hblk); clear hrow hgr hblk)
          all_goals (try (exfalso; omega))
          go_roundw
          case rel => exact ⟨k + 1, by omega, by go_num, congrArg (Value.int .i64) (by have := HW.out.2; omega), HC5⟩
          case measure => simp [intOf]; omega
      · by_cases hok : sh + m - q ≤ rt
        · have HW := Lib.hid (HY.out (by omega))
          clear HY HNO
          go_wp2_with (at_builtin; refine wpList_append_boolR rfl _ _ _ (by rfl) (by rfl) u9 _ true (by rfl) (HC1.out.gr ((Gr.refl _).alloc (.cells #[.bool true] 4))).row ⟨wr.heap.size + 1, 0, none⟩ 1 (by rfl) (by simp) HK.out ?_; intro v' w6 hrow hgr hblk; have HC5 : Hid (BRowAt w0 w6 v' (upToB (cellOk B l) (k + 1))) := Lib.hid (by rw [← HU.out, HW.out.1]; exact (HC1.out.gr ((Gr.refl _).alloc (.cells #[.bool true] 4))).append hrow hgr hblk); clear hrow hgr hblk)
          all_goals (try (exfalso; omega))
          go_roundw
          case rel => exact ⟨k + 1, by omega, by go_num, congrArg (Value.int .i64) (by have := HW.out.2; omega), HC5⟩
          case measure => simp [intOf]; omega
        · have hok' : rt < sh + m - q := by omega
          have HW := Lib.hid (HNO.out (by omega))
          clear HY HNO
          go_wp2_with (at_builtin; refine wpList_append_boolR rfl _ _ _ (by rfl) (by rfl) u9 _ false (by rfl) (HC1.out.gr ((Gr.refl _).alloc (.cells #[.bool false] 4))).row ⟨wr.heap.size + 1, 0, none⟩ 1 (by rfl) (by simp) HK.out ?_; intro v' w6 hrow hgr hblk; have HC5 : Hid (BRowAt w0 w6 v' (upToB (cellOk B l) (k + 1))) := Lib.hid (by rw [← HU.out, HW.out.1]; exact (HC1.out.gr ((Gr.refl _).alloc (.cells #[.bool false] 4))).append hrow hgr hblk); clear hrow hgr hblk)
          all_goals (try (exfalso; omega))
          go_roundw
          case rel => exact ⟨k + 1, by omega, by go_num, congrArg (Value.int .i64) (by have := HW.out.2; omega), HC5⟩
          case measure => simp [intOf]; omega
    · obtain rfl : k = n := by omega
      go_wp2
      go_ret2
      exact ⟨_, rfl, HC.out.row, HG0.out.trans HC.out.own.gr⟩
end Go.Proofs.YtogmjjaoflaogaaDoor

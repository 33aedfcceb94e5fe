/-
  sketch.Grid: Add, Guess, Merge.
-/
import Derived.Test.YtmangbbcnkbfkaaDoorGridA
namespace Go.Proofs.YtmangbbcnkbfkaaDoor
open Go.RowKit Go.Extern.Stop Go.Stop Go.Extern

/-- f with one more at a key's cell in each of so many rows -/
def ad (f : Nat → Int) (cells : Nat) (key : Int) : Nat → Nat → Int
  | 0 => f
  | r + 1 => upd (ad f cells key r) (r * cells + gc cells r key) (f (r * cells + gc cells r key) + 1)

theorem row_ne {r r' c c' cells : Nat} (hc : c < cells) (h : r < r') : r * cells + c ≠ r' * cells + c' := by
  have h1 : (r + 1) * cells ≤ r' * cells := Nat.mul_le_mul_right _ h
  rw [Nat.add_mul] at h1
  omega
theorem row_in {r rows c cells : Nat} (hc : c < cells) (h : r < rows) : r * cells + c < rows * cells := by
  have h1 : (r + 1) * cells ≤ rows * cells := Nat.mul_le_mul_right _ h
  rw [Nat.add_mul] at h1
  omega
theorem ad_later {f : Nat → Int} {cells : Nat} {key : Int} (hc : 1 ≤ cells ∧ cells ≤ 1001) {r r' c : Nat} (h : r ≤ r') : ad f cells key r (r' * cells + c) = f (r' * cells + c) := by
  induction r with
  | zero => rfl
  | succ r ih =>
    rw [ad, upd_ne _ _ (fun e => row_ne (gc_in hc).1 (show r < r' by omega) e.symm)]
    exact ih (by omega)
theorem ad_at {f : Nat → Int} {cells : Nat} {key : Int} (hc : 1 ≤ cells ∧ cells ≤ 1001) {r rows c : Nat} (h : r < rows) (hcc : c < cells) : ad f cells key rows (r * cells + c) = f (r * cells + c) + (if gc cells r key = c then 1 else 0) := by
  induction rows with
  | zero => omega
  | succ rows ih =>
    rw [ad]
    by_cases e : r = rows
    · subst e
      by_cases e2 : gc cells r key = c
      · subst e2
        rw [upd_at, if_pos rfl]
      · rw [upd_ne _ _ (by omega), if_neg e2, ad_later hc (Nat.le_refl _)]
        omega
    · rw [upd_ne _ _ (row_ne hcc (show r < rows by omega))]
      exact ih (by omega)

set_option maxRecDepth 100000 in
set_option maxHeartbeats 4000000 in
theorem add_ok (g nb rows cells : Nat) (f : Nat → Int) (key : Int) (w : World) (hr : rows ≤ 8) (hc : 1 ≤ cells ∧ cells ≤ 1000) (hk : Bd key) (hG : GridAt w g nb rows cells f) (hf : Hid (∀ i, i < rows * cells → 0 ≤ f i ∧ f i ≤ 1000)) :
    Calls Tryd.prog 14 #[.pointer (some ⟨g, 0, none⟩), .int .i64 key] w fun e w' => e = .returned (.tuple #[]) ∧ GridAt w' g nb rows cells (ad f cells key rows) ∧ ∀ u, Gr u w → u.heap.size ≤ nb → Gr u w' := by
  have c0 := hG.c0
  have HGr := Lib.hid hG
  have HK := Lib.hid hk
  clear hG hk
  go_enter Tryd.func14, Tryd.ntmps14
  go_wp2
  go_loopw [11] (fun i wr => ∃ r : Nat, r ≤ rows ∧ i = .int .i64 r ∧ Hid (GridAt wr g nb rows cells (ad f cells key r)) ∧ Hid (∀ u, Gr u w → u.heap.size ≤ nb → Gr u wr)) (fun i _ => rows - (intOf i).toNat)
  case atStart => exact ⟨0, Nat.zero_le _, rfl, HGr, fun u hu _ => hu⟩
  case round =>
    obtain ⟨r, hrr, rfl, HR, HU⟩ := hrel
    by_cases hlt : r < rows
    · have c0 := HR.out.c0
      have c1 := HR.out.c1
      have c2 := HR.out.c2
      have hcl := (gc_in (cells := cells) (row := r) (key := key) (by omega)).1
      have hin := row_in (r := r) (rows := rows) hcl hlt
      have k0 := HR.out.blk.cell hin
      have k1 := HR.out.blk.free (r * cells + gc cells r key)
      rw [ad_later (by omega) (Nat.le_refl _)] at k0
      have hfv := hf.out _ hin
      have HRow := Lib.hid (show Blk .i64 3 (wr.drew.setCell ⟨nb, r * cells + gc cells r key, none⟩ (.int .i64 (f (r * cells + gc cells r key) + 1))) nb (rows * cells) (ad f cells key (r + 1)) from HR.out.blk.drew.set _ _)
      have HCell := Lib.hid (cell_in g cells rows r key wr.drew (by omega) hlt hr HK.out (by simpa using c0) (by simpa using c1))
      have hm0 : r * cells ≤ 8 * 1000 := Nat.mul_le_mul (by omega) hc.2
      have hm1 : (0 : Int) ≤ (r : Int) * (cells : Int) ∧ (r : Int) * (cells : Int) ≤ 8000 := by
        rw [← Int.natCast_mul]; omega
      have hc1000 := hc.2
      generalize gc cells r key = c at *
      have hixI : (r : Int) * (cells : Int) + (c : Int) = ((r * cells + c : Nat) : Int) := by simp
      generalize r * cells + c = ix at *
      generalize f ix = x at *
      generalize rows * cells = nn at c2 hin
      have hne := HR.out.ne
      have x0 : (0 : Int) ≤ (ix : Int) := by omega
      have x1 : (ix : Int) < (nn : Int) := by omega
      have HNE : Hid (∀ o, (wr.drew.setCell ⟨nb, ix, none⟩ (.int .i64 (x + 1))).cell? ⟨g, o, none⟩ = wr.cell? ⟨g, o, none⟩) := Lib.hid (fun o => by
        rw [World.cell?_setCell_far _ _ _ _ (Ne.symm hne)]; rfl)
      have HW1 := Lib.hid (show IntKind.i64.wrap ((r : Int) * (cells : Int)) = (r : Int) * (cells : Int) by rw [IntKind.wrap_i64]; omega)
      have HW2 := Lib.hid (show IntKind.i64.wrap ((r : Int) * (cells : Int) + (c : Int)) = (ix : Int) by rw [hixI, IntKind.wrap_i64]; omega)
      have HW3 := Lib.hid (show IntKind.i64.wrap (x + 1) = x + 1 by rw [IntKind.wrap_i64]; omega)
      clear hne hm0 hin
      have i0 : (0 : Int) ≤ (r : Int) := by omega
      have i1 : (r : Int) < (rows : Int) := by omega
      go_wp2
      go_still_tail 19, (by kernel_rfl)
      still_call (HCell.out)
      repeat still_step
      rw [HW1.out, HW2.out]
      repeat still_step
      rw [HW3.out]
      refine wpStill_nil ?_
      change wpList _ _ _ _ _ (World.drew _)
      go_wp2
      go_roundw
      case rel =>
        refine ⟨r + 1, by omega, by go_num, ⟨?_, ?_, ?_, HRow.out, HR.out.ne⟩, fun u hu hn => (HU.out u hu hn).drew.setCell hn _⟩
        · exact (HNE.out 0).trans HR.out.c0
        · exact (HNE.out 1).trans HR.out.c1
        · exact (HNE.out 2).trans HR.out.c2
      case measure => simp [intOf]; omega
    · obtain rfl : r = rows := by omega
      have c0 := HR.out.c0
      go_wp2
      go_end0
      exact ⟨rfl, HR.out, HU.out⟩

/-- the least of a key's cells in so many rows; -1 for no rows -/
def gs (f : Nat → Int) (cells : Nat) (key : Int) : Nat → Int
  | 0 => -1
  | r + 1 => if gs f cells key r < 0 ∨ f (r * cells + gc cells r key) < gs f cells key r then f (r * cells + gc cells r key) else gs f cells key r

theorem gs_in {f : Nat → Int} {cells rows : Nat} {key : Int} (hc : 1 ≤ cells ∧ cells ≤ 1001) (hf : ∀ i, i < rows * cells → 0 ≤ f i ∧ f i ≤ 1000) {r : Nat} (h : r ≤ rows) : -1 ≤ gs f cells key r ∧ gs f cells key r ≤ 1000 := by
  induction r with
  | zero => simp [gs]
  | succ r ih =>
    have h1 := hf _ (row_in (gc_in (row := r) (key := key) hc).1 (show r < rows by omega))
    have h2 := ih (by omega)
    rw [gs]
    split <;> omega

set_option maxRecDepth 100000 in
set_option maxHeartbeats 4000000 in
theorem guess_ok (g nb rows cells : Nat) (f : Nat → Int) (key : Int) (w : World) (hr : rows ≤ 8) (hc : 1 ≤ cells ∧ cells ≤ 1000) (hk : Bd key) (hG : GridAt w g nb rows cells f) (hf : Hid (∀ i, i < rows * cells → 0 ≤ f i ∧ f i ≤ 1000)) :
    Calls Tryd.prog 12 #[.pointer (some ⟨g, 0, none⟩), .int .i64 key] w fun e w' => e = .returned (.int .i64 (gs f cells key rows)) ∧ Gr w w' := by
  have c0 := hG.c0
  have HGr := Lib.hid hG
  have HK := Lib.hid hk
  clear hG hk
  go_enter Tryd.func12, Tryd.ntmps12
  go_wp2
  go_loopw [5, 14] (fun m i wr => ∃ r : Nat, r ≤ rows ∧ i = .int .i64 r ∧ m = .int .i64 (gs f cells key r) ∧ Hid (Gr w wr)) (fun _ i _ => rows - (intOf i).toNat)
  case atStart => exact ⟨0, Nat.zero_le _, rfl, rfl, Gr.refl _⟩
  case round =>
    obtain ⟨r, hrr, rfl, rfl, HU⟩ := hrel
    have HR := Lib.hid (HGr.out.gr HU.out)
    by_cases hlt : r < rows
    · have c0 := HR.out.c0
      have c1 := HR.out.c1
      have c2 := HR.out.c2
      have hcl := (gc_in (cells := cells) (row := r) (key := key) (by omega)).1
      have hin := row_in (r := r) (rows := rows) hcl hlt
      have k0 := HR.out.blk.cell hin
      have hfv := hf.out _ hin
      have hgv := gs_in (key := key) (by omega) hf.out (show r ≤ rows by omega)
      have HCell := Lib.hid (cell_in g cells rows r key wr.drew (by omega) hlt hr HK.out (by simpa using c0) (by simpa using c1))
      have hm0 : r * cells ≤ 8 * 1000 := Nat.mul_le_mul (by omega) hc.2
      have hm1 : (0 : Int) ≤ (r : Int) * (cells : Int) ∧ (r : Int) * (cells : Int) ≤ 8000 := by
        rw [← Int.natCast_mul]; omega
      have hc1000 := hc.2
      have HE : Hid (gs f cells key (r + 1) = if gs f cells key r < 0 ∨ f (r * cells + gc cells r key) < gs f cells key r then f (r * cells + gc cells r key) else gs f cells key r) := Lib.hid rfl
      generalize gc cells r key = c at *
      have hixI : (r : Int) * (cells : Int) + (c : Int) = ((r * cells + c : Nat) : Int) := by simp
      generalize r * cells + c = ix at *
      generalize f ix = x at *
      generalize gs f cells key r = y at *
      generalize rows * cells = nn at c2 hin
      have x0 : (0 : Int) ≤ (ix : Int) := by omega
      have x1 : (ix : Int) < (nn : Int) := by omega
      have HW1 := Lib.hid (show IntKind.i64.wrap ((r : Int) * (cells : Int)) = (r : Int) * (cells : Int) by rw [IntKind.wrap_i64]; omega)
      have HW2 := Lib.hid (show IntKind.i64.wrap ((r : Int) * (cells : Int) + (c : Int)) = (ix : Int) by rw [hixI, IntKind.wrap_i64]; omega)
      clear hm0 hin
      have i0 : (0 : Int) ≤ (r : Int) := by omega
      have i1 : (r : Int) < (rows : Int) := by omega
      go_wp2
      go_still_tail 17, (by kernel_rfl)
      still_call (HCell.out)
      repeat still_step
      rw [HW1.out, HW2.out]
      repeat still_step
      refine wpStill_nil ?_
      change wpList _ _ _ _ _ (World.drew _)
      by_cases t1 : y < 0
      · have HE2 : Hid (gs f cells key (r + 1) = x) := Lib.hid (by rw [HE.out, if_pos (.inl t1)])
        clear HE
        go_wp2
        go_roundw
        case rel => exact ⟨r + 1, by omega, by go_num, by rw [HE2.out], HU.out.drew⟩
        case measure => simp [intOf]; omega
      · by_cases t2 : x < y
        · have HE2 : Hid (gs f cells key (r + 1) = x) := Lib.hid (by rw [HE.out, if_pos (.inr t2)])
          clear HE
          go_wp2
          go_roundw
          case rel => exact ⟨r + 1, by omega, by go_num, by rw [HE2.out], HU.out.drew⟩
          case measure => simp [intOf]; omega
        · have HE2 : Hid (gs f cells key (r + 1) = y) := Lib.hid (by rw [HE.out, if_neg (by omega)])
          clear HE
          go_wp2
          go_roundw
          case rel => exact ⟨r + 1, by omega, by go_num, by rw [HE2.out], HU.out.drew⟩
          case measure => simp [intOf]; omega
    · obtain rfl : r = rows := by omega
      go_wp2
      go_ret
      exact ⟨rfl, HU.out⟩

set_option maxHeartbeats 4000000 in
theorem guess_nil (key : Int) (w : World) :
    Calls Tryd.prog 12 #[.pointer none, .int .i64 key] w fun e w' => e = .returned (.int .i64 0) ∧ w' = w := by
  go_enter Tryd.func12, Tryd.ntmps12
  go_wp2
  go_ret
  exact ⟨rfl, rfl⟩
set_option maxHeartbeats 4000000 in
theorem merge_nil (g : Nat) (w : World) :
    Calls Tryd.prog 16 #[.pointer (some ⟨g, 0, none⟩), .pointer none] w fun e w' => e = .returned (.iface 23 (.int .i64 7)) ∧ w' = w := by
  go_enter Tryd.func16, Tryd.ntmps16
  go_wp2
  go_ret
  exact ⟨rfl, rfl⟩
set_option maxRecDepth 100000 in
set_option maxHeartbeats 4000000 in
theorem merge_other (g g' rows cells : Nat) (w : World) (hc : cells ≤ 1000) (c0 : w.cell? ⟨g, 0, none⟩ = some (.int .i64 (rows : Int))) (c1 : w.cell? ⟨g, 1, none⟩ = some (.int .i64 (cells : Int)))
    (d0 : w.cell? ⟨g', 0, none⟩ = some (.int .i64 (rows : Int))) (d1 : w.cell? ⟨g', 1, none⟩ = some (.int .i64 ((cells : Int) + 1))) :
    Calls Tryd.prog 16 #[.pointer (some ⟨g, 0, none⟩), .pointer (some ⟨g', 0, none⟩)] w fun e w' => e = .returned (.iface 23 (.int .i64 3)) ∧ Gr w w' := by
  have hcc : (cells : Int) ≤ 1000 := by omega
  have hc0 : (0 : Int) ≤ (cells : Int) := by omega
  generalize (cells : Int) = c at *
  generalize (rows : Int) = r at *
  have hne : (c == c + 1) = false := by simp; omega
  go_enter Tryd.func16, Tryd.ntmps16
  go_wp2
  go_quiet (fail)
  go_wp2
  go_ret
  exact ⟨rfl, (Gr.refl _).drewN _⟩
end Go.Proofs.YtmangbbcnkbfkaaDoor

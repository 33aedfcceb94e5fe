/-
  What the sort asks, walked: cmp.Or of two, the closure.
-/
import Derived.Test.YtcfajegdlaeekaaDoorTopB
import Derived.Test.YtcfajegdlaeekaaDoorTopM
import Derived.StillTailTactics
namespace Go.Proofs.YtcfajegdlaeekaaDoor
open Go.RowKit Go.Shelf Go.Lib Go.Sort

set_option maxRecDepth 100000 in
set_option maxHeartbeats 4000000 in
/-- cmp.Or(x, y) -/
theorem or2 (b : Nat) (x y : Int) (w : World) (h0 : w.cell? ⟨b, 0, none⟩ = some (.int .i64 x)) (h1 : w.cell? ⟨b, 1, none⟩ = some (.int .i64 y)) :
    Calls Tryd.prog 15 #[.slice (some ⟨b, 0, none⟩) 2 2] w fun e w' => e = .returned (.int .i64 (if x ≠ 0 then x else y)) ∧ w = w' := by
  go_enter Tryd.func15, Tryd.ntmps15
  go_wp2
  go_loopw [8] (fun s wr => ∃ k : Nat, k ≤ 2 ∧ s = .int .i64 (k : Int) ∧ w = wr ∧ (0 < k → x = 0) ∧ (1 < k → y = 0)) (fun s _ => 2 - (intOf s).toNat)
  case atStart => exact ⟨0, by omega, rfl, rfl, by omega, by omega⟩
  case round =>
    obtain ⟨k, hk, rfl, rfl, a0, a1⟩ := hrel
    rcases (show k = 0 ∨ k = 1 ∨ k = 2 by omega) with rfl | rfl | rfl
    · clear a0 a1 hk
      by_cases hx : x = 0
      · subst hx
        go_wp2
        go_roundw
        case rel => refine ⟨1, by omega, by go_num, ?_⟩ <;> simp
        case measure => simp [intOf]
      · go_wp2
        go_ret
        exact ⟨by simp, rfl⟩
    · have hx := a0 (by omega)
      subst hx
      clear a0 a1 hk
      by_cases hy : y = 0
      · subst hy
        go_wp2
        go_roundw
        case rel => refine ⟨2, by omega, by go_num, ?_⟩ <;> simp
        case measure => simp [intOf]
      · go_wp2
        go_ret
        exact ⟨by simp, rfl⟩
    · have hx := a0 (by omega)
      have hy := a1 (by omega)
      subst hx hy
      clear a0 a1 hk
      go_wp2
      go_ret
      exact ⟨by simp, rfl⟩
set_option maxRecDepth 100000 in
set_option maxHeartbeats 4000000 in
/-- The closure. -/
theorem cls (p q : Int × Int) (W : World) : Calls Tryd.prog 14 #[.agg #[.int .i64 p.1, .int .i64 p.2], .agg #[.int .i64 q.1, .int .i64 q.2]] W fun e w' => e = .returned (.int .i64 (cfP p q)) ∧ ∃ k os', w' = grow (W.drewN k) os' := by
  have HC := Lib.hid (fun (x y : Int) (w : World) => Tryd.cmp_Compare_int x y w)
  unfold cfP
  obtain ⟨a1, a2⟩ := p
  obtain ⟨b1, b2⟩ := q
  dsimp only
  have H1 := Lib.hid (fun w => HC.out b2 a2 w)
  have H2 := Lib.hid (fun w => HC.out a1 b1 w)
  generalize Lib.compareInt b2 a2 = r1 at H1 ⊢
  generalize Lib.compareInt a1 b1 = r2 at H2 ⊢
  clear HC
  obtain ⟨r, hr⟩ : ∃ r, r = (if r1 ≠ 0 then r1 else r2) := ⟨_, rfl⟩
  rw [← hr]
  have HR := Lib.hid hr
  clear hr
  go_enter Tryd.func14, Tryd.ntmps14
  go_wp2
  obtain ⟨w0, hw0⟩ : ∃ w0, w0 = (W.alloc (.cells #[.int .i64 a1, .int .i64 a2] 44)).alloc (.cells #[.int .i64 b1, .int .i64 b2] 44) := ⟨_, rfl⟩
  obtain ⟨k, hk⟩ : ∃ k, k = W.heap.size := ⟨_, rfl⟩
  have b0 : w0.heap[k]? = some (.cells #[.int .i64 a1, .int .i64 a2] 44 (0, 0)) := by
    rw [hw0, hk, ((Gr.refl (W.alloc (.cells #[.int .i64 a1, .int .i64 a2] 44))).alloc _).block (by simp)]
    exact heap_alloc_new W _
  have b1' : w0.heap[k + 1]? = some (.cells #[.int .i64 b1, .int .i64 b2] 44 (0, 0)) := by
    rw [hw0, hk, show W.heap.size + 1 = (W.alloc (.cells #[.int .i64 a1, .int .i64 a2] 44)).heap.size from by simp]
    exact heap_alloc_new _ _
  have x0 : w0.cell? ⟨k, 0, none⟩ = some (.int .i64 a1) := cell_of_row w0 k 0 _ _ _ b0
  have x1 : w0.cell? ⟨k, 1, none⟩ = some (.int .i64 a2) := cell_of_row w0 k 1 _ _ _ b0
  have y0 : w0.cell? ⟨k + 1, 0, none⟩ = some (.int .i64 b1) := cell_of_row w0 (k + 1) 0 _ _ _ b1'
  have y1 : w0.cell? ⟨k + 1, 1, none⟩ = some (.int .i64 b2) := cell_of_row w0 (k + 1) 1 _ _ _ b1'
  clear b0 b1'
  rw [← hw0, ← hk]
  have HW0 := Lib.hid hw0
  clear hw0 hk
  go_still_tail 10, (by kernel_rfl)
  still_call (H1.out _)
  repeat still_step
  still_call (H2.out _)
  repeat still_step
  refine wpStill_nil ?_
  change wpList _ _ _ _ _ (World.drew _)
  have HO : Hid (Calls Tryd.prog 15 #[.slice (some ⟨w0.heap.size, 0, none⟩) 2 2] (w0.alloc (.cells #[.int .i64 r1, .int .i64 r2] 3)).drew fun e w' => e = .returned (.int .i64 r) ∧ (w0.alloc (.cells #[.int .i64 r1, .int .i64 r2] 3)).drew = w') := Lib.hid ((or2 w0.heap.size r1 r2 (w0.alloc (.cells #[.int .i64 r1, .int .i64 r2] 3)).drew (cell_of_row _ _ 0 _ _ _ (heap_alloc_new w0 _)) (cell_of_row _ _ 1 _ _ _ (heap_alloc_new w0 _))).mono fun e w' h => by rw [HR.out]; exact h)
  clear HR
  go_wp2_with (go_at_call 15; refine HO.out.mono ?_; rintro e w1 ⟨rfl, rfl⟩)
  go_ret
  exact ⟨rfl, 1, #[.cells #[.int .i64 a1, .int .i64 a2] 44, .cells #[.int .i64 b1, .int .i64 b2] 44, .cells #[.int .i64 r1, .int .i64 r2] 3], by rw [HW0.out]; rfl⟩
end Go.Proofs.YtcfajegdlaeekaaDoor

/-
  curve.Least and the law CurveLeast.
-/
import Derived.Test.YtamofadbcgeokaaDoorCurveC
namespace Go.Proofs.YtamofadbcgeokaaDoor
open Go.RowKit Go.Extern.Stop Go.Stop Go.Extern

/-- f 0, f 1, .. of so many -/
def upTo (f : Nat → Int) (k : Nat) : List Int := (List.range k).map f
theorem upTo_len (f : Nat → Int) (k : Nat) : (upTo f k).length = k := by simp [upTo]
theorem upTo_succ (f : Nat → Int) (k : Nat) : upTo f k ++ [f k] = upTo f (k + 1) := by simp [upTo, List.range_succ]

theorem min_ite (x y : Int) : (if y < x then y else x) = min x y := by omega
theorem max_ite (x y : Int) : (if x < y then y else x) = max x y := by omega

theorem lt_other {k q m : Nat} (h : k < q) (h' : q ≤ m) : (k : Int) < (m : Int) := by omega
def leastAt (xs ys : List Int) (t : Nat) : Int := min (xs.getD t 0) (ys.getD t 0)

theorem ckCurve_pos {xs : List Int} (h : ckCurve xs = 0) : 0 < xs.length ∧ xs.length ≤ 201 := by
  unfold ckCurve at h
  split at h
  · omega
  · omega
theorem ckTwo_ok {xs ys : List Int} (h : ckTwo xs ys = 0) : ckCurve xs = 0 ∧ ckCurve ys = 0 := by
  unfold ckTwo at h
  split at h
  · omega
  · omega

set_option maxRecDepth 100000 in
set_option maxHeartbeats 1000000 in
theorem least_ok {v u : Value} {xs ys : List Int} (w : World) (hx : Ints w v xs) (hy : Ints w u ys) (hc : ckTwo xs ys = 0) :
    Calls Tryd.prog 32 #[v, u] w fun e w' => ∃ r, e = .returned (.tuple #[r, .nilIface]) ∧ Ints w' r (upTo (leastAt xs ys) (min xs.length ys.length)) ∧ Gr w w' := by
  obtain ⟨l1, l2⟩ := ckCurve_pos (ckTwo_ok hc).1
  obtain ⟨l3, l4⟩ := ckCurve_pos (ckTwo_ok hc).2
  have HX := Lib.hid hx
  have HY := Lib.hid hy
  have HC := Lib.hid hc
  obtain ⟨b, off, cap, rfl, CX⟩ := ints_cells hx l1
  obtain ⟨b', off', cap', rfl, CY⟩ := ints_cells hy l3
  clear hx hy hc
  generalize hn : xs.length = n at *
  generalize hm : ys.length = m at *
  clear hn hm
  have hq : (min n m = n ∧ n ≤ m) ∨ (min n m = m ∧ m < n) := by omega
  generalize min n m = q at *
  rcases hq with ⟨rfl, hle⟩ | ⟨rfl, hle⟩
  all_goals
    go_enter Tryd.func32, Tryd.ntmps32
    go_wp2_with (go_at_call 55; refine (both_ok _ HX.out HY.out HC.out).mono ?_; rintro e w' ⟨rfl, rfl⟩)
    go_loopw [7, 20] (fun r i wr => ∃ k : Nat, k ≤ q ∧ i = .int .i64 k ∧ Hid (OwnInts wr w.heap.size r (upTo (leastAt xs ys) k)) ∧ Hid (Gr w wr)) (fun _ i _ => q - (intOf i).toNat)
    case atStart => exact ⟨0, Nat.zero_le _, rfl, OwnInts.nil _ _, Gr.refl _⟩
    case round =>
      obtain ⟨k, hk, rfl, HO, HG⟩ := hrel
      by_cases hlt : k < q
      · have d1 := CX.out k (by omega)
        have d2 := CY.out k (by omega)
        have i0 : (0 : Int) ≤ (k : Int) := by omega
        have i1 : (k : Int) < (q : Int) := by omega
        have i2 := by first | exact lt_other hlt hle | exact lt_other hlt (Nat.le_of_lt hle)
        have hf : leastAt xs ys k = min (xs.getD k 0) (ys.getD k 0) := rfl
        generalize xs.getD k 0 = x at d1 hf
        generalize ys.getD k 0 = y at d2 hf
        have HF := Lib.hid hf
        have D1 := Lib.hid d1
        have D2 := Lib.hid d2
        have c1 := HG.out.cell d1
        have c2 := HG.out.cell d2
        clear hf d1 d2
        go_wp2
        go_region_held3 (fun w' => w'.cell? ⟨b, off + k, none⟩ = some (.int .i64 x) ∧ w'.cell? ⟨b', off' + k, none⟩ = some (.int .i64 y))
          (first
            | go_keep
            | exact ⟨(hwr1 w (HG.out.alloc _).drew (Nat.le_refl _)).cell D1.out, (hwr1 w (HG.out.alloc _).drew (Nat.le_refl _)).cell D2.out⟩)
          ((refine step_append_int (by rfl) _ _ _ (by rfl) (by kernel_rfl) w.heap.size _ _ (min x y) (by rfl) ((HO.out.alloc _).drew) ⟨wr.heap.size, 0, none⟩ 1 (by rfl) (by simp [min_ite]) (by rw [upTo_len]; omega) (by have := HG.out.size; simp; omega) ?_; intro r' w1 hown1 hwr1))
        have HG1 := Lib.hid (hwr1 w (HG.out.alloc _).drew (Nat.le_refl _))
        have HO1 := Lib.hid hown1
        clear hown1 hwr1
        go_wp2
        go_roundw
        case rel => exact ⟨k + 1, by omega, by go_num, by rw [← upTo_succ, HF.out]; exact HO1.out, HG1.out⟩
        case measure => simp [intOf]; omega
      · go_wp2
        obtain rfl : k = q := by omega
        go_ret2
        exact ⟨_, rfl, HO.out.ints (by rw [upTo_len]; omega), HG.out⟩
end Go.Proofs.YtamofadbcgeokaaDoor

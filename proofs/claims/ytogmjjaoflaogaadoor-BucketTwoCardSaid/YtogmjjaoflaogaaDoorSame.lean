/-
  millracelaw.sameInts; slices of ints once more.
-/
import Derived.Test.YtogmjjaoflaogaaDoorApp
namespace Go.Proofs.YtogmjjaoflaogaaDoor
open Go.RowKit Go.Extern.Stop Go.Stop Go.Extern

/-- f 0, f 1, .. of so many -/
def upTo (f : Nat → Int) (k : Nat) : List Int := (List.range k).map f
theorem upTo_len (f : Nat → Int) (k : Nat) : (upTo f k).length = k := by simp [upTo]
theorem upTo_succ (f : Nat → Int) (k : Nat) : upTo f k ++ [f k] = upTo f (k + 1) := by simp [upTo, List.range_succ]

theorem min_ite (x y : Int) : (if y < x then y else x) = min x y := by omega
theorem max_ite (x y : Int) : (if x < y then y else x) = max x y := by omega

theorem ints_shape {w : World} {v : Value} {xs : List Int} (h : Ints w v xs) : ∃ a cap, v = .slice a xs.length cap := by
  rcases h with ⟨a, cap, rfl, rfl⟩ | ⟨b, off, cap, rfl, _⟩
  · exact ⟨_, _, rfl⟩
  · exact ⟨_, _, rfl⟩

/-- The cells of a slice that is not empty. -/
theorem ints_cells {w : World} {v : Value} {xs : List Int} (h : Ints w v xs) (h0 : 0 < xs.length) : ∃ b off cap, v = .slice (some ⟨b, off, none⟩) xs.length cap ∧ Hid (∀ i, i < xs.length → w.cell? ⟨b, off + i, none⟩ = some (.int .i64 (xs.getD i 0))) := by
  rcases h with ⟨a, cap, rfl, rfl⟩ | ⟨b, off, cap, rfl, _, _, h⟩
  · simp at h0
  · exact ⟨_, _, _, rfl, h⟩

/-- .. with what is known of its capacity. -/
theorem ints_cap {w : World} {v : Value} {xs : List Int} (h : Ints w v xs) (h0 : 0 < xs.length) : ∃ b off cap, v = .slice (some ⟨b, off, none⟩) xs.length cap ∧ xs.length ≤ cap ∧ cap ≤ 9223372036854775807 ∧ Hid (∀ i, i < xs.length → w.cell? ⟨b, off + i, none⟩ = some (.int .i64 (xs.getD i 0))) := by
  rcases h with ⟨a, cap, rfl, rfl⟩ | ⟨b, off, cap, rfl, _, hcap, h⟩
  · simp at h0
  · exact ⟨_, _, _, rfl, hcap.1, hcap.2, h⟩

set_option maxHeartbeats 1000000 in
theorem sameInts_slice (b off cap b' off' cap' : Nat) (xs : List Int) (n : Nat) (w : World) (hm : n ≤ 9223372036854775807)
    (hx : Hid (∀ i, i < n → w.cell? ⟨b, off + i, none⟩ = some (.int .i64 (xs.getD i 0)))) (hy : Hid (∀ i, i < n → w.cell? ⟨b', off' + i, none⟩ = some (.int .i64 (xs.getD i 0)))) :
    Calls Tryd.prog 19 #[.slice (some ⟨b, off, none⟩) n cap, .slice (some ⟨b', off', none⟩) n cap'] w fun e w' => e = .returned (.bool true) ∧ Gr w w' := by
  go_enter Tryd.func19, Tryd.ntmps19
  go_wp2
  go_loopw [5] (fun i wr => ∃ k : Nat, k ≤ n ∧ i = .int .i64 k ∧ Hid (Gr w wr)) (fun i _ => n - (intOf i).toNat)
  case atStart => exact ⟨0, Nat.zero_le _, rfl, Gr.refl _⟩
  case round =>
    obtain ⟨k, hk, rfl, HG⟩ := hrel
    by_cases hlt : k < n
    · have c1 := HG.out.cell (hx.out k hlt)
      have c2 := HG.out.cell (hy.out k hlt)
      generalize xs.getD k 0 = x at c1 c2
      go_wp2
      go_quiet (fail)
      go_wp2
      go_roundw
      case rel => exact ⟨k + 1, by omega, by go_num, HG.out.drewN _⟩
      case measure => simp [intOf]; omega
    · go_wp2
      go_ret
      exact ⟨rfl, HG.out⟩
theorem sameInts_nil (a a' : Option Addr) (cap cap' : Nat) (w : World) :
    Calls Tryd.prog 19 #[.slice a 0 cap, .slice a' 0 cap'] w fun e w' => e = .returned (.bool true) ∧ Gr w w' := by
  go_enter Tryd.func19, Tryd.ntmps19
  go_wp2
  refine wp_loop_rounds 1 ?_
  rw [rounds_succ]
  go_wp2
  go_ret
  exact ⟨rfl, Gr.refl _⟩
/-- sameInts at two slices that hold the same. -/
theorem sameInts_any {v u : Value} {xs : List Int} (w : World) (hx : Ints w v xs) (hy : Ints w u xs) :
    Calls Tryd.prog 19 #[v, u] w fun e w' => e = .returned (.bool true) ∧ Gr w w' := by
  rcases Nat.eq_zero_or_pos xs.length with h0 | h0
  · obtain ⟨a, cap, rfl⟩ := ints_shape hx
    obtain ⟨a', cap', rfl⟩ := ints_shape hy
    rw [h0]
    exact sameInts_nil a a' cap cap' w
  · have hm := hx.len
    obtain ⟨b, off, cap, rfl, hc⟩ := ints_cells hx h0
    obtain ⟨b', off', cap', rfl, hc'⟩ := ints_cells hy h0
    exact sameInts_slice b off cap b' off' cap' xs _ w hm hc hc'
end Go.Proofs.YtogmjjaoflaogaaDoor

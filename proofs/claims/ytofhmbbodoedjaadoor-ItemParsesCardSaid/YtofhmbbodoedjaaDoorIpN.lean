/-
  strings.Split at a line; sameItems; texts that are too long.
-/
import Derived.Test.YtofhmbbodoedjaaDoorIpK
namespace Go.Proofs.YtofhmbbodoedjaaDoor
open Go Go.RowKit Go.Shelf

theorem pcs_len {c s : ByteArray} (hc : 1 ≤ c.size) : (pcs c s).length = Lib.countB s c + 1 := Lib.splitB_all c hc 0 _ s rfl
theorem split_g (s c : ByteArray) (hs : s.size ≤ 20001) (hc : 1 ≤ c.size) (w : World) (h : Env w) : Calls Tryd.prog 9 #[.string s, .string c] w fun e w' => e = .returned (.slice (some ⟨w.heap.size, 0, none⟩) (pcs c s).length (pcs c s).length) ∧ w' = w.alloc (.cells ((pcs c s).map Value.string).toArray 9) := by
  obtain ⟨m, hm⟩ := h.mx
  rw [pcs_len hc]
  exact Tryd.strings_Split s c m w (by omega) hm hc
theorem split_cell (w : World) (L : List ByteArray) (ty : TypeId) {k : Nat} (hk : k < L.length) : (w.alloc (.cells (L.map Value.string).toArray ty)).cell? ⟨w.heap.size, k, none⟩ = some (.string (L.getD k ⟨#[]⟩)) := by
  rw [cell_of_row _ _ k _ _ _ (heap_alloc_new w _)]
  simp [hk]
set_option maxHeartbeats 4000000 in
theorem sameItems_slice (b off cap b' off' cap' : Nat) (xs : List Itm) (n : Nat) (w : World) (hm : n ≤ 9223372036854775807)
    (hx : Hid (∀ i, i < n → ItemAt w b (off + i * 5) (xs.getD i .zero))) (hy : Hid (∀ i, i < n → ItemAt w b' (off' + i * 5) (xs.getD i .zero))) :
    Calls Tryd.prog 7 #[.slice (some ⟨b, off, none⟩) n cap, .slice (some ⟨b', off', none⟩) n cap'] w fun e w' => e = .returned (.bool true) ∧ Gr w w' := by
  go_enter Tryd.func7, Tryd.ntmps7
  go_wp2
  go_loopw [5] (fun i wr => ∃ k : Nat, k ≤ n ∧ i = .int .i64 k ∧ Hid (Gr w wr)) (fun i _ => n - (intOf i).toNat)
  case atStart => exact ⟨0, Nat.zero_le _, rfl, Gr.refl _⟩
  case round =>
    obtain ⟨k, hk, rfl, HG⟩ := hrel
    by_cases hlt : k < n
    · have h1 := (hx.out k hlt).gr HG.out
      have h2 := (hy.out k hlt).gr HG.out
      generalize xs.getD k .zero = x at h1 h2
      obtain ⟨a0, a1, a2, a3, a4⟩ := x
      obtain ⟨c0, c1, c2, c3, c4⟩ := h1
      obtain ⟨d0, d1, d2, d3, d4⟩ := h2
      simp only at c0 c1 c2 c3 c4 d0 d1 d2 d3 d4
      go_wp2
      go_quiet (fail)
      go_wp2
      go_roundw
      case rel => exact ⟨k + 1, by omega, by go_num, HG.out.drewN _⟩
      case measure => simp [intOf]; omega
    · go_wp2
      go_ret
      exact ⟨rfl, HG.out⟩
theorem sameItems_nil (a a' : Option Addr) (cap cap' : Nat) (w : World) :
    Calls Tryd.prog 7 #[.slice a 0 cap, .slice a' 0 cap'] w fun e w' => e = .returned (.bool true) ∧ Gr w w' := by
  go_enter Tryd.func7, Tryd.ntmps7
  go_wp2
  refine wp_loop_rounds 1 ?_
  rw [rounds_succ]
  go_wp2
  go_ret
  exact ⟨rfl, Gr.refl _⟩
/-- sameItems at two slices that hold the same. -/
theorem sameItems_any {v u : Value} {xs : List Itm} (w : World) (hx : Items w v xs) (hy : Items w u xs) :
    Calls Tryd.prog 7 #[v, u] w fun e w' => e = .returned (.bool true) ∧ Gr w w' := by
  rcases Nat.eq_zero_or_pos xs.length with h0 | h0
  · obtain ⟨a, cap, rfl⟩ := items_shape hx
    obtain ⟨a', cap', rfl⟩ := items_shape hy
    rw [h0]
    exact sameItems_nil a a' cap cap' w
  · have hm := hx.len
    obtain ⟨b, off, cap, rfl, _, _, hc⟩ := items_cells hx h0
    obtain ⟨b', off', cap', rfl, _, _, hc'⟩ := items_cells hy h0
    exact sameItems_slice b off cap b' off' cap' xs _ w hm hc hc'
attribute [local go_sem] Oper.semAt_some
set_option maxRecDepth 100000 in
set_option maxHeartbeats 4000000 in
theorem parse_big (t : ByteArray) (ht : 20000 < t.size) (w : World) : Calls Tryd.prog 5 #[.string t] w fun e w' => e = .returned (.tuple #[.slice none 0 0, .iface 23 (.int .i64 4)]) ∧ Gr w w' := by
  obtain ⟨n, hn⟩ : ∃ n, n = t.size := ⟨_, rfl⟩
  have HN := Lib.hid hn
  have hlen : ∀ w ty, (Builtin.len_ #[9] ty #[.string t]).run Tryd.prog w = .ok (.int .i64 (n : Int)) w := fun w ty => by rw [HN.out]; simp [go_sem, Tryd.underlying9]
  rw [← hn] at ht
  have n1 : (20000 : Int) < (n : Int) := by omega
  clear hn ht
  refine (callsIn_wide (n := 4)).1 ?_
  refine callsIn_of_wp_marks Tryd.func5 rfl trivial ?_ rfl
  simp only [Tryd.ntmps5, List.size_toArray, List.length_cons, List.length_nil, Nat.reduceAdd, Nat.reduceSub, Array.replicate_succ, Array.replicate_zero, List.push_toArray, List.append_toArray, List.nil_append, List.cons_append]
  gi_wp2
  exact ⟨.tuple #[.slice none 0 0, .iface 23 (.int .i64 4)], by simp [results, Tryd.results5, go_sem], rfl, ((Gr.refl w).alloc _).alloc _⟩
end Go.Proofs.YtofhmbbodoedjaaDoor

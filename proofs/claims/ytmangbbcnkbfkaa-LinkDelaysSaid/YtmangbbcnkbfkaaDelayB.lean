/-
  The law LinkDelays at every input.
-/
import Derived.Test.YtmangbbcnkbfkaaDelayA
namespace Go.Proofs.Ytmangbbcnkbfkaa
open Go.RowKit Go.Extern.Stop Go.Stop Go.Extern

set_option maxRecDepth 100000 in
set_option maxHeartbeats 4000000 in
theorem linkDelays_walk (w : World) {v0 a b : Value} {n : Nat} {A : Nat → Nat → Int} {x y : Int} (hx : Recs 5 w v0 n A) (_hb : ∀ i, i < n → ∀ j, j < 5 → Bd (A i j)) (hy : ∃ k F, Recs 4 w a k F ∧ ∀ i, i < k → ∀ j, j < 4 → Bd (F i j)) (hz : ∃ a' l c, b = .slice a' l c) :
    Calls Try.prog 3 #[v0, .agg #[a, b, .int .i64 x, .int .i64 y]] w fun e w' => e = .returned (.bool true) ∧ Gr w w' := by
  obtain ⟨m, S, hS, _⟩ := hy
  have hln := hx.len
  have hlm := hS.len
  obtain ⟨a0, cap, rfl, hx'⟩ := hx.any
  obtain ⟨a1, cap1, rfl, hS'⟩ := hS.any
  by_cases hn : n ≤ 150
  · by_cases hm : m ≤ 150
    · exact linkDelays_ok a0 a1 cap n cap1 m b x y w hn hm hx' hS' hz
    · obtain ⟨la, ll, lc, rfl⟩ := hz
      have hgm : (150 : Int) < (m : Int) := by omega
      have hgn : (n : Int) ≤ 150 := by omega
      have hgr := Lib.hid ((Gr.refl w).alloc (.cells #[.slice a1 m cap1, .slice la ll lc, .int .i64 x, .int .i64 y] 26))
      go_enter Try.func3, Try.ntmps3
      go_wp2
      go_ret
      exact ⟨rfl, hgr.out⟩
  · obtain ⟨la, ll, lc, rfl⟩ := hz
    have hgn : (150 : Int) < (n : Int) := by omega
    have hgr := Lib.hid ((Gr.refl w).alloc (.cells #[.slice a1 m cap1, .slice la ll lc, .int .i64 x, .int .i64 y] 26))
    go_enter Try.func3, Try.ntmps3
    go_wp2
    go_ret
    exact ⟨rfl, hgr.out⟩
end Go.Proofs.Ytmangbbcnkbfkaa

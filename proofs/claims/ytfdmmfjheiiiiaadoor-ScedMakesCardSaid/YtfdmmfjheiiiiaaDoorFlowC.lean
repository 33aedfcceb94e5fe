/-
  sced.Fits and millraceref.ScedFits.
-/
import Derived.Test.YtfdmmfjheiiiiaaDoorFlowB
namespace Go.Proofs.YtfdmmfjheiiiiaaDoor
open Go.RowKit Go.Extern.Stop Go.Stop Go.Extern

set_option maxRecDepth 100000 in
set_option maxHeartbeats 4000000 in
theorem scheck_long (a : Option Addr) (n cap : Nat) (w : World) (hn : n ≤ 9223372036854775807) (h : n < 1 ∨ 8 < n) :
    Calls Tryd.prog 15 #[.slice a n cap] w fun e w' => e = .returned (.iface 26 (.int .i64 4)) ∧ Gr w w' := by
  have hm : (n : Int) ≤ 9223372036854775807 := by omega
  have hz : (0 : Int) ≤ (n : Int) := by omega
  have hh : (n : Int) < 1 ∨ 8 < (n : Int) := by omega
  clear h
  rcases hh with h | h
  · go_enter Tryd.func15, Tryd.ntmps15
    go_wp2
    all_goals (try (exfalso; omega))
    go_ret
    exact ⟨rfl, Gr.refl _⟩
  · go_enter Tryd.func15, Tryd.ntmps15
    go_wp2
    all_goals (try (exfalso; omega))
    go_ret
    exact ⟨rfl, Gr.refl _⟩
set_option maxRecDepth 100000 in
set_option maxHeartbeats 4000000 in
theorem rscheck_long (a : Option Addr) (n cap : Nat) (w : World) (hn : n ≤ 9223372036854775807) (h : n < 1 ∨ 8 < n) :
    Calls Tryd.prog 5 #[.slice a n cap] w fun e w' => e = .returned (.int .i64 4) ∧ Gr w w' := by
  go_enter Tryd.func5, Tryd.ntmps5
  go_wp2_with (go_at_call 11; refine (within_no _ _ _ _ (by omega)).mono ?_; rintro e w' ⟨rfl, rfl⟩)
  go_ret
  exact ⟨rfl, Gr.refl _⟩

theorem scAt_four {F : Nat → Flw} {n : Nat} (h : n < 1 ∨ 8 < n) : scCk F n = 4 := by unfold scCk; rw [if_pos h]
theorem scCk_cases {F : Nat → Flw} {n : Nat} (h : ¬ (n < 1 ∨ 8 < n)) : scCk F n = 0 ∧ (∀ i, i < n → scAt F i = 0) ∨ ∃ q, q < n ∧ (∀ i, i < q → scAt F i = 0) ∧ scAt F q = scCk F n ∧ scCk F n ≠ 0 := by
  unfold scCk
  rw [if_neg h]
  rcases first_cases (f := scAt F) n with h1 | ⟨q, h1, h2, h3⟩
  · exact .inl ⟨firstOf_zero h1, h1⟩
  · exact .inr ⟨q, h1, h2, (firstOf_at h2 h1 rfl h3).symm, by rw [firstOf_at h2 h1 rfl h3]; exact h3⟩

theorem scheck_any {v : Value} {n : Nat} {F : Nat → Flw} (w : World) (hF : Flows w v n F) : Calls Tryd.prog 15 #[v] w fun e w' => e = .returned (errV (scCk F n)) ∧ Gr w w' := by
  by_cases h : n < 1 ∨ 8 < n
  · obtain ⟨a, cap, rfl, hl, _⟩ := hF
    rw [scAt_four h, errV_ne (by decide)]
    exact scheck_long a n cap w hl h
  · rcases scCk_cases (F := F) h with ⟨h0, h1⟩ | ⟨q, h1, h2, h3, h4⟩
    · rw [h0, errV_zero rfl]
      exact scheck_ok w hF (by omega) (by omega) h1
    · rw [errV_ne h4]
      exact scheck_bad w hF (by omega) h1 h2 h3 h4
theorem rscheck_any {v : Value} {n : Nat} {F : Nat → Flw} (w : World) (hF : Flows w v n F) : Calls Tryd.prog 5 #[v] w fun e w' => e = .returned (.int .i64 (scCk F n)) ∧ Gr w w' := by
  by_cases h : n < 1 ∨ 8 < n
  · obtain ⟨a, cap, rfl, hl, _⟩ := hF
    rw [scAt_four h]
    exact rscheck_long a n cap w hl h
  · rcases scCk_cases (F := F) h with ⟨h0, h1⟩ | ⟨q, h1, h2, h3, h4⟩
    · rw [h0]
      exact rscheck_ok w hF (by omega) (by omega) h1
    · exact rscheck_bad w hF (by omega) h1 h2 h3 h4

/-- all promises of the first k flows at tick t -/
def proSum (F : Nat → Flw) (t : Nat) : Nat → Int
  | 0 => 0
  | k + 1 => proSum F t k + (F k).ps.getD t 0
/-- how far all of the first k promises go (from m on) -/
def proLen (F : Nat → Flw) (m : Nat) : Nat → Nat
  | 0 => m
  | k + 1 => min (proLen F m k) (F k).ps.length
theorem proLen_le {F : Nat → Flw} {m k i : Nat} (h : i < k) : proLen F m k ≤ (F i).ps.length := by
  induction k with
  | zero => omega
  | succ k ih =>
    rw [proLen]
    rcases Nat.lt_or_ge i k with h1 | h1
    · have := ih h1; omega
    · obtain rfl : i = k := by omega
      omega
theorem proLen_from {F : Nat → Flw} {m : Nat} (k : Nat) : proLen F m k ≤ m := by
  induction k with
  | zero => exact Nat.le_refl _
  | succ k ih => rw [proLen]; omega
theorem proLen_at {F : Nat → Flw} {m k : Nat} : proLen F m k = m ∨ ∃ i, i < k ∧ proLen F m k = (F i).ps.length := by
  induction k with
  | zero => exact .inl rfl
  | succ k ih =>
    rw [proLen]
    rcases Nat.lt_or_ge (F k).ps.length (proLen F m k) with h | h
    · exact .inr ⟨k, by omega, by omega⟩
    · rcases ih with e | ⟨i, h1, h2⟩
      · exact .inl (by omega)
      · exact .inr ⟨i, by omega, by omega⟩
/-- up to which tick they all fit -/
def fitsTo (F : Nat → Flw) (n : Nat) : Nat → Bool
  | 0 => true
  | t + 1 => fitsTo F n t && decide (proSum F t n ≤ (t : Int))
theorem curve_in {xs : List Int} (h : ckCurve xs = 0) {t : Nat} (ht : t < xs.length) : 0 ≤ xs.getD t 0 ∧ xs.getD t 0 ≤ 1000000000000 := by
  unfold ckCurve at h
  split at h
  · omega
  · have := firstOf_none h t ht
    unfold ckAt at this
    split at this
    · omega
    · omega
end Go.Proofs.YtfdmmfjheiiiiaaDoor

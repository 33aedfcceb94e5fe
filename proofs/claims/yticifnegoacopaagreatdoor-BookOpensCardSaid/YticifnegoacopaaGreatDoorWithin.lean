/-
  millraceref.within.
-/
import Derived.Test.YticifnegoacopaaGreatDoorErr
namespace Go.Proofs.YticifnegoacopaaGreatDoor
open Go.RowKit Go.Extern.Stop Go.Stop Go.Extern

theorem within_yes (a b c : Int) (w : World) (h1 : b ≤ a) (h2 : a ≤ c) :
    Calls Tryz.prog 24 #[.int .i64 a, .int .i64 b, .int .i64 c] w fun e w' => e = .returned (.bool true) ∧ w = w' := by
  go_enter Tryz.func24, Tryz.ntmps24
  go_wp2
  go_ret
  exact ⟨by simp, rfl⟩
theorem within_no (a b c : Int) (w : World) (h : a < b ∨ c < a) :
    Calls Tryz.prog 24 #[.int .i64 a, .int .i64 b, .int .i64 c] w fun e w' => e = .returned (.bool false) ∧ w = w' := by
  by_cases h1 : a < b
  · clear h
    go_enter Tryz.func24, Tryz.ntmps24
    go_wp2
    go_ret
    exact ⟨by simp, rfl⟩
  · have h2 : c < a := by omega
    clear h
    go_enter Tryz.func24, Tryz.ntmps24
    go_wp2
    go_ret
    exact ⟨by simp; omega, rfl⟩

theorem within_B (a b c : Int) (w : World) :
    Calls Tryz.prog 24 #[.int .i64 a, .int .i64 b, .int .i64 c] w fun e w' => ∃ B : Bool, e = .returned (.bool B) ∧ (B = true → b ≤ a ∧ a ≤ c) ∧ (B = false → a < b ∨ c < a) ∧ w = w' := by
  by_cases h : b ≤ a ∧ a ≤ c
  · exact (within_yes a b c w h.1 h.2).mono fun e w' h1 => ⟨true, h1.1, fun _ => h, (by intro hh; cases hh), h1.2⟩
  · exact (within_no a b c w (by omega)).mono fun e w' h1 => ⟨false, h1.1, (by intro hh; cases hh), fun _ => by omega, h1.2⟩
end Go.Proofs.YticifnegoacopaaGreatDoor

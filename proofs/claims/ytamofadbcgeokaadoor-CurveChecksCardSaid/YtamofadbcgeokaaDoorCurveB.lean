/-
  millracelaw.CurveChecks: the walk.
-/
import Derived.Test.YtamofadbcgeokaaDoorCurveA
namespace Go.Proofs.YtamofadbcgeokaaDoor
open Go.RowKit Go.Extern.Stop Go.Stop Go.Extern

theorem curveChecks_walk {v : Value} {xs : List Int} (w : World) (hg : Glob w) (h : Ints w v xs) :
    Calls Tryd.prog 4 #[v] w fun e w' => e = .returned (.bool true) ∧ Gr w w' := by
  have H := Lib.hid hg
  have HI := Lib.hid h
  clear hg
  have hlen := h.len
  have hv : ∃ a cap, v = .slice a xs.length cap := by
    rcases h with ⟨a, cap, rfl, rfl⟩ | ⟨b, off, cap, rfl, _⟩
    · exact ⟨_, _, rfl⟩
    · exact ⟨_, _, rfl⟩
  clear h
  obtain ⟨a, cap, rfl⟩ := hv
  generalize hn : xs.length = n at *
  have HN := Lib.hid hn
  clear hn
  by_cases h300 : 300 < n
  · go_enter Tryd.func4, Tryd.ntmps4
    go_wp2
    go_ret
    exact ⟨rfl, Gr.refl _⟩
  · go_enter Tryd.func4, Tryd.ntmps4
    go_wp2_with (first
      | (go_at_call 18; refine (check_any _ HI.out).mono ?_; rintro e w' ⟨v1, rfl, he, rfl⟩; have HE := Lib.hid he; clear he)
      | (go_at_call 19; refine (refcheck_any _ HI.out).mono ?_; rintro e w' ⟨rfl, rfl⟩)
      | (go_at_call 14; refine (law_bare _ _ H.out HE.out).mono ?_; rintro e w' ⟨rfl, hgr⟩))
    go_ret
    exact ⟨by simp, hgr⟩
end Go.Proofs.YtamofadbcgeokaaDoor

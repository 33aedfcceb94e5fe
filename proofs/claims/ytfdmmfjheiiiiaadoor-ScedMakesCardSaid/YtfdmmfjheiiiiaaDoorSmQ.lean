/-
  millracelaw.ScedMakes, walked.
-/
import Derived.Test.YtfdmmfjheiiiiaaDoorSmK
import Derived.Test.YtfdmmfjheiiiiaaDoorSmN
import Derived.Test.YtfdmmfjheiiiiaaDoorSmP
import Derived.Test.YtfdmmfjheiiiiaaDoorFlowG
namespace Go.Proofs.YtfdmmfjheiiiiaaDoor
open Go.RowKit Go.Extern.Stop Go.Stop Go.Extern

theorem scedMakes_walk (w : World) (hg : Glob w) {v : Value} {n : Nat} {F : Nat → Flw} (hF : Flows w v n F) (hn : n * 48 ≤ 140737488351232) (T : Int) (_ : -9223372036854775808 ≤ T) (_ : T ≤ 9223372036854775807) :
    Calls Tryd.prog 3 #[v, .int .i64 T] w fun e w' => e = .returned (.bool true) ∧ Gr w w' := by
  by_cases hc : scCk F n = 0
  · obtain ⟨⟨h1, h8⟩, hok⟩ := scCk_zero hc
    have hcm : ∀ i, i < n → Comes (F i).cs := fun i hi => (scAt_ok (hok i hi)).2.2.2
    have hcv : ∀ i, i < n → ckCurve (F i).ps = 0 := fun i hi => (scAt_ok (hok i hi)).1
    have hcl : ∀ i, i < n → (F i).cs.length ≤ 300 := fun i hi => by
      have h2 := (ckCurve_pos (hcv i hi)).2
      have h3 := (scAt_ok (hok i hi)).2.2.1
      omega
    rcases first_cases (f := fun i => if T < ((F i).cs.length : Int) ∨ ((F i).ps.length : Int) ≤ T then (1 : Int) else 0) n with h | ⟨q, hq, ho, hb⟩
    · have hokb : ∀ i, i < n → ¬ (T < ((F i).cs.length : Int) ∨ ((F i).ps.length : Int) ≤ T) := fun i hi hb => by
        have h2 := h i hi
        simp only [if_pos hb] at h2
        omega
      have hT0 : 0 ≤ T := by have := hokb 0 h1; omega
      obtain ⟨t, rfl⟩ := Int.eq_ofNat_of_zero_le hT0
      have hT : ∀ i, i < n → (F i).cs.length ≤ t ∧ t < (F i).ps.length := fun i hi => by have := hokb i hi; omega
      exact scedMakes_ok w hg hF hn t (planOf F n t hcm) ⟨rfl, rfl⟩ h1 h8 hc hcm hcl hokb (fun a c u hu => make_ok a c n t F u hu h1 h8 hc hcm hcv hT) (fun a c u hu => rmake_ok a c n t F u hu h1 h8 hcm hcv hT)
    · refine scedMakes_ticks w hg hF hn T h8 hc hcm hcl q hq (fun i hi hb' => ?_) ?_
      · have h2 := ho i hi
        simp only [if_pos hb'] at h2
        omega
      · refine Classical.byContradiction fun h2 => hb ?_
        simp only [if_neg h2]
  · exact scedMakes_flows w hg hF hn T hc
end Go.Proofs.YtfdmmfjheiiiiaaDoor

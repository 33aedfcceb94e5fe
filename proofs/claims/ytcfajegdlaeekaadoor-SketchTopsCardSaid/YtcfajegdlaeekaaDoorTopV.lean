/-
  The law's samePairs: two slices of like pairs are told alike.
-/
import Derived.Test.YtcfajegdlaeekaaDoorTopB
import Derived.Test.YtcfajegdlaeekaaDoorApp
import Derived.BigQuiet
namespace Go.Proofs.YtcfajegdlaeekaaDoor
open Go Go.RowKit

set_option maxRecDepth 100000 in
set_option maxHeartbeats 2000000 in
theorem samePairs_any {w : World} {va vb : Value} {L : List (Int × Int)} (ha : PRow 44 w va L) (hb : PRow 45 w vb L) (hl : L.length ≤ 1000) :
    Calls Tryd.prog 7 #[va, vb] w fun e w' => e = .returned (.bool true) ∧ Gr w w' := by
  have HA := Lib.hid ha
  have HB := Lib.hid hb
  obtain ⟨a1, c1, rfl⟩ := ha.shape
  obtain ⟨a2, c2, rfl⟩ := hb.shape
  clear ha hb
  obtain ⟨n, hn⟩ : ∃ n, n = L.length := ⟨_, rfl⟩
  have HN := Lib.hid hn
  rw [← hn] at hl ⊢
  clear hn
  go_enter Tryd.func7, Tryd.ntmps7
  go_wp2
  go_loopw [5] (fun i wr => ∃ k : Nat, k ≤ n ∧ i = .int .i64 k ∧ Hid (Gr w wr)) (fun i _ => n - (intOf i).toNat)
  case atStart => exact ⟨0, Nat.zero_le _, rfl, Gr.refl _⟩
  case round =>
    obtain ⟨k, hk, rfl, HG⟩ := hrel
    by_cases hlt : k < n
    · have hkl : k < L.length := by rw [← HN.out]; exact hlt
      obtain ⟨ga, oa, ka, ea, _⟩ := Row.cells HA.out (by omega)
      obtain ⟨gb, ob, kb, eb, _⟩ := Row.cells HB.out (by omega)
      cases ea
      cases eb
      obtain ⟨x1, x2⟩ := PRow.at (HA.out.gr HG.out) hkl
      obtain ⟨y1, y2⟩ := PRow.at (HB.out.gr HG.out) hkl
      generalize L.getD k (0, 0) = p at x1 x2 y1 y2
      obtain ⟨p, q⟩ := p
      simp only at x1 x2 y1 y2
      have k0 : (0 : Int) ≤ (k : Int) := by omega
      have k1 : (k : Int) < (n : Int) := by omega
      clear hkl
      go_wp2
      go_quiet (fail)
      go_wp2
      go_roundw
      case rel => exact ⟨k + 1, by omega, by go_num, HG.out.drewN _⟩
      case measure => simp [intOf]; omega
    · go_wp2
      go_ret
      exact ⟨rfl, HG.out⟩
end Go.Proofs.YtcfajegdlaeekaaDoor

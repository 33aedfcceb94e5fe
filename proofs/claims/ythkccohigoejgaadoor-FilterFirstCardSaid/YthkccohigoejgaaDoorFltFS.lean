/-
  The frame of FilterFirst: a slice of texts that came in.
-/
import Derived.Test.YthkccohigoejgaaDoorFltF
import Derived.Test.YthkccohigoejgaaDoorFltGW
namespace Go.Proofs.YthkccohigoejgaaDoor
open Go.ChangeShapes Go.WideShapes Go.ChangeAt Go.RowKit Go.Deep

set_option maxRecDepth 100000 in
theorem strs_of_trod {H : Type} {enc : TypeId × Value → H} {W : World} {base : Nat} {v : Value} {d : DataW H} {ps : List MemPlace} (hok : Value.okWide Tryd.prog W .any base 38 v) (h : DataW.Trod enc Tryd.prog W 0 (fun _ => true) true 38 v d ps) :
    ∃ (n : Nat) (T : Nat → ByteArray), StrsAt W v n T := by
  obtain ⟨a, len, cap, rfl⟩ := okWide_slice Tryd.underlying38 hok
  obtain ⟨fuel, hf⟩ := h
  rcases open_strs Tryd.underlying38 Tryd.underlying9 cellsStr hf with ⟨hcs, _⟩ | ⟨a', len', cap', m, Sx, hcs, _, hl, _, hm, _, hcell⟩
  · simp [Value.cells] at hcs
    obtain ⟨rfl, rfl, rfl⟩ := hcs
    exact ⟨0, fun _ => ⟨#[]⟩, none, 0, rfl, fun h => absurd h (by decide)⟩
  · simp [Value.cells] at hcs
    obtain ⟨rfl, rfl, rfl⟩ := hcs
    have hlm : len ≤ m := by rw [hm]; split <;> omega
    refine ⟨len, Sx, some a', cap, rfl, fun h0 => ?_⟩
    obtain ⟨b, o, sp⟩ := a'
    have c0 := (hcell 0 (by omega)).1
    have hsp : sp = none := by
      cases sp with
      | none => rfl
      | some z =>
        simp [Addr.add, World.cell?] at c0
        split at c0 <;> cases c0
    subst hsp
    exact ⟨b, o, rfl, fun j hj => by have h9 := (hcell j (by omega)).1; rwa [addr_add] at h9⟩
end Go.Proofs.YthkccohigoejgaaDoor

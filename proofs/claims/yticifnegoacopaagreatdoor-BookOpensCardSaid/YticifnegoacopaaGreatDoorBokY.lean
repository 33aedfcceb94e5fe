/-
  millracelaw.same, at two slices that hold the same strings; slices of strings, of bools that came in.
-/
import Derived.Test.YticifnegoacopaaGreatDoorBokX
import Derived.Test.YticifnegoacopaaGreatDoorBokH
import Derived.Test.YticifnegoacopaaGreatDoorBokZ
namespace Go.Proofs.YticifnegoacopaaGreatDoor
open Go Go.RowKit

/-- The slice v holds the n strings T. -/
def StrsAt (W : World) (v : Value) (n : Nat) (T : Nat → ByteArray) : Prop := ∃ a cap, v = .slice a n cap ∧ (0 < n → ∃ b off, a = some ⟨b, off, none⟩ ∧ ∀ j, j < n → W.cell? ⟨b, off + j, none⟩ = some (.string (T j)))
theorem StrsAt.gr {w w' : World} {v : Value} {n : Nat} {T : Nat → ByteArray} (h : StrsAt w v n T) (g : Gr w w') : StrsAt w' v n T := by
  obtain ⟨a, c, e, h1⟩ := h
  refine ⟨a, c, e, fun h0 => ?_⟩
  obtain ⟨b, off, e2, h2⟩ := h1 h0
  exact ⟨b, off, e2, fun j hj => g.cell (h2 j hj)⟩
theorem StrRow.strs {w : World} {v : Value} {N : List ByteArray} (h : StrRow w v N) : StrsAt w v N.length fun j => N.getD j ⟨#[]⟩ := by
  obtain ⟨a, c, e⟩ := Row.shape h
  refine ⟨a, c, e, fun h0 => ?_⟩
  obtain ⟨g, off, cap, e2, _, _, hc⟩ := Row.cells h h0
  rw [e] at e2
  cases e2
  refine ⟨g, off, rfl, fun j hj => hc j _ ?_⟩
  rw [List.getElem?_map, List.getElem?_eq_getElem hj]
  show _ = some (Value.string (N.getD j ⟨#[]⟩))
  rw [List.getD_eq_getElem?_getD, List.getElem?_eq_getElem hj]
  rfl
theorem NameRow.gr {w w' : World} {v : Value} {N : List ByteArray} (h : NameRow w v N) (k : Gr w w') : NameRow w' v N := by
  obtain ⟨b, h⟩ := h
  refine ⟨b, ownsRow_same h fun g hg => ?_⟩
  rcases h.2 with ⟨e, _⟩ | ⟨g', _, cur, e, _, hh, _⟩
  · rw [e] at hg; cases hg
  · rw [e] at hg
    obtain rfl := Option.some.inj hg
    exact k.block (Array.getElem?_eq_some_iff.1 hh).1
theorem NameRow.strs {w : World} {v : Value} {N : List ByteArray} (h : NameRow w v N) : StrsAt w v N.length fun j => N.getD j ⟨#[]⟩ := by
  obtain ⟨b, h⟩ := h
  rcases h.2 with ⟨e, hn⟩ | ⟨g, cap, cur, e, _, hh, hc, _, hcs, ht⟩
  · exact ⟨none, 0, by rw [e, hn], fun h0 => by omega⟩
  · refine ⟨_, _, e, fun h0 => ⟨g, 0, rfl, fun j hj => ?_⟩⟩
    rw [cell_of_row w g _ cur _ (0, 0) hh, Nat.zero_add]
    have h1 : (cur.toList.take (N.length * 1))[j]? = (N.map Value.string)[j]? := by rw [ht]
    rw [List.getElem?_take, if_pos (by omega), Array.getElem?_toList, List.getElem?_map, List.getElem?_eq_getElem hj] at h1
    rw [h1]
    show _ = some (Value.string (N.getD j ⟨#[]⟩))
    rw [List.getD_eq_getElem?_getD, List.getElem?_eq_getElem hj]
    rfl

set_option maxRecDepth 100000 in
set_option maxHeartbeats 4000000 in
theorem same_any {w : World} {v u : Value} {n : Nat} {T : Nat → ByteArray} (hv : StrsAt w v n T) (hu : StrsAt w u n T) (hn : n ≤ 100000) : Calls Tryz.prog 15 #[v, u] w fun e w' => e = .returned (.bool true) ∧ Gr w w' := by
  obtain ⟨a, c, rfl, hv⟩ := hv
  obtain ⟨a', c', rfl, hu⟩ := hu
  have HV := Lib.hid hv
  have HU := Lib.hid hu
  have n0 : (0 : Int) ≤ (n : Int) := by omega
  have n1 : (n : Int) ≤ 100000 := by omega
  have HG0 := Lib.hid (Gr.refl w)
  clear hv hu
  go_enter Tryz.func15, Tryz.ntmps15
  go_wp2
  go_loopw [5] (fun s5 wr => ∃ i : Nat, i ≤ n ∧ s5 = .int .i64 (i : Int) ∧ Hid (Gr w wr)) (fun s _ => n - (intOf s).toNat)
  case atStart => exact ⟨0, Nat.zero_le _, rfl, HG0⟩
  case round =>
    clear HG0
    obtain ⟨i, hi, rfl, HG⟩ := hrel
    by_cases hlt : i < n
    · obtain ⟨b, off, rfl, h1⟩ := HV.out (by omega)
      obtain ⟨b', off', rfl, h2⟩ := HU.out (by omega)
      have k1 := HG.out.cell (h1 i hlt)
      have k2 := HG.out.cell (h2 i hlt)
      have i0 : (0 : Int) ≤ (i : Int) := by omega
      have i1 : (i : Int) < (n : Int) := by omega
      clear h1 h2
      generalize T i = x at *
      go_wp2
      go_quiet (fail)
      go_wp2
      go_roundw
      case rel => exact ⟨i + 1, by omega, by go_num, Lib.hid (HG.out.drewN _)⟩
      case measure => simp [intOf]; omega
    · obtain rfl : i = n := by omega
      go_wp2
      go_ret
      exact ⟨rfl, HG.out⟩
end Go.Proofs.YticifnegoacopaaGreatDoor

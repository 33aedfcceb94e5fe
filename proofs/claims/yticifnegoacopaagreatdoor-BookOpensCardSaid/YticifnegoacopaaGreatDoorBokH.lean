/-
  The program's Names.
-/
import Derived.Test.YticifnegoacopaaGreatDoorBokI
import Derived.Test.YticifnegoacopaaGreatDoorBokP
import Derived.OwnWalkIn
import Derived.TacticsInMore
namespace Go.Proofs.YticifnegoacopaaGreatDoor
open Go Go.RowKit Go.Maps Go.Sort Go.Shelf

/-- A slice of the call's own that holds the names. -/
def NameRow (w : World) (v : Value) (xs : List ByteArray) : Prop := ∃ b, w.ownsRow b 9 1 v xs.length (xs.map Value.string)
theorem enc_toB (l : List UInt8) : encStr l = Value.string (toB l) := rfl
theorem enc_names (N : List ByteArray) : (N.map fun b => b.data.toList).map encStr = N.map Value.string := by
  rw [List.map_map]
  refine List.map_congr_left fun b _ => ?_
  show encStr b.data.toList = Value.string b
  rw [enc_toB, toB_list]

set_option maxRecDepth 100000 in
set_option maxHeartbeats 4000000 in
theorem names_some {w : World} {n0 p s b : Nat} {L : List Ent} {dv : Value} (h : BokAt w n0 p L s (.map (some b)) dv) : Calls Tryz.prog 16 #[.pointer (some ⟨p, 0, none⟩)] w fun e w' => ∃ v, e = .returned v ∧ NameRow w' v (namesOf L) ∧ Gr w w' := by
  have c0 := h.c0
  obtain ⟨D, hown, hD⟩ : ∃ D : DataW Unit, w.ownsMap Tryz.prog 9 (plainElem Tryz.prog 3) b L.length D ∧ ∀ ss : List (List UInt8), ss.Perm (strKeys D) → ss.mergeSort leB = (namesOf L).map fun b => b.data.toList := by
    rcases h.map with ⟨e, _⟩ | ⟨b', e, _, D, h1, _, h3⟩
    · cases e
    · cases e
      exact ⟨D, h1, fun ss hp => MapS.keys h1 h3 hp⟩
  have hfew := h.ok.1
  have hsz := hown.size_le
  have HD := Lib.hid hD
  have hmax : Maps.size D ≤ maxLen := by unfold maxLen; omega
  have hbytes : Maps.size D * 16 ≤ 140737488355328 := by omega
  have HO := Lib.hid (And.intro hown (And.intro hmax hbytes))
  clear h hD hown hmax hbytes hsz hfew
  refine (callsIn_wide (n := 6)).1 ?_
  have hfK : Fence.wide.fn 28 := trivial
  have hfS : Fence.wide.fn 27 := trivial
  refine callsIn_of_wp Tryz.func16 rfl trivial ?_ rfl
  simp only [Tryz.ntmps16, List.size_toArray, List.length_cons, List.length_nil, Nat.reduceAdd, Nat.reduceSub, Array.replicate_succ, Array.replicate_zero, List.push_toArray, List.append_toArray, List.nil_append, List.cons_append]
  gi_wp2_with (first
    | (gi_at_call 28; refine (Tryz.maps_Keys_28 _ _).mono ?_; rintro e w' ⟨rfl, rfl⟩)
    | (gi_at_call 27; refine (Tryz.slices_Sorted_keys_27_28 b L.length D _ w HO.out.1 HO.out.2.1 HO.out.2.2).mono ?_; rintro e w' ⟨v, ss, rfl, hS, hrow, hnil, hb⟩))
  go_ret
  have e1 := HD.out ss hS
  have e2 : ss.length = (namesOf L).length := by
    have := congrArg List.length e1
    rw [List.length_mergeSort, List.length_map] at this
    exact this
  refine ⟨v, rfl, ⟨(w.alloc (.cells #[.map (some b)] 26)).heap.size, ?_⟩, ((Below.refl _ w).alloc (Nat.le_refl _) _).trans (hb.mono (by simp))⟩
  rw [← e2, ← enc_names, ← e1]
  exact hrow
set_option maxRecDepth 100000 in
set_option maxHeartbeats 4000000 in
theorem names_none {w : World} {n0 p s : Nat} {L : List Ent} {dv : Value} (h : BokAt w n0 p L s (.map none) dv) : Calls Tryz.prog 16 #[.pointer (some ⟨p, 0, none⟩)] w fun e w' => ∃ v, e = .returned v ∧ NameRow w' v (namesOf L) ∧ Gr w w' := by
  have c0 := h.c0
  have hL : L = [] := by
    rcases h.map with ⟨_, e⟩ | ⟨b', e, _⟩
    · exact e
    · cases e
  have HL := Lib.hid hL
  clear h hL
  refine (callsIn_wide (n := 6)).1 ?_
  have hfK : Fence.wide.fn 28 := trivial
  have hfS : Fence.wide.fn 27 := trivial
  refine callsIn_of_wp Tryz.func16 rfl trivial ?_ rfl
  simp only [Tryz.ntmps16, List.size_toArray, List.length_cons, List.length_nil, Nat.reduceAdd, Nat.reduceSub, Array.replicate_succ, Array.replicate_zero, List.push_toArray, List.append_toArray, List.nil_append, List.cons_append]
  gi_wp2_with (first
    | (gi_at_call 28; refine (Tryz.maps_Keys_28 _ _).mono ?_; rintro e w' ⟨rfl, rfl⟩)
    | (gi_at_call 27; refine (Tryz.slices_Sorted_keys_nil_27_28 w).mono ?_; rintro e w' ⟨v, ss, rfl, hS, hrow, hnil, hb⟩))
  go_ret
  refine ⟨v, rfl, ⟨0, ?_⟩, ((Below.refl _ w).alloc (Nat.le_refl _) _).trans (hb.mono (by simp))⟩
  rw [HL.out, hnil.2 hS]
  exact World.ownsRow_nil w' 0 _ _
/-- The program's Names. -/
theorem names_any {w : World} {n0 p s : Nat} {L : List Ent} (h : Bok w n0 p L s) : Calls Tryz.prog 16 #[.pointer (some ⟨p, 0, none⟩)] w fun e w' => ∃ v, e = .returned v ∧ NameRow w' v (namesOf L) ∧ Gr w w' := by
  obtain ⟨mv, dv, h⟩ := h
  rcases h.map with ⟨rfl, _⟩ | ⟨b, rfl, _⟩
  · exact names_none h
  · exact names_some h
end Go.Proofs.YticifnegoacopaaGreatDoor

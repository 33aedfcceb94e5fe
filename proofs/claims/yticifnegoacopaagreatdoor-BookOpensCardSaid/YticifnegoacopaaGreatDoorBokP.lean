/-
  The program's book: Get, Lines, Sync.
-/
import Derived.Test.YticifnegoacopaaGreatDoorBokS
import Derived.Test.YticifnegoacopaaGreatDoorBokO
namespace Go.Proofs.YticifnegoacopaaGreatDoor
open Go Go.RowKit

section
variable {w w' : World} {n0 p s : Nat} {L : List Ent} {mv dv : Value}
theorem BokAt.c0 (h : BokAt w n0 p L s mv dv) : w.cell? ⟨p, 0, none⟩ = some mv := cell_of_row w p 0 _ _ _ h.blk
theorem BokAt.c1 (h : BokAt w n0 p L s mv dv) : w.cell? ⟨p, 1, none⟩ = some (.int .i64 (L.length : Int)) := cell_of_row w p 1 _ _ _ h.blk
theorem BokAt.c2 (h : BokAt w n0 p L s mv dv) : w.cell? ⟨p, 2, none⟩ = some dv := cell_of_row w p 2 _ _ _ h.blk
theorem BokAt.c3 (h : BokAt w n0 p L s mv dv) : w.cell? ⟨p, 3, none⟩ = some (.int .i64 (s : Int)) := cell_of_row w p 3 _ _ _ h.blk
theorem BokAt.fz (h : BokAt w n0 p L s mv dv) (o : Nat) : w.frozen? ⟨p, o, none⟩ = false := by
  unfold World.frozen?
  simp [h.blk]
theorem BokAt.shape (h : BokAt w n0 p L s mv dv) : ∃ a c, dv = .slice a (journal L).size c := by
  rcases h.data.2 with ⟨e, hn⟩ | ⟨g, cap, cur, e, _⟩
  · exact ⟨none, 0, by rw [e, hn]⟩
  · exact ⟨_, _, e⟩
theorem set_blk {w : World} {p o : Nat} {cs : Array Value} {T : TypeId} (h : w.heap[p]? = some (.cells cs T (0, 0))) (v : Value) : (w.setCell ⟨p, o, none⟩ v).heap[p]? = some (.cells (cs.setIfInBounds o v) T (0, 0)) := by
  simp [World.setCell, Array.getElem?_modify, h]
theorem BokAt.dataNe (h : BokAt w n0 p L s mv dv) {g : Nat} (hg : dv.ownBlock = some g) : g ≠ p := by
  rcases h.data.2 with ⟨e, _⟩ | ⟨g', _, cur, e, _, hh, _⟩
  · rw [e] at hg; cases hg
  · rw [e] at hg
    obtain rfl := Option.some.inj hg
    intro e2
    rw [show g' = p from e2, h.blk] at hh
    injection hh with e1
    injection e1 with _ e3
    exact absurd e3 (by decide)
theorem BokAt.mapNe (h : BokAt w n0 p L s mv dv) {b : Nat} (hm : MapS w b L) : b ≠ p := by
  obtain ⟨es, clock, h1⟩ := hm.isMap
  intro e
  rw [e, h.blk] at h1
  cases h1
/-- A cell of the book itself is set. -/
theorem BokAt.set (h : BokAt w n0 p L s mv dv) {s' : Nat} (hs : s' ≤ (journal L).size) : BokAt (w.setCell ⟨p, 3, none⟩ (.int .i64 (s' : Int))) n0 p L s' mv dv := by
  refine ⟨set_blk h.blk _, h.low, by simpa using h.old, ownsRow_same h.data fun g hg => Below.heap_setCell _ _ _ _ (h.dataNe hg), h.map.imp id ?_, h.ok, hs⟩
  rintro ⟨b, e, hb, hm⟩
  exact ⟨b, e, hb, hm.block (Below.heap_setCell _ _ _ _ (h.mapNe hm))⟩
end

set_option maxRecDepth 100000 in
set_option maxHeartbeats 4000000 in
/-- Get -/
theorem get_any {w : World} {n0 p s : Nat} {L : List Ent} (h : Bok w n0 p L s) (x : ByteArray) (hx : x.size ≤ 3000) : Calls Tryz.prog 12 #[.pointer (some ⟨p, 0, none⟩), .string x] w fun e w' => e = .returned (.int .i64 (getN L x)) ∧ w = w' := by
  obtain ⟨mv, dv, h⟩ := h
  have c0 := h.c0
  have HX := Lib.hid hx
  rcases h.map with ⟨rfl, rfl⟩ | ⟨b, rfl, _, hm⟩
  · clear h hx
    go_enter Tryz.func12, Tryz.ntmps12
    go_wp2_with (at_lookup; refine wpList_look_none (by rfl) _ _ (by rfl) (by rfl) x (by rfl) HX.out ?_)
    go_ret
    exact ⟨rfl, rfl⟩
  · have HM := Lib.hid hm
    clear h hm hx
    go_enter Tryz.func12, Tryz.ntmps12
    go_wp2_with (at_lookup; refine wpList_look_mapS (by rfl) _ _ (by rfl) b L (by rfl) HM.out x (by rfl) HX.out ?_)
    go_ret
    exact ⟨rfl, rfl⟩

set_option maxRecDepth 100000 in
set_option maxHeartbeats 4000000 in
/-- Lines -/
theorem lines_any {w : World} {n0 p s : Nat} {L : List Ent} (h : Bok w n0 p L s) : Calls Tryz.prog 14 #[.pointer (some ⟨p, 0, none⟩)] w fun e w' => e = .returned (.int .i64 (L.length : Int)) ∧ w = w' := by
  obtain ⟨mv, dv, h⟩ := h
  have c1 := h.c1
  clear h
  go_enter Tryz.func14, Tryz.ntmps14
  go_wp2
  go_ret
  exact ⟨rfl, rfl⟩

set_option maxRecDepth 100000 in
set_option maxHeartbeats 4000000 in
/-- Sync -/
theorem sync_any {w : World} {n0 p s : Nat} {L : List Ent} (h : Bok w n0 p L s) : Calls Tryz.prog 10 #[.pointer (some ⟨p, 0, none⟩)] w fun e w' => e = .returned (.tuple #[]) ∧ Bok w' n0 p L (journal L).size ∧ Kp badB n0 p w w' := by
  obtain ⟨mv, dv, h⟩ := h
  obtain ⟨a, c, rfl⟩ := h.shape
  have c2 := h.c2
  have c3 := h.c3
  have z3 := h.fz 3
  have HS := Lib.hid (h.set (Nat.le_refl _))
  have HK : Hid (Kp badB n0 p w (w.setCell ⟨p, 3, none⟩ (.int .i64 ((journal L).size : Int)))) := Lib.hid (Kp.set w 3 _)
  clear h
  generalize (journal L).size = n at *
  go_enter Tryz.func10, Tryz.ntmps10
  go_wp2
  go_end0
  exact ⟨rfl, ⟨_, _, HS.out⟩, HK.out⟩
end Go.Proofs.YticifnegoacopaaGreatDoor

/-
  The program's reader of words: take and fail, walked.
-/
import Derived.Test.YthkccohigoejgaaGreatDoorFltV
import Derived.BigQuiet
import Derived.StillTailTactics
import Derived.WalkKit
namespace Go.Proofs.YthkccohigoejgaaGreatDoor
open Go Go.RowKit

set_option maxRecDepth 100000 in
set_option maxHeartbeats 2000000 in
theorem take_hit {w0 w : World} {r m k : Nat} {L : List Tok} {e : Int} (h : Rd w0 w r m L k e) (s : ByteArray) {R : List Tok} (hs : isT s (L.drop k) = some R) :
    Calls Tryz.prog 21 #[.pointer (some ⟨r, 0, none⟩), .string s] w fun e' w' => e' = .returned (.bool true) ∧ R = L.drop (k + 1) ∧ Rd w0 w' r m L (k + 1) e ∧ Sav (fun q => q = r) w w' := by
  have hk : k < L.length := by
    rcases Nat.lt_or_ge k L.length with h1 | h1
    · exact h1
    · rw [List.drop_eq_nil_of_le h1] at hs; simp [isT] at hs
  rw [h.drop hk, isT_cons] at hs
  have heq : ((L.getD k tok0).1.toList == s.toList) = true := by
    by_cases hq : ((L.getD k tok0).1.toList == s.toList) = true
    · exact hq
    · rw [if_neg hq] at hs; cases hs
  rw [if_pos heq] at hs
  injection hs with hs
  have HR := Lib.hid hs.symm
  have HRD := Lib.hid h
  obtain ⟨a, c, g0, hA⟩ := h.ws
  obtain ⟨b, o, rfl, hb, _, hcell⟩ := hA (by omega)
  have g2 := h.c2
  have f2 := h.fz
  have x0 := hcell k hk
  have HL := Lib.hid h.hl
  clear h hA hcell hs
  generalize (L.getD k tok0).1 = u at heq x0
  have k0 : (0 : Int) ≤ (k : Int) := by omega
  have k1 : (k : Int) < (L.length : Int) := by omega
  have k2 : (L.length : Int) ≤ 2001 := by have := HL.out; omega
  go_enter Tryz.func21, Tryz.ntmps21
  go_wp2
  go_quiet (fail)
  go_wp2
  go_ret
  exact ⟨rfl, HR.out, (HRD.out.gr' ((Gr.refl w).drewN _)).move hk rfl, (Sav.of_gr ((Gr.refl w).drewN _)).then (Sav.set r 2 _)⟩
set_option maxRecDepth 100000 in
set_option maxHeartbeats 2000000 in
theorem take_miss {w0 w : World} {r m k : Nat} {L : List Tok} {e : Int} (h : Rd w0 w r m L k e) (s : ByteArray) (hs : isT s (L.drop k) = none) :
    Calls Tryz.prog 21 #[.pointer (some ⟨r, 0, none⟩), .string s] w fun e' w' => e' = .returned (.bool false) ∧ Gr w w' := by
  have HL := Lib.hid h.hl
  have hkl := h.hk
  have k0 : (0 : Int) ≤ (k : Int) := by omega
  have k2 : (L.length : Int) ≤ 2001 := by have := HL.out; omega
  obtain ⟨a, c, g0, hA⟩ := h.ws
  have g2 := h.c2
  by_cases hk : k < L.length
  · rw [h.drop hk, isT_cons] at hs
    have heq : ((L.getD k tok0).1.toList == s.toList) = false := by
      by_cases hq : ((L.getD k tok0).1.toList == s.toList) = true
      · rw [if_pos hq] at hs; cases hs
      · simpa using hq
    obtain ⟨b, o, rfl, _, _, hcell⟩ := hA (by omega)
    have x0 := hcell k hk
    clear h hA hcell hs
    generalize (L.getD k tok0).1 = u at heq x0
    have k1 : (k : Int) < (L.length : Int) := by omega
    go_enter Tryz.func21, Tryz.ntmps21
    go_wp2
    go_quiet (fail)
    go_wp2
    go_ret
    exact ⟨rfl, (Gr.refl w).drewN _⟩
  · obtain rfl : k = L.length := by omega
    clear h hA hs
    go_enter Tryz.func21, Tryz.ntmps21
    go_wp2
    go_quiet (fail)
    go_wp2
    go_ret
    exact ⟨rfl, (Gr.refl w).drewN _⟩
/-- u is an error of this number at this place, in block b. -/
def AtErr (w : World) (u : Value) (b : Nat) (c p : Int) : Prop := u = .iface 69 (.pointer (some ⟨b, 0, none⟩)) ∧ w.cell? ⟨b, 0, none⟩ = some (.int .i64 c) ∧ w.cell? ⟨b, 1, none⟩ = some (.int .i64 p)
theorem AtErr.gr {w w' : World} {u : Value} {b : Nat} {c p : Int} (h : AtErr w u b c p) (g : Gr w w') : AtErr w' u b c p := ⟨h.1, g.cell h.2.1, g.cell h.2.2⟩
set_option maxRecDepth 100000 in
set_option maxHeartbeats 2000000 in
theorem fail_any {w0 w : World} {r m k : Nat} {L : List Tok} {e : Int} (h : Rd w0 w r m L k e) (c : Int) :
    Calls Tryz.prog 13 #[.pointer (some ⟨r, 0, none⟩), .int .i64 c] w fun e' w' => ∃ u b, e' = .returned u ∧ AtErr w' u b c (placeOf e (L.drop k)) ∧ w.heap.size ≤ b ∧ Gr w w' := by
  have HL := Lib.hid h.hl
  have hkl := h.hk
  have k0 : (0 : Int) ≤ (k : Int) := by omega
  have k2 : (L.length : Int) ≤ 2001 := by have := HL.out; omega
  obtain ⟨a, ca, g0, _⟩ := h.ws
  obtain ⟨pa, pc, g1, hA⟩ := h.ps
  have g2 := h.c2
  have g3 := h.c3
  by_cases hk : k < L.length
  · obtain ⟨b, o, rfl, _, _, hcell⟩ := hA (by omega)
    have x0 := hcell k hk
    have hpl : placeOf e (L.drop k) = (L.getD k tok0).2 := by rw [h.drop hk]; rfl
    rw [hpl]
    clear h hA hcell hpl
    generalize (L.getD k tok0).2 = u at x0
    have k1 : (k : Int) < (L.length : Int) := by omega
    go_enter Tryz.func13, Tryz.ntmps13
    go_wp2
    go_quiet (fail)
    go_wp2
    go_quiet (fail)
    go_wp2
    go_ret
    exact ⟨_, w.heap.size, rfl, ⟨rfl, alloc_cell (w.drewN _) _ rfl, alloc_cell (w.drewN _) _ rfl⟩, Nat.le_refl _, ((Gr.refl w).drewN _).alloc _⟩
  · obtain rfl : k = L.length := by omega
    have hpl : placeOf e (L.drop L.length) = e := by rw [List.drop_length]; rfl
    rw [hpl]
    clear h hA hpl
    go_enter Tryz.func13, Tryz.ntmps13
    go_wp2
    go_quiet (fail)
    go_wp2
    go_ret
    exact ⟨_, w.heap.size, rfl, ⟨rfl, alloc_cell (w.drewN _) _ rfl, alloc_cell (w.drewN _) _ rfl⟩, Nat.le_refl _, ((Gr.refl w).drewN _).alloc _⟩
/-- How a reading ends. -/
def PAns (w0 w w' : World) (r m d : Nat) (L : List Tok) (e : Int) (E : Ending) : PR → Prop
  | .ok f R => ∃ v k, E = .returned (.tuple #[v, .nilIface]) ∧ R = L.drop k ∧ Rd w0 w' r m L k e ∧ FltV (fun g => w.heap.size ≤ g) d w' v f ∧ Sav (fun q => q = r) w w'
  | .err c R => ∃ v u b, E = .returned (.tuple #[v, u]) ∧ isIf v ∧ AtErr w' u b c (placeOf e R) ∧ w.heap.size ≤ b ∧ Sav (fun q => q = r) w w'
/-- ErrX told where the reader is. -/
theorem PAns.fail {w0 w w1 w' : World} {r m d k : Nat} {L : List Tok} {e c : Int} {u : Value} {b : Nat} (s : Sav (fun q => q = r) w w1) (h : AtErr w' u b c (placeOf e (L.drop k))) (hb : w1.heap.size ≤ b) (g : Gr w1 w') : PAns w0 w w' r m d L e (.returned (.tuple #[.nilIface, u])) (.err c (L.drop k)) :=
  ⟨.nilIface, u, b, rfl, .inl rfl, h, Nat.le_trans s.size hb, s.then (Sav.of_gr g)⟩
theorem PAns.from {w0 w w1 w' : World} {r m d : Nat} {L : List Tok} {e : Int} {E : Ending} {p : PR} (s : Sav (fun q => q = r) w w1) (h : PAns w0 w1 w' r m d L e E p) : PAns w0 w w' r m d L e E p := by
  cases p with
  | ok f R =>
    obtain ⟨v, k, h1, h2, h3, h4, h5⟩ := h
    exact ⟨v, k, h1, h2, h3, h4.mono (fun g hg => Nat.le_trans s.size hg), s.then h5⟩
  | err c R =>
    obtain ⟨v, u, b, h1, h2, h3, h4, h5⟩ := h
    exact ⟨v, u, b, h1, h2, h3, Nat.le_trans s.size h4, s.then h5⟩
end Go.Proofs.YthkccohigoejgaaGreatDoor

/-
  sketch.Grid and millraceref.Cell.
-/
import Derived.Test.YtmangbbcnkbfkaaDoorErr
import Derived.Test.YtmangbbcnkbfkaaDoorSame
import Derived.Test.YtmangbbcnkbfkaaDoorBlk
import Derived.BigGuardPart
import Derived.Deep.RegionHeld3
namespace Go.Proofs.YtmangbbcnkbfkaaDoor
open Go.RowKit Go.Extern.Stop Go.Stop Go.Extern

/-- What a key is turned to in a row. -/
def gx (row : Nat) (key : Int) : Int := IntKind.u64.wrap (IntKind.u64.wrap (IntKind.u64.wrap key * (2 * (row : Int) + 3)) + 40503 * (row : Int))
def gcell (cells row : Nat) (key : Int) : Int := (bits BinOp.xor IntKind.u64 (gx row key) (gx row key / 128)).tmod (cells : Int)
/-- The cell of a key in a row. -/
def gc (cells row : Nat) (key : Int) : Nat := (gcell cells row key).toNat
theorem gx_in (row : Nat) (key : Int) : 0 ≤ gx row key ∧ gx row key < 18446744073709551616 := by
  unfold gx
  rw [IntKind.wrap_u64 (_ + _)]
  omega
theorem gc_in {cells row : Nat} {key : Int} (hc : 1 ≤ cells ∧ cells ≤ 1001) : gc cells row key < cells ∧ wrap64 (gcell cells row key) = (gc cells row key : Int) := by
  have h1 : 0 ≤ gcell cells row key := Int.tmod_nonneg _ (bits_lo_u64 _ _ _)
  have h2 : gcell cells row key < cells := Int.tmod_lt_of_pos _ (by omega)
  unfold gc
  refine ⟨by omega, ?_⟩
  rw [Int.toNat_of_nonneg h1]
  unfold wrap64
  omega
theorem gcell_ref {cells row : Nat} {key : Int} :
    (bits BinOp.xor IntKind.u64 (IntKind.u64.wrap (IntKind.u64.wrap (IntKind.u64.wrap key * (2 * (row : Int) + 3)) + 40503 * (row : Int)))
      (IntKind.u64.wrap ((IntKind.u64.wrap (IntKind.u64.wrap (IntKind.u64.wrap key * (2 * (row : Int) + 3)) + 40503 * (row : Int))).tdiv 128))).tmod (cells : Int) = gcell cells row key := by
  have h := gx_in row key
  have e : IntKind.u64.wrap ((gx row key).tdiv 128) = gx row key / 128 := by
    rw [Int.tdiv_eq_ediv_of_nonneg h.1, IntKind.wrap_u64]
    omega
  unfold gcell
  rw [← e]
  rfl
theorem gcell_own {cells row : Nat} {key : Int} :
    (bits BinOp.xor IntKind.u64 (IntKind.u64.wrap (IntKind.u64.wrap (IntKind.u64.wrap key * (2 * (row : Int) + 3)) + (row : Int) * 40503))
      (IntKind.u64.wrap (IntKind.u64.wrap (IntKind.u64.wrap key * (2 * (row : Int) + 3)) + (row : Int) * 40503) / 128)).tmod (cells : Int) = gcell cells row key := by
  rw [Int.mul_comm (row : Int) 40503]
  rfl

set_option maxRecDepth 100000 in
set_option maxHeartbeats 4000000 in
theorem rcell_any (cells row : Nat) (key : Int) (w : World) (hc : 1 ≤ cells ∧ cells ≤ 1001) (hr : row ≤ 8) (hk : Bd key) :
    Calls Tryd.prog 15 #[.int .i64 (cells : Int), .int .i64 (row : Int), .int .i64 key] w fun e w' => e = .returned (.int .i64 (gc cells row key : Int)) ∧ w = w' := by
  have HE := Lib.hid (gc_in (row := row) (key := key) hc).2
  have h1 : (1 : Int) ≤ (cells : Int) := by omega
  have h2 : (cells : Int) ≤ 1001 := by omega
  have h3 : (0 : Int) ≤ (row : Int) := by omega
  have h4 : (row : Int) ≤ 8 := by omega
  have h5 := hk.1
  have h6 := hk.2
  clear hk
  go_enter Tryd.func15, Tryd.ntmps15
  go_wp2
  go_ret
  exact ⟨by rw [← HE.out, ← gcell_ref]; rfl, rfl⟩

set_option maxRecDepth 100000 in
set_option maxHeartbeats 4000000 in
theorem cell_in (g : Nat) (cells rows row : Nat) (key : Int) (w : World) (hc : 1 ≤ cells ∧ cells ≤ 1001) (hr : row < rows) (hr8 : rows ≤ 8) (hk : Bd key)
    (c0 : w.cell? ⟨g, 0, none⟩ = some (.int .i64 (rows : Int))) (c1 : w.cell? ⟨g, 1, none⟩ = some (.int .i64 (cells : Int))) :
    Calls Tryd.prog 13 #[.pointer (some ⟨g, 0, none⟩), .int .i64 (row : Int), .int .i64 key] w fun e w' => e = .returned (.int .i64 (gc cells row key : Int)) ∧ w' = w := by
  have HE := Lib.hid (gc_in (row := row) (key := key) hc).2
  have h1 : (1 : Int) ≤ (cells : Int) := by omega
  have h2 : (cells : Int) ≤ 1001 := by omega
  have h3 : (0 : Int) ≤ (row : Int) := by omega
  have h4 : (row : Int) < (rows : Int) := by omega
  have h5 := hk.1
  have h6 := hk.2
  have h7 : (rows : Int) ≤ 8 := by omega
  clear hk
  go_enter Tryd.func13, Tryd.ntmps13
  go_wp2
  go_ret
  exact ⟨by rw [← HE.out, ← gcell_own]; rfl, rfl⟩

set_option maxHeartbeats 4000000 in
theorem cell_nil (row key : Int) (w : World) :
    Calls Tryd.prog 13 #[.pointer none, .int .i64 row, .int .i64 key] w fun e w' => e = .returned (.int .i64 (-1)) ∧ w' = w := by
  go_enter Tryd.func13, Tryd.ntmps13
  go_wp2
  go_ret
  exact ⟨rfl, rfl⟩
set_option maxHeartbeats 4000000 in
theorem cell_out (g rows : Nat) (row key : Int) (w : World) (c0 : w.cell? ⟨g, 0, none⟩ = some (.int .i64 (rows : Int))) (h : row < 0 ∨ (rows : Int) ≤ row) :
    Calls Tryd.prog 13 #[.pointer (some ⟨g, 0, none⟩), .int .i64 row, .int .i64 key] w fun e w' => e = .returned (.int .i64 (-1)) ∧ w' = w := by
  generalize (rows : Int) = rr at *
  by_cases h0 : row < 0
  · clear h
    go_enter Tryd.func13, Tryd.ntmps13
    go_wp2
    go_ret
    exact ⟨rfl, rfl⟩
  · have h1 : rr ≤ row := by omega
    clear h
    go_enter Tryd.func13, Tryd.ntmps13
    go_wp2
    go_ret
    exact ⟨rfl, rfl⟩

/-- A grid: its own three cells, and its numbers. -/
structure GridAt (w : World) (g nb rows cells : Nat) (f : Nat → Int) : Prop where
  c0 : w.cell? ⟨g, 0, none⟩ = some (.int .i64 (rows : Int))
  c1 : w.cell? ⟨g, 1, none⟩ = some (.int .i64 (cells : Int))
  c2 : w.cell? ⟨g, 2, none⟩ = some (.slice (some ⟨nb, 0, none⟩) (rows * cells) (rows * cells))
  blk : Blk .i64 3 w nb (rows * cells) f
  ne : g ≠ nb
theorem GridAt.gr {w w' : World} {g nb rows cells : Nat} {f : Nat → Int} (h : GridAt w g nb rows cells f) (k : Gr w w') : GridAt w' g nb rows cells f :=
  ⟨k.cell h.c0, k.cell h.c1, k.cell h.c2, h.blk.gr k, h.ne⟩

set_option maxRecDepth 100000 in
set_option maxHeartbeats 4000000 in
theorem newGrid_ok (rows cells : Nat) (w : World) (hr : 1 ≤ rows ∧ rows ≤ 8) (hc : 1 ≤ cells ∧ cells ≤ 1000) :
    Calls Tryd.prog 11 #[.int .i64 (rows : Int), .int .i64 (cells : Int)] w fun e w' => ∃ g, e = .returned (.tuple #[.pointer (some ⟨g, 0, none⟩), .nilIface]) ∧ ∃ nb, GridAt w' g nb rows cells (fun _ => 0) ∧ w.heap.size ≤ nb ∧ Gr w w' := by
  have h1 : (1 : Int) ≤ (cells : Int) := by omega
  have h2 : (cells : Int) ≤ 1000 := by omega
  have h3 : (1 : Int) ≤ (rows : Int) := by omega
  have h4 : (rows : Int) ≤ 8 := by omega
  have hm0 : rows * cells ≤ 8 * 1000 := Nat.mul_le_mul hr.2 hc.2
  have hm1 : (0 : Int) ≤ (rows : Int) * (cells : Int) ∧ (rows : Int) * (cells : Int) ≤ 8000 := by
    rw [← Int.natCast_mul]; omega
  have hm2 : Hid ((rows : Int) * (cells : Int) = ((rows * cells : Nat) : Int)) := Lib.hid (by simp)
  go_enter Tryd.func11, Tryd.ntmps11
  go_wp2_with (at_make; refine wpList_make_blk info_int (by rfl) _ _ _ (by rfl) (by kernel_rfl) .i64 .i64 _ _ (rows * cells) (by rfl) (by rfl) hm2.out hm2.out (by omega) (by omega) ?_; intro w1 hblk hmk)
  all_goals (try (exfalso; omega))
  have hgr := hmk w (Gr.refl w)
  refine bodyPost_ret (v := .tuple #[.pointer (some ⟨w1.heap.size, 0, none⟩), .nilIface]) (by simp [results, Tryd.results11, go_sem]) rfl ⟨_, rfl, w.heap.size, ⟨?_, ?_, ?_, hblk.alloc _, ?_⟩, Nat.le_refl _, hgr.alloc _⟩
  · simp
  · simp
  · simp
  · have := hblk.lt; omega

set_option maxRecDepth 100000 in
set_option maxHeartbeats 4000000 in
theorem newGrid_no (rows cells : Int) (w : World) (hr : Bd rows) (hc : Bd cells) (h : rows < 1 ∨ 8 < rows ∨ cells < 1 ∨ 1000 < cells) :
    Calls Tryd.prog 11 #[.int .i64 rows, .int .i64 cells] w fun e w' => e = .returned (.tuple #[.pointer none, .iface 23 (.int .i64 2)]) ∧ w' = w := by
  have a1 := hr.1
  have a2 := hr.2
  have a3 := hc.1
  have a4 := hc.2
  clear hr hc
  by_cases b1 : rows < 1
  · clear h
    go_enter Tryd.func11, Tryd.ntmps11
    go_wp2
    exact bodyPost_ret (v := .tuple #[.pointer none, .iface 23 (.int .i64 2)]) (by simp [results, Tryd.results11, go_sem]) rfl ⟨rfl, rfl⟩
  by_cases b2 : 8 < rows
  · clear h
    go_enter Tryd.func11, Tryd.ntmps11
    go_wp2
    exact bodyPost_ret (v := .tuple #[.pointer none, .iface 23 (.int .i64 2)]) (by simp [results, Tryd.results11, go_sem]) rfl ⟨rfl, rfl⟩
  by_cases b3 : cells < 1
  · clear h
    go_enter Tryd.func11, Tryd.ntmps11
    go_wp2
    exact bodyPost_ret (v := .tuple #[.pointer none, .iface 23 (.int .i64 2)]) (by simp [results, Tryd.results11, go_sem]) rfl ⟨rfl, rfl⟩
  have b4 : 1000 < cells := by omega
  clear h
  go_enter Tryd.func11, Tryd.ntmps11
  go_wp2
  exact bodyPost_ret (v := .tuple #[.pointer none, .iface 23 (.int .i64 2)]) (by simp [results, Tryd.results11, go_sem]) rfl ⟨rfl, rfl⟩
end Go.Proofs.YtmangbbcnkbfkaaDoor

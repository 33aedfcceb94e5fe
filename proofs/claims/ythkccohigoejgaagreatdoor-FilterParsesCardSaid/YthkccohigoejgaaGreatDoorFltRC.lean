/-
  The reference's signs: its ground.
-/
import Derived.Test.YthkccohigoejgaaGreatDoorFltRB
namespace Go.Proofs.YthkccohigoejgaaGreatDoor
open Go Go.RowKit

theorem sgInfo : (Tryz.prog.info? 60).map (fun i => (i.zero, i.size, i.bytes)) = some (some (.agg #[.string ⟨#[]⟩, .int .i64 0]), 2, 24) := by kernel_rfl
def isSg (v : Value) : Prop := isStr v ∨ isInt v
def scells (x : Tok) : List Value := [.string x.1, .int .i64 x.2]
def sflat (L : List Tok) : List Value := L.flatMap scells
theorem sflat_len (L : List Tok) : (sflat L).length = L.length * 2 := by
  unfold sflat
  induction L with
  | nil => rfl
  | cons a l ih => rw [List.flatMap_cons, List.length_append, ih, List.length_cons]; simp [scells]; omega
theorem sflat_app (L M : List Tok) : sflat (L ++ M) = sflat L ++ sflat M := by simp [sflat]
theorem sflat_one (x : Tok) : sflat [x] = scells x := by simp [sflat]
theorem sflat_get : ∀ (L : List Tok) (i j : Nat), i < L.length → j < 2 → (sflat L)[i * 2 + j]? = (scells (L.getD i tok0))[j]?
  | [], i, j, h, _ => by simp at h
  | p :: l, 0, j, _, h => by
    show (scells p ++ sflat l)[0 * 2 + j]? = _
    rw [Nat.zero_mul, Nat.zero_add, List.getElem?_append_left (by simpa [scells] using h)]
    rfl
  | p :: l, i + 1, j, h, hj => by
    show (scells p ++ sflat l)[(i + 1) * 2 + j]? = _
    rw [List.getElem?_append_right (by simp [scells]; omega), show (i + 1) * 2 + j - (scells p).length = i * 2 + j from by simp [scells]; omega, sflat_get l i j (by simpa using h) hj]
    rfl
theorem scells_sg (x : Tok) : ∀ u ∈ scells x, u.oneCell' = true ∧ isSg u := by
  intro u hu
  simp [scells] at hu
  rcases hu with rfl | rfl
  · exact ⟨rfl, .inl ⟨_, rfl⟩⟩
  · exact ⟨rfl, .inr ⟨_, rfl⟩⟩
theorem szero_sg : ∀ u ∈ (Value.agg #[.string ⟨#[]⟩, .int .i64 0]).cells.toList, isSg u := by
  intro u hu
  simp [Value.cells] at hu
  rcases hu with rfl | rfl
  · exact .inl ⟨_, rfl⟩
  · exact .inr ⟨_, rfl⟩
/-- v is a slice of signs. -/
def SRow (w : World) (v : Value) (L : List Tok) : Prop := Row 60 2 isSg w v L.length (sflat L)
theorem SRow.one {w : World} {v : Value} {L : List Tok} {x : Tok} (h : Row 60 2 isSg w v (L.length + 1) (sflat L ++ scells x)) : SRow w v (L ++ [x]) := by
  unfold SRow
  rw [List.length_append, sflat_app, sflat_one]
  exact h
theorem SRow.app {w : World} {v : Value} {L : List Tok} {g c : Nat} {x : Tok} (h : SRow w v L) (h0 : w.cell? ⟨g, 0, none⟩ = some (.string x.1)) (h1 : w.cell? ⟨g, 1, none⟩ = some (.int .i64 x.2)) (hn : L.length ≤ 999999) :
    ∃ v' w', (Builtin.append_ #[41, 41] 41 #[v, .slice (some ⟨g, 0, none⟩) 1 c]).run Tryz.prog w = .ok v' w' ∧ SRow w' v' (L ++ [x]) ∧ w.grownBy w' v.ownBlock ∧ (∀ g, v'.ownBlock = some g → v.ownBlock = some g ∨ w.heap.size ≤ g) ∧ SRow w' v L := by
  obtain ⟨i0, hi, hz0, hz1, hz2⟩ := info_parts sgInfo
  obtain ⟨v', w', k1, k2, k3, k4, k5⟩ := Row.appendN (P := Tryz.prog) 41 41 i0 (.agg #[.string ⟨#[]⟩, .int .i64 0]) 24 Tryz.underlying41 hi hz0 hz1 hz2 rfl szero_sg h ⟨g, 0, none⟩ c 1 (by omega) (scells x) rfl (by intro j u hu; match j, hu with | 0, hu => (rw [← Option.some.inj hu]; exact h0) | 1, hu => (rw [← Option.some.inj hu]; exact h1) | j + 2, hu => simp [scells] at hu) (fun u hu => (scells_sg x u hu).1) (fun u hu => (scells_sg x u hu).2) (by omega) (by decide)
  exact ⟨v', w', k1, SRow.one k2, k3, k4, k5⟩
/-- The parser in the making. -/
structure Sz (w0 wr : World) (p : Nat) (n : Int) (L : List Tok) (v : Value) : Prop where
  c0 : wr.cell? ⟨p, 0, none⟩ = some v
  c1 : wr.cell? ⟨p, 1, none⟩ = some (.int .i64 n)
  c2 : wr.cell? ⟨p, 2, none⟩ = some (.int .i64 0)
  c3 : wr.cell? ⟨p, 3, none⟩ = some (.int .i64 (-1))
  fz : ∀ j, wr.frozen? ⟨p, j, none⟩ = false
  row : SRow wr v L
  own : ∀ g, v.ownBlock = some g → w0.heap.size ≤ g ∧ g ≠ p
  gr : Gr w0 wr
  fr : w0.heap.size ≤ p
theorem Sz.more {w0 wr w5 : World} {p : Nat} {n : Int} {L : List Tok} {v z : Value} {x : Tok} (h : Sz w0 wr p n L v) (sv : Sav (fun g => v.ownBlock = some g) wr w5) (h1 : SRow w5 z (L ++ [x])) (o1 : ∀ g, z.ownBlock = some g → v.ownBlock = some g ∨ wr.heap.size ≤ g) :
    Sz w0 (w5.setCell ⟨p, 0, none⟩ z) p n (L ++ [x]) z := by
  have hpl : p < wr.heap.size := cell_lt h.c0
  have hnp : ¬ v.ownBlock = some p := fun e => (h.own p e).2 rfl
  have ow : ∀ g, z.ownBlock = some g → w0.heap.size ≤ g ∧ g ≠ p := fun g hg => by
    rcases o1 g hg with e | e
    · exact h.own g e
    · have := h.gr.size; exact ⟨by omega, by omega⟩
  have k1 : Sav (fun q => q = p) w5 (w5.setCell ⟨p, 0, none⟩ z) := Sav.set p 0 z
  refine ⟨World.cell?_setCell_same _ _ _ (sv.cell h.c0 hnp), ?_, ?_, ?_, fun j => ?_, Row.sav h1 k1 fun g hg => (ow g hg).2, ow, ?_, h.fr⟩
  · rw [World.cell?_setCell_other _ _ _ _ (by simp)]; exact sv.cell h.c1 hnp
  · rw [World.cell?_setCell_other _ _ _ _ (by simp)]; exact sv.cell h.c2 hnp
  · rw [World.cell?_setCell_other _ _ _ _ (by simp)]; exact sv.cell h.c3 hnp
  · have := sv.frozen (p := ⟨p, j, none⟩) hpl (h.fz j) hnp
    simpa using this
  · exact k1.gr (sv.gr h.gr fun q hq => (h.own q hq).1) fun q hq => by rw [hq]; exact h.fr
theorem Sz.rp {w0 wr : World} {p : Nat} {n : Int} {L : List Tok} {v : Value} (h : Sz w0 wr p n L v) (hl : L.length ≤ 2001) (hs : ∀ t ∈ L, t.1.size ≤ 2001) : RP w0 wr p wr.heap.size L n 0 (-1) := by
  obtain ⟨a, c, hv⟩ := Row.shape h.row
  refine ⟨⟨a, c, by rw [← hv]; exact h.c0, ?_, ?_, fun h0 => ?_⟩, h.c1, h.c2, h.c3, h.fz, hl, hs, cell_lt h.c0, Nat.le_refl _, h.gr, h.fr, fun _ => rfl⟩
  · rcases Nat.eq_zero_or_pos L.length with e | e
    · rw [e]; exact Nat.zero_le _
    · obtain ⟨g, off, cap, e2, e3, _, _⟩ := Row.cells h.row e
      rw [hv] at e2; injection e2 with _ _ e4; rw [e4]; exact e3
  · rcases Nat.eq_zero_or_pos L.length with e | e
    · have := h.row.2
      rcases this with ⟨e1, _⟩ | ⟨g, off, cap, cur, e1, _, _, e3, _⟩
      · rw [hv] at e1; injection e1 with _ _ e4; omega
      · rw [hv] at e1; injection e1 with _ _ e4; unfold maxLen at e3; omega
    · obtain ⟨g, off, cap, e2, _, e3, _⟩ := Row.cells h.row e
      rw [hv] at e2; injection e2 with _ _ e4; unfold maxLen at e3; omega
  · obtain ⟨g, off, cap, e2, _, _, hc⟩ := Row.cells h.row h0
    rw [hv] at e2
    injection e2 with e5 _ _
    refine ⟨g, off, e5, (h.own g (by rw [hv, e5]; rfl)).2, Row.lt h.row (by rw [hv, e5]; rfl), fun i hi => ⟨hc (i * 2 + 0) _ (by rw [sflat_get L i 0 hi (by omega)]; rfl), hc (i * 2 + 1) _ (by rw [sflat_get L i 1 hi (by omega)]; rfl)⟩⟩
section
variable {ev : Operand → Value} {o : Oper} {w : World} {x y z : Operand} {u : Value}
theorem p_fa0 {p : Nat} (ho : o.op = .fieldAddr 43 x 0) (h : ev x = .pointer (some ⟨p, 0, none⟩)) : (execOp ev o).run Tryz.prog w = .ok (.value (.pointer (some ⟨p, 0, none⟩))) w := by simp [execOp, ho, h, go_sem]
theorem p_load {ad : Addr} {a : Option Addr} {n c : Nat} (ho : o.op = .load 41 x) (h : ev x = .pointer (some ad)) (hc : w.cell? ad = some (.slice a n c)) : (execOp ev o).run Tryz.prog w = .ok (.value (.slice a n c)) w := by simp [execOp, ho, h, hc, go_sem]
theorem p_build {t : ByteArray} {z : Int} (ho : o.op = .build 60 #[(0, x), (1, y)]) (h : ev x = .string t) (k : ev y = .int .i64 z) : (execOp ev o).run Tryz.prog w = .ok (.value (.agg #[.string t, .int .i64 z])) w := by simp [execOp, ho, h, k, go_sem]
theorem p_buildS {t : ByteArray} {z : Int} (ho : o.op = .buildSlice 41 1 #[(0, y)]) (h : ev y = .agg #[.string t, .int .i64 z]) : (execOp ev o).run Tryz.prog w = .ok (.value (.slice (some ⟨w.heap.size, 0, none⟩) 1 1)) (w.alloc (.cells #[.string t, .int .i64 z] 60)) := by simp [execOp, ho, h, go_sem]
end
def Fg.newG (n : Nat) (x : Tok) : Fg := ⟨fun u w => ∃ g, u = .slice (some ⟨g, 0, none⟩) 1 1 ∧ n ≤ g ∧ w.cell? ⟨g, 0, none⟩ = some (.string x.1) ∧ w.cell? ⟨g, 1, none⟩ = some (.int .i64 x.2), fun _ _ _ ⟨g, h1, h2, h3, h4⟩ k => ⟨g, h1, h2, k.cell h3, k.cell h4⟩⟩
def Fg.rowG (n : Nat) (v : Value) (L : List Tok) : Fg := ⟨fun u w => SRow w u L ∧ ∀ g, u.ownBlock = some g → v.ownBlock = some g ∨ n ≤ g, fun _ _ _ ⟨h1, h2⟩ k => ⟨Row.gr h1 k, h2⟩⟩
theorem snew (w : World) (x : Tok) : ∀ (j : Nat) (u : Value), (scells x)[j]? = some u → (w.alloc (.cells #[.string x.1, .int .i64 x.2] 60)).cell? (Addr.add ⟨w.heap.size, 0, none⟩ j) = some u
  | 0, u, h => by rw [← h]; exact cell_of_row _ _ 0 _ _ _ (heap_alloc_new w _)
  | 1, u, h => by rw [← h]; exact cell_of_row _ _ 1 _ _ _ (heap_alloc_new w _)
  | j + 2, u, h => by simp [scells] at h
end Go.Proofs.YthkccohigoejgaaGreatDoor

/-
  The words and their places, as they grow in one statement: its ground.
-/
import Derived.Test.YthkccohigoejgaaGreatDoorFltQ
import Derived.Test.YthkccohigoejgaaGreatDoorFltU
import Derived.Test.YthkccohigoejgaaGreatDoorRegL
namespace Go.Proofs.YthkccohigoejgaaGreatDoor
open Go Go.RowKit

theorem info_strE : (Tryz.prog.info? 9).map (fun i => (i.zero, i.size, i.bytes)) = some (some (.string ⟨#[]⟩), 1, 16) := by kernel_rfl
/-- v is a slice that holds the strings xs. -/
def StrRow (w : World) (v : Value) (xs : List ByteArray) : Prop := Row 9 1 isStr w v xs.length (xs.map fun x => Value.string x)
theorem StrRow.app {w : World} {v : Value} {xs : List ByteArray} {g c : Nat} {y : ByteArray} (h : StrRow w v xs) (hg : w.cell? ⟨g, 0, none⟩ = some (.string y)) (hn : xs.length ≤ 999999) :
    ∃ v' w', (Builtin.append_ #[46, 46] 46 #[v, .slice (some ⟨g, 0, none⟩) 1 c]).run Tryz.prog w = .ok v' w' ∧ StrRow w' v' (xs ++ [y]) ∧ w.grownBy w' v.ownBlock ∧ (∀ g, v'.ownBlock = some g → v.ownBlock = some g ∨ w.heap.size ≤ g) ∧ StrRow w' v xs := by
  obtain ⟨i0, hi, hz0, hz1, hz2⟩ := info_parts info_strE
  obtain ⟨v', w', h1, h2, h3, h4, h5⟩ := Row.appendN (P := Tryz.prog) 46 46 i0 (.string ⟨#[]⟩) 16 Tryz.underlying46 hi hz0 hz1 hz2 rfl (by intro u hu; simp [Value.cells] at hu; exact ⟨_, hu⟩) h ⟨g, 0, none⟩ c 1 (by omega) [.string y] rfl (by intro j u hu; match j, hu with | 0, hu => (rw [← Option.some.inj hu]; exact hg) | j + 1, hu => simp at hu) (by intro u hu; simp at hu; subst hu; rfl) (by intro u hu; simp at hu; exact ⟨_, hu⟩) (by omega) (by decide)
  exact ⟨v', w', h1, by unfold StrRow; simpa using h2, h3, h4, h5⟩
theorem IntRow.app {w : World} {v : Value} {xs : List Int} {g c : Nat} {y : Int} (h : IntRow w v xs) (hg : w.cell? ⟨g, 0, none⟩ = some (.int .i64 y)) (hn : xs.length ≤ 999999) :
    ∃ v' w', (Builtin.append_ #[47, 47] 47 #[v, .slice (some ⟨g, 0, none⟩) 1 c]).run Tryz.prog w = .ok v' w' ∧ IntRow w' v' (xs ++ [y]) ∧ w.grownBy w' v.ownBlock ∧ (∀ g, v'.ownBlock = some g → v.ownBlock = some g ∨ w.heap.size ≤ g) ∧ IntRow w' v xs := by
  obtain ⟨i0, hi, hz0, hz1, hz2⟩ := info_parts info_intE
  obtain ⟨v', w', h1, h2, h3, h4, h5⟩ := Row.appendN (P := Tryz.prog) 47 47 i0 (.int .i64 0) 8 Tryz.underlying47 hi hz0 hz1 hz2 rfl (by intro u hu; simp [Value.cells] at hu; exact ⟨_, hu⟩) h ⟨g, 0, none⟩ c 1 (by omega) [.int .i64 y] rfl (by intro j u hu; match j, hu with | 0, hu => (rw [← Option.some.inj hu]; exact hg) | j + 1, hu => simp at hu) (by intro u hu; simp at hu; subst hu; rfl) (by intro u hu; simp at hu; exact ⟨_, hu⟩) (by omega) (by decide)
  exact ⟨v', w', h1, by unfold IntRow; simpa using h2, h3, h4, h5⟩
section
variable {ev : Operand → Value} {o : Oper} {w : World} {x y z : Operand} {u : Value}
theorem s_move (ho : o.op = .move x) (h : ev x = u) : (execOp ev o).run Tryz.prog w = .ok (.value u) w := by simp [execOp, ho, h, go_sem]
theorem s_nil {ad : Addr} (ho : o.op = .nilCheck x) (h : ev x = .pointer (some ad)) : (execOp ev o).run Tryz.prog w = .ok (.value (.pointer (some ad))) w := by simp [execOp, ho, h, go_sem]
theorem s_fa0 {p : Nat} (ho : o.op = .fieldAddr 49 x 0) (h : ev x = .pointer (some ⟨p, 0, none⟩)) : (execOp ev o).run Tryz.prog w = .ok (.value (.pointer (some ⟨p, 0, none⟩))) w := by simp [execOp, ho, h, go_sem]
theorem s_fa1 {p : Nat} (ho : o.op = .fieldAddr 49 x 1) (h : ev x = .pointer (some ⟨p, 0, none⟩)) : (execOp ev o).run Tryz.prog w = .ok (.value (.pointer (some ⟨p, 1, none⟩))) w := by simp [execOp, ho, h, go_sem]
theorem s_loadS {ad : Addr} {a : Option Addr} {n c : Nat} (ho : o.op = .load 46 x) (h : ev x = .pointer (some ad)) (hc : w.cell? ad = some (.slice a n c)) : (execOp ev o).run Tryz.prog w = .ok (.value (.slice a n c)) w := by simp [execOp, ho, h, hc, go_sem]
theorem s_loadI {ad : Addr} {a : Option Addr} {n c : Nat} (ho : o.op = .load 47 x) (h : ev x = .pointer (some ad)) (hc : w.cell? ad = some (.slice a n c)) : (execOp ev o).run Tryz.prog w = .ok (.value (.slice a n c)) w := by simp [execOp, ho, h, hc, go_sem]
theorem s_sub {t : ByteArray} {i k : Nat} (ho : o.op = .slice 9 x (some y) (some z) none) (h : ev x = .string t) (hy : ev y = .int .i64 (i : Int)) (hz : ev z = .int .i64 (k : Int)) (h1 : i ≤ k) (h2 : k ≤ t.size) : (execOp ev o).run Tryz.prog w = .ok (.value (.string (t.extract i k))) w := by
  have hr := run_slice_string (P := Tryz.prog) w 9 t .i64 .i64 (i : Int) (k : Int) Tryz.underlying9 (by omega) (by omega) (by omega)
  have e : (Instr.sliceAt 9 (.string t) (some (.int .i64 (i : Int))) (some (.int .i64 (k : Int))) none).run Tryz.prog w = .ok (.string (t.extract i k)) w := by simpa [Instr.sliceAt] using hr
  simp [execOp, ho, h, hy, hz, e, Result.andThen]
theorem s_buildS {t : ByteArray} (ho : o.op = .buildSlice 46 1 #[(0, y)]) (h : ev y = .string t) : (execOp ev o).run Tryz.prog w = .ok (.value (.slice (some ⟨w.heap.size, 0, none⟩) 1 1)) (w.alloc (.cells #[.string t] 9)) := by simp [execOp, ho, h, go_sem]
theorem s_buildI {z : Int} (ho : o.op = .buildSlice 47 1 #[(0, y)]) (h : ev y = .int .i64 z) : (execOp ev o).run Tryz.prog w = .ok (.value (.slice (some ⟨w.heap.size, 0, none⟩) 1 1)) (w.alloc (.cells #[.int .i64 z] 3)) := by simp [execOp, ho, h, go_sem]
theorem s_storeS {ad : Addr} {v v0 : Value} {a : Option Addr} {m c : Nat} (ho : o.op = .store 46 x y) (h : ev x = .pointer (some ad)) (k : ev y = v) (hv : v = .slice a m c) (hc : w.cell? ad = some v0) (hf : w.frozen? ad = false) : (execOp ev o).run Tryz.prog w = .ok .skip (w.setCell ad v) := by
  subst hv
  simp [execOp, ho, h, k, hc, hf, go_sem]
theorem s_app {v v2 v' : Value} {w' : World} {t : TypeId} (ho : o.op = .call { callee := .builtin .append, args := #[x, y], argTypes := #[t, t] }) (h : ev x = v) (k : ev y = v2) (hr : (Builtin.append_ #[t, t] o.type #[v, v2]).run Tryz.prog w = .ok v' w') : (execOp ev o).run Tryz.prog w = .ok (.value v') w' := by
  simp [execOp, ho, resolve, invoke, builtin, h, k, hr, Result.andThen]
end
def Fg.newS (n : Nat) (y : ByteArray) : Fg := ⟨fun u w => ∃ g, u = .slice (some ⟨g, 0, none⟩) 1 1 ∧ n ≤ g ∧ w.cell? ⟨g, 0, none⟩ = some (.string y), fun _ _ _ ⟨g, h1, h2, h3⟩ k => ⟨g, h1, h2, k.cell h3⟩⟩
def Fg.newI (n : Nat) (y : Int) : Fg := ⟨fun u w => ∃ g, u = .slice (some ⟨g, 0, none⟩) 1 1 ∧ n ≤ g ∧ w.cell? ⟨g, 0, none⟩ = some (.int .i64 y), fun _ _ _ ⟨g, h1, h2, h3⟩ k => ⟨g, h1, h2, k.cell h3⟩⟩
def Fg.rowS (n : Nat) (v : Value) (xs : List ByteArray) : Fg := ⟨fun u w => StrRow w u xs ∧ ∀ g, u.ownBlock = some g → v.ownBlock = some g ∨ n ≤ g, fun _ _ _ ⟨h1, h2⟩ k => ⟨Row.gr h1 k, h2⟩⟩
def Fg.rowI (n : Nat) (v : Value) (xs : List Int) : Fg := ⟨fun u w => IntRow w u xs ∧ ∀ g, u.ownBlock = some g → v.ownBlock = some g ∨ n ≤ g, fun _ _ _ ⟨h1, h2⟩ k => ⟨Row.gr h1 k, h2⟩⟩
/-- The reader in the making. -/
structure Tz (w0 wr : World) (r : Nat) (n : Int) (L : List Tok) (wv pv : Value) : Prop where
  c0 : wr.cell? ⟨r, 0, none⟩ = some wv
  c1 : wr.cell? ⟨r, 1, none⟩ = some pv
  c2 : wr.cell? ⟨r, 2, none⟩ = some (.int .i64 0)
  c3 : wr.cell? ⟨r, 3, none⟩ = some (.int .i64 n)
  fz : ∀ j, wr.frozen? ⟨r, j, none⟩ = false
  ws : StrRow wr wv (L.map (·.1))
  ps : IntRow wr pv (L.map (·.2))
  ow : ∀ g, wv.ownBlock = some g → w0.heap.size ≤ g ∧ g ≠ r
  op : ∀ g, pv.ownBlock = some g → w0.heap.size ≤ g ∧ g ≠ r
  ap : ∀ g, wv.ownBlock = some g → pv.ownBlock ≠ some g
  gr : Gr w0 wr
  fr : w0.heap.size ≤ r
section
variable {P : Program} {ops : Array Oper} {n : Nat} {fs : List Fv} {I : Bool → World → Prop} {c : Nat} {a0 : Act} {L : Nat → Prop} {i : Nat} {o : Oper} {a : Act} {w w' : World} {Q : Exit → Act → World → Prop} {u : Value}
/-- An operation that writes, but keeps what the others left. -/
theorem lstep_keep (hA : LAt ops n fs I c a0 L i a w) (hic : i ≠ c) (hr : (execOp a.eval o).run P w = .ok (.value u) w') (hI : ∀ b, I b w → I b w') (hk : ∀ f, f i = got o u → (∀ j, L j → f j = valOf ops a j) → (fvAt fs i).p f w') (hkeep : ∀ j, L j → (fvAt fs j).p (valOf ops a) w → (fvAt fs j).p (valOf ops a) w') : Oper.wp P o a w (LPost ops fs I c L i o a w) Q := by
  unfold Oper.wp
  rw [hr]
  exact ⟨u, rfl, ⟨fun h => hI _ (hA.yes (h.resolve_left hic)), fun h => hI _ (hA.no (fun h2 => h (.inr h2)))⟩, hk, hkeep⟩
/-- The store that turns it. -/
theorem lstep_setc (_ : LAt ops n fs I c a0 L i a w) (hic : i = c) (hd : o.dst = none) (hr : (execOp a.eval o).run P w = .ok .skip w') (hI : I true w') (hk : ∀ f, (∀ j, L j → f j = valOf ops a j) → (fvAt fs i).p f w') (hkeep : ∀ j, L j → (fvAt fs j).p (valOf ops a) w → (fvAt fs j).p (valOf ops a) w') : Oper.wp P o a w (LPost ops fs I c L i o a w) Q := by
  unfold Oper.wp
  rw [hr]
  exact ⟨undef, by rw [hd], ⟨fun _ => hI, fun h => absurd (.inl hic) h⟩, fun f _ hL => hk f hL, hkeep⟩
end
/-- The cell r, 0 holds what operation j left. -/
def Fv.cell0 (j r : Nat) : Fv := ⟨[j], fun f w => w.cell? ⟨r, 0, none⟩ = some (f j), fun f f' w h k => by rw [← h j (by simp)]; exact k, fun _ _ _ h k => k.cell h⟩
/-- In the midst: what may have been written; both old rows stand. -/
structure RW (wr : World) (r : Nat) (n : Int) (wv pv : Value) (X : List ByteArray) (Y : List Int) (b : Bool) (u : World) : Prop where
  sav : Sav (fun q => wv.ownBlock = some q ∨ pv.ownBlock = some q ∨ (b = true ∧ q = r)) wr u
  r1 : StrRow u wv X
  r2 : IntRow u pv Y
  k0 : b = false → u.cell? ⟨r, 0, none⟩ = some wv
  k1 : u.cell? ⟨r, 1, none⟩ = some pv
  k2 : u.cell? ⟨r, 2, none⟩ = some (.int .i64 0)
  k3 : u.cell? ⟨r, 3, none⟩ = some (.int .i64 n)
  fz : ∀ j, u.frozen? ⟨r, j, none⟩ = false
section
variable {wr u u' : World} {r : Nat} {n : Int} {wv pv : Value} {X : List ByteArray} {Y : List Int} {b : Bool}
theorem RW.sv (h : RW wr r n wv pv X Y b u) {B : Nat → Prop} (k : Sav B u u') (hB : ∀ q, B q → wv.ownBlock = some q ∨ pv.ownBlock = some q) (hr : ¬ B r) (h1 : StrRow u' wv X) (h2 : IntRow u' pv Y) : RW wr r n wv pv X Y b u' :=
  ⟨h.sav.then (k.mono fun q hq => (hB q hq).imp id .inl), h1, h2, fun e => k.cell (h.k0 e) hr, k.cell h.k1 hr, k.cell h.k2 hr, k.cell h.k3 hr, fun j => k.frozen (p := ⟨r, j, none⟩) (show r < u.heap.size from cell_lt h.k1) (h.fz j) hr⟩
theorem RW.gr (h : RW wr r n wv pv X Y b u) (k : Gr u u') : RW wr r n wv pv X Y b u' := h.sv (B := fun _ => False) (.of_gr k) (fun _ e => e.elim) id (Row.gr h.r1 k) (Row.gr h.r2 k)
theorem RW.set (h : RW wr r n wv pv X Y false u) (h1 : wv.ownBlock ≠ some r) (h2 : pv.ownBlock ≠ some r) (v : Value) : RW wr r n wv pv X Y true (u.setCell ⟨r, 0, none⟩ v) := by
  have k : Sav (fun q => q = r) u (u.setCell ⟨r, 0, none⟩ v) := .set r 0 v
  refine ⟨(h.sav.mono fun q hq => hq.imp id (fun e => e.imp id (fun e => absurd e.1 (by decide)))).then (k.mono fun q hq => .inr (.inr ⟨rfl, hq⟩)), Row.sav h.r1 k fun q e e2 => h1 (by rw [e, e2]), Row.sav h.r2 k fun q e e2 => h2 (by rw [e, e2]), fun e => (by cases e), ?_, ?_, ?_, fun j => by simpa using h.fz j⟩
  · rw [World.cell?_setCell_other _ _ _ _ (by simp)]; exact h.k1
  · rw [World.cell?_setCell_other _ _ _ _ (by simp)]; exact h.k2
  · rw [World.cell?_setCell_other _ _ _ _ (by simp)]; exact h.k3
end
theorem Tz.more {w0 wr w5 : World} {r : Nat} {n : Int} {L : List Tok} {wv pv z1 z2 : Value} {x : ByteArray} {y : Int} {X : List ByteArray} {Y : List Int} (h : Tz w0 wr r n L wv pv) (hI : RW wr r n wv pv X Y true w5) (c0 : w5.cell? ⟨r, 0, none⟩ = some z1)
    (h1 : StrRow w5 z1 (L.map (·.1) ++ [x])) (h2 : IntRow w5 z2 (L.map (·.2) ++ [y])) (o1 : ∀ g, z1.ownBlock = some g → wv.ownBlock = some g ∨ wr.heap.size ≤ g) (o2 : ∀ g, z2.ownBlock = some g → pv.ownBlock = some g ∨ wr.heap.size ≤ g) :
    Tz w0 (w5.setCell ⟨r, 1, none⟩ z2) r n (L ++ [(x, y)]) z1 z2 := by
  have hrl : r < wr.heap.size := cell_lt h.c0
  have ow : ∀ g, z1.ownBlock = some g → w0.heap.size ≤ g ∧ g ≠ r := fun g hg => by
    rcases o1 g hg with e | e
    · exact h.ow g e
    · have := h.gr.size; exact ⟨by omega, by omega⟩
  have op : ∀ g, z2.ownBlock = some g → w0.heap.size ≤ g ∧ g ≠ r := fun g hg => by
    rcases o2 g hg with e | e
    · exact h.op g e
    · have := h.gr.size; exact ⟨by omega, by omega⟩
  have k1 : Sav (fun q => q = r) w5 (w5.setCell ⟨r, 1, none⟩ z2) := Sav.set r 1 z2
  refine ⟨?_, ?_, ?_, ?_, fun j => by simpa using hI.fz j, ?_, ?_, ow, op, fun g e1 e2 => ?_, ?_, h.fr⟩
  · rw [World.cell?_setCell_other _ _ _ _ (by simp)]; exact c0
  · exact World.cell?_setCell_same _ _ _ hI.k1
  · rw [World.cell?_setCell_other _ _ _ _ (by simp)]; exact hI.k2
  · rw [World.cell?_setCell_other _ _ _ _ (by simp)]; exact hI.k3
  · rw [List.map_append]
    exact Row.sav h1 k1 fun g hg => (ow g hg).2
  · rw [List.map_append]
    exact Row.sav h2 k1 fun g hg => (op g hg).2
  · obtain ⟨g', off, cap, e3, _, _, hc⟩ := Row.cells h1 (by simp)
    subst e3
    simp [Value.ownBlock] at e1
    subst e1
    have hlast := hc (L.map (·.1)).length (.string x) (by simp)
    exact Row.ne h2 hlast (fun ⟨_, hh⟩ => by cases hh) e2
  · exact k1.gr (hI.sav.gr h.gr fun q hq => hq.elim (fun e => (h.ow q e).1) (fun e => e.elim (fun e => (h.op q e).1) (fun e => by rw [e.2]; exact h.fr))) fun q hq => by rw [hq]; exact h.fr
/-- Through: it is a reader. -/
theorem Tz.rd {w0 wr : World} {r : Nat} {n : Int} {L : List Tok} {wv pv : Value} (h : Tz w0 wr r n L wv pv) (hl : L.length ≤ 2001) (hs : ∀ t ∈ L, t.1.size ≤ 2001) : Rd w0 wr r wr.heap.size L 0 n := by
  obtain ⟨a, c, rfl⟩ := Row.shape h.ws
  obtain ⟨a', c', rfl⟩ := Row.shape h.ps
  have hc0 := h.c0
  have hc1 := h.c1
  rw [List.length_map] at hc0 hc1
  refine ⟨⟨a, c, hc0, fun h0 => ?_⟩, ⟨a', c', hc1, fun h0 => ?_⟩, h.c2, h.c3, h.fz 2, Nat.zero_le _, hl, hs, cell_lt h.c0, Nat.le_refl _, h.gr, h.fr⟩
  · obtain ⟨g, off, cap, e, _, _, hc⟩ := Row.cells h.ws (by simpa using h0)
    injection e with e1 e2 e3
    subst e1
    refine ⟨g, off, rfl, (h.ow g rfl).2, Row.lt h.ws rfl, fun i hi => ?_⟩
    exact hc i _ (by simp [List.getD_eq_getElem?_getD, List.getElem?_eq_getElem hi])
  · obtain ⟨g, off, cap, e, _, _, hc⟩ := Row.cells h.ps (by simpa using h0)
    injection e with e1 e2 e3
    subst e1
    refine ⟨g, off, rfl, (h.op g rfl).2, Row.lt h.ps rfl, fun i hi => ?_⟩
    exact hc i _ (by simp [List.getD_eq_getElem?_getD, List.getElem?_eq_getElem hi])
theorem run_idx {t : ByteArray} {i : Nat} (hi : i < t.size) (w : World) : Sem.run Tryz.prog (Instr.index 9 (.string t) (.int .i64 (i : Int))) w = .ok (.int .u8 ((chr t i).toNat : Int)) w := by
  have h : (0 : Int) ≤ (i : Int) ∧ (i : Int) < (t.size : Int) := ⟨by omega, by omega⟩
  rw [chr_at hi]
  have := run_index_string (P := Tryz.prog) (w := w) 9 t .i64 (i : Int) Tryz.underlying9
  rw [this, dif_pos h]
  rfl
theorem u8_ne {c : UInt8} {k : Nat} (_hk : k < 256) (h : c ≠ UInt8.ofNat k) : ¬ ((c.toNat : Int) = (k : Int)) := fun e => h (by
  have : c.toNat = k := by omega
  rw [← this]; simp)
end Go.Proofs.YthkccohigoejgaaGreatDoor

/-
  Blocks made anew; what sced.Make holds while promises are laid.
-/
import Derived.Test.YtfdmmfjheiiiiaaDoorSmE
import Derived.Test.YtfdmmfjheiiiiaaDoorRegC
import Derived.OwnWalk
namespace Go.Proofs.YtfdmmfjheiiiiaaDoor
open Go.RowKit Go.Extern.Stop Go.Stop Go.Extern

/-- Block g, of kind T, holds n times z. -/
def VBlk (T : TypeId) (w : World) (g n : Nat) (z : Value) : Prop := ∃ cur : Array Value, w.heap[g]? = some (.cells cur T (0, 0)) ∧ cur.size = n ∧ ∀ i, i < n → cur[i]? = some z
section
variable {T T' : TypeId} {w w' : World} {g g' n n' : Nat} {z z' : Value}
theorem VBlk.lt (h : VBlk T w g n z) : g < w.heap.size := by
  obtain ⟨cur, h, _⟩ := h
  rcases Nat.lt_or_ge g w.heap.size with k | k
  · exact k
  · simp [Array.getElem?_eq_none k] at h
theorem VBlk.gr (h : VBlk T w g n z) (k : Gr w w') : VBlk T w' g n z := by
  obtain ⟨cur, h1, h2⟩ := h
  exact ⟨cur, (k.block (VBlk.lt ⟨cur, h1, h2⟩)).trans h1, h2⟩
theorem VBlk.cell (h : VBlk T w g n z) {i : Nat} (hi : i < n) : w.cell? ⟨g, i, none⟩ = some z := by
  obtain ⟨cur, h, _, hc⟩ := h
  simp [World.cell?, h, hc i hi]
theorem VBlk.free (h : VBlk T w g n z) (i : Nat) : w.frozen? ⟨g, i, none⟩ = false := by
  obtain ⟨cur, h, _⟩ := h
  simp [World.frozen?, h]
/-- of another kind: another block -/
theorem VBlk.ne (h : VBlk T w g n z) (k : VBlk T' w g' n' z') (ht : T ≠ T') : g ≠ g' := fun e => by
  subst e
  obtain ⟨c1, h1, _⟩ := h
  obtain ⟨c2, h2, _⟩ := k
  rw [h1] at h2
  injection h2 with h3
  injection h3 with _ h4
  exact ht h4
theorem VBlk.blk (h : VBlk T w g n (.int .i64 0)) : Blk .i64 T w g n (fun _ => 0) := h
end
/-- Block g is of kind T. -/
def Kind (T : TypeId) (w : World) (g : Nat) : Prop := ∃ cur, w.heap[g]? = some (.cells cur T (0, 0))
section
variable {T T' : TypeId} {w w' : World} {g g' n : Nat} {z : Value}
theorem VBlk.kind (h : VBlk T w g n z) : Kind T w g := ⟨h.choose, h.choose_spec.1⟩
theorem Kind.ne (h : Kind T w g) (k : Kind T' w g') (ht : T ≠ T') : g ≠ g' := fun e => by
  subst e
  obtain ⟨c1, h1⟩ := h
  obtain ⟨c2, h2⟩ := k
  rw [h1] at h2
  injection h2 with h3
  injection h3 with _ h4
  exact ht h4
theorem Kind.lt (h : Kind T w g) : g < w.heap.size := by
  obtain ⟨cur, h⟩ := h
  rcases Nat.lt_or_ge g w.heap.size with k | k
  · exact k
  · simp [Array.getElem?_eq_none k] at h
theorem Kind.gr (h : Kind T w g) (k : Gr w w') : Kind T w' g := ⟨h.choose, (k.block h.lt).trans h.choose_spec⟩
theorem kind_new (w : World) (cs : Array Value) (T : TypeId) : Kind T (w.alloc (.cells cs T)) w.heap.size := ⟨cs, heap_alloc_new w _⟩
theorem Kind.set (h : Kind T w g) (q i : Nat) (v : Value) : Kind T (w.setCell ⟨q, i, none⟩ v) g := by
  obtain ⟨cur, h⟩ := h
  by_cases e : q = g
  · subst e
    exact ⟨cur.setIfInBounds i v, by simp [World.setCell, Array.getElem?_modify, h]⟩
  · exact ⟨cur, (Below.heap_setCell _ _ _ _ (fun e2 => e e2.symm)).trans h⟩
end
theorem info_slice : (Tryd.prog.info? 28).map (fun i => (i.zero, i.size, i.bytes)) = some (some (.slice none 0 0), 1, 24) := by kernel_rfl
section
variable {ev : Operand → Value} {o : Oper} {w : World} {x y : Operand}
theorem q_makeV {z : Value} {T t : TypeId} {bytes n : Nat} (hinfo : (Tryd.prog.info? T).map (fun i => (i.zero, i.size, i.bytes)) = some (some z, 1, bytes)) (hz : z.cells = #[z]) (h1 : Tryd.prog.underlying t = some (.slice T)) (hop : o.op = .makeSlice t x y) (hl : ev x = .int .i64 (n : Int)) (hc : ev y = .int .i64 (n : Int)) (b2 : bytes * n ≤ 281474976710656) (b3 : n ≤ 1000000) :
    ∃ w', (execOp ev o).run Tryd.prog w = .ok (.value (.slice (some ⟨w.heap.size, 0, none⟩) n n)) w' ∧ VBlk T w' w.heap.size n z ∧ Gr w w' := by
  obtain ⟨i0, hi, hz0, hz1, hz2⟩ := info_parts hinfo
  obtain ⟨w', hrun, hown, hgr⟩ := run_make_full (P := Tryd.prog) (w := w) w.heap.size t T i0 z 1 h1 hi hz0 hz1 .i64 .i64 n (by rw [hz2]; exact b2) (by unfold maxLen; omega) (Nat.le_refl _)
  refine ⟨w', by simp [execOp, hop, hl, hc, hrun, Result.andThen], ?_, (Gr.refl w).grown hgr (fun k hk => by cases hk)⟩
  obtain ⟨_, h2⟩ := hown
  rcases h2 with ⟨h2, _⟩ | ⟨g, cap, cur, hv, _, hh, _, _, hsz, htk⟩
  · simp at h2
  · simp at hv
    obtain ⟨rfl, rfl⟩ := hv
    rw [hz, toList_madeCells_one, Nat.mul_one, List.take_of_length_le (by simp; omega)] at htk
    refine ⟨cur, hh, by omega, fun i hi => ?_⟩
    rw [← Array.getElem?_toList, htk]
    simp [hi]
theorem q_len {T : TypeId} {a : Option Addr} {n c : Nat} (ho : o.op = .call { callee := .builtin .len, args := #[x], argTypes := #[T] }) (hT : ∃ E, Tryd.prog.underlying T = some (.slice E)) (h : ev x = .slice a n c) : (execOp ev o).run Tryd.prog w = .ok (.value (.int .i64 (n : Int))) w := by
  obtain ⟨E, hT⟩ := hT
  simp [execOp, ho, resolve, invoke, builtin, h, hT, Builtin.lenOf, go_sem]
end
def Fg.vb (n0 : Nat) (T : TypeId) (n : Nat) (z : Value) : Fg := ⟨fun v w => ∃ g, v = .slice (some ⟨g, 0, none⟩) n n ∧ n0 ≤ g ∧ VBlk T w g n z, fun _ _ _ ⟨g, h0, h1, h2⟩ k => ⟨g, h0, h1, h2.gr k⟩⟩
/-- While promises are laid: those of the first i flows. -/
structure MkPre (w wr : World) (b : MkB) (M n i : Nat) (pv : Nat → Value) (ds : Nat → List Int) : Prop where
  p0 : wr.cell? ⟨b.p, 0, none⟩ = some (.slice none 0 0)
  p1 : wr.cell? ⟨b.p, 1, none⟩ = some (.slice (some ⟨b.PB, 0, none⟩) n n)
  p2 : wr.cell? ⟨b.p, 2, none⟩ = some (.slice (some ⟨b.TB, 0, none⟩) n n)
  f0 : wr.frozen? ⟨b.p, 0, none⟩ = false
  pc : ∀ j, j < n → wr.cell? ⟨b.PB, j, none⟩ = some (if j < i then pv j else .slice none 0 0)
  pf : ∀ j, j < n → wr.frozen? ⟨b.PB, j, none⟩ = false
  pr : ∀ j, j < i → Ints wr (pv j) (ds j)
  po : ∀ j g, j < i → (pv j).ownBlock = some g → M ≤ g ∧ g < wr.heap.size
  tc : ∀ j, j < n → wr.cell? ⟨b.TB, j, none⟩ = some (.slice none 0 0)
  tf : ∀ j, j < n → wr.frozen? ⟨b.TB, j, none⟩ = false
  co : Blk .i64 3 wr b.CB n (fun _ => 0)
  se : Blk .i64 3 wr b.SB n (fun _ => 0)
  ap : b.Apart
  inn : b.In w.heap.size M
  MN : M ≤ wr.heap.size
  gr : Gr w wr
section
variable {w wr u : World} {b : MkB} {M n i : Nat} {pv : Nat → Value} {ds : Nat → List Int} {v : Value}
theorem MkPre.put (h : MkPre w wr b M n i pv ds) (k0 : Gr wr u) (hr : Ints u v (ds i)) (ho : ∀ g, v.ownBlock = some g → wr.heap.size ≤ g ∧ g < u.heap.size) : MkPre w (u.setCell ⟨b.PB, i, none⟩ v) b M n (i + 1) (updA pv i v) ds := by
  have k : Sav (fun q => q = b.PB) u (u.setCell ⟨b.PB, i, none⟩ v) := .set b.PB i _
  obtain ⟨a1, a2, a3, a4, a5, a6, a7, a8, a9, a10⟩ := h.ap
  obtain ⟨⟨i1, i2⟩, ⟨i3, i4⟩, ⟨i5, i6⟩, ⟨i7, i8⟩, i9, i10⟩ := h.inn
  have hMN := h.MN
  have hsz := k0.size
  refine ⟨k.cell (k0.cell h.p0) a1, k.cell (k0.cell h.p1) a1, k.cell (k0.cell h.p2) a1, k.frozen (p := ⟨b.p, 0, none⟩) (cell_lt (k0.cell h.p0)) (by rw [k0.frozen (p := ⟨b.p, 0, none⟩) (cell_lt h.p0)]; exact h.f0) a1, fun j hj => ?_, fun j hj => ?_, fun j hj => ?_, fun j g hj e => ?_,
    fun j hj => k.cell (k0.cell (h.tc j hj)) (fun e => a5 e.symm), fun j hj => k.frozen (p := ⟨b.TB, j, none⟩) (cell_lt (k0.cell (h.tc j hj))) (by rw [k0.frozen (p := ⟨b.TB, j, none⟩) (cell_lt (h.tc j hj))]; exact h.tf j hj) (fun e => a5 e.symm),
    (h.co.gr k0).sav k (fun e => a6 e.symm), (h.se.gr k0).sav k (fun e => a7 e.symm), h.ap, h.inn, Nat.le_trans hMN (Nat.le_trans hsz k.size), Sav.gr (h.gr.trans k0) k (fun q e => by omega)⟩
  · by_cases e : j = i
    · subst e
      rw [if_pos (by omega), updA_at]
      exact World.cell?_setCell_same _ _ _ (k0.cell (h.pc j hj))
    · rw [World.cell?_setCell_other _ _ _ _ (fun e2 => e (by injection e2 with _ e3; exact e3.symm)), updA_ne _ _ e, k0.cell (h.pc j hj)]
      by_cases e3 : j < i
      · rw [if_pos e3, if_pos (by omega)]
      · rw [if_neg e3, if_neg (by omega)]
  · simpa using (by rw [k0.frozen (p := ⟨b.PB, j, none⟩) (cell_lt (h.pc j hj))]; exact h.pf j hj : u.frozen? ⟨b.PB, j, none⟩ = false)
  · by_cases e : j = i
    · subst e
      rw [updA_at]
      exact hr.sav k (fun g e2 e3 => by have := ho g e2; omega)
    · rw [updA_ne _ _ e]
      exact ((h.pr j (by omega)).gr k0).sav k (fun g e2 e3 => by have := h.po j g (by omega) e2; omega)
  · have hs2 := k.size
    by_cases e2 : j = i
    · subst e2
      rw [updA_at] at e
      have := ho g e
      omega
    · rw [updA_ne _ _ e2] at e
      have := h.po j g (by omega) e
      omega
theorem MkPre.done (h : MkPre w wr b M n n pv ds) : MkS w wr b M wr.heap.size n pv ds (.slice none 0 0) [] (fun _ => .slice none 0 0) (fun _ => []) (fun _ => 0) (fun _ => 0) :=
  ⟨h.p0, h.p1, h.p2, h.f0, fun i hi => by rw [h.pc i hi, if_pos hi], h.pr, h.po, .none h.tc h.tf (by have := h.inn.2.2.1.2; have := h.MN; omega), h.co, h.se, .nil _, fun g e => by simp [Value.ownBlock] at e, h.ap, h.inn, ⟨h.MN, Nat.le_refl _⟩, h.gr⟩
end
theorem MkS.cong {w wr : World} {b : MkB} {M N n : Nat} {pv : Nat → Value} {ds : Nat → List Int} {sv : Value} {sent sent' : List Int} {tv : Nat → Value} {ts ts' : Nat → List Int} {cf sf cf' sf' : Nat → Int} (h : MkS w wr b M N n pv ds sv sent tv ts cf sf) (hl : sent = sent') (ht : ∀ i, i < n → ts i = ts' i) (hc : ∀ i, i < n → cf i = cf' i) (hs : ∀ i, i < n → sf i = sf' i) : MkS w wr b M N n pv ds sv sent' tv ts' cf' sf' := by
  subst hl
  exact ⟨h.p0, h.p1, h.p2, h.f0, h.pc, h.pr, h.po, ⟨h.th.cell, h.th.free, fun i hi => by rw [← ht i hi]; exact h.th.row i hi, h.th.own, h.th.inj, h.th.gb⟩, h.co.congr hc, h.se.congr hs, h.row, h.ro, h.ap, h.inn, h.MN, h.gr⟩
/-- One number more. -/
theorem IntRow.app {w : World} {v : Value} {xs : List Int} {g c : Nat} {y : Int} (h : IntRow w v xs) (hg : w.cell? ⟨g, 0, none⟩ = some (.int .i64 y)) (hn : xs.length ≤ 999999) :
    ∃ v' w', (Builtin.append_ #[28, 28] 28 #[v, .slice (some ⟨g, 0, none⟩) 1 c]).run Tryd.prog w = .ok v' w' ∧ IntRow w' v' (xs ++ [y]) ∧ w.grownBy w' v.ownBlock ∧ (∀ g, v'.ownBlock = some g → v.ownBlock = some g ∨ w.heap.size ≤ g) ∧ IntRow w' v xs := by
  obtain ⟨i0, hi, hz0, hz1, hz2⟩ := info_parts info_intE
  obtain ⟨v', w', h1, h2, h3, h4, h5⟩ := Row.appendN (P := Tryd.prog) 28 28 i0 (.int .i64 0) 8 Tryd.underlying28 hi hz0 hz1 hz2 rfl (by intro u hu; simp [Value.cells] at hu; exact ⟨_, hu⟩) h ⟨g, 0, none⟩ c 1 (by omega) [.int .i64 y] rfl (by intro j u hu; match j, hu with | 0, hu => (rw [← Option.some.inj hu]; exact hg) | j + 1, hu => simp at hu) (by intro u hu; simp at hu; subst hu; rfl) (by intro u hu; simp at hu; exact ⟨_, hu⟩) (by omega) (by decide)
  exact ⟨v', w', h1, by unfold IntRow; simpa using h2, h3, h4, h5⟩
theorem upTo_congr {f g : Nat → Int} {n : Nat} (h : ∀ k, k < n → f k = g k) : upTo f n = upTo g n := by
  unfold upTo
  exact List.map_congr_left fun k hk => h k (List.mem_range.1 hk)
/-- How long the slice is that lies there. -/
def cellLen (w : World) (a : Addr) : Nat := match w.cell? a with | some (.slice _ n _) => n | _ => 0
theorem cellLen_at {w : World} {a : Addr} {p : Option Addr} {n c : Nat} (h : w.cell? a = some (.slice p n c)) : cellLen w a = n := by unfold cellLen; rw [h]
/-- One flow's step more. -/
theorem PlanP.thru_succ {P : PlanP} {t b : Nat} (h : P.best t = (b : Int)) (i : Nat) : upTo ((P.run (t + 1)).2 i) ((P.run (t + 1)).1 i) = updA (fun i => upTo ((P.run t).2 i) ((P.run t).1 i)) b (upTo ((P.run t).2 b) ((P.run t).1 b) ++ [(t : Int) + 1]) i := by
  rw [P.run_pos h]
  by_cases e : i = b
  · subst e
    simp only [updA_at, updN_at]
    rw [← upTo_succ, upd2_at, upTo_congr (f := upd2 (P.run t).2 i ((P.run t).1 i) ((t : Int) + 1) i) (g := (P.run t).2 i) (fun k hk => upd2_ne _ _ (fun e2 => by omega))]
  · simp only [updA_ne _ _ e, updN_ne _ _ e]
    exact upTo_congr fun k hk => upd2_ne _ _ (fun e2 => e e2.1)
theorem PlanP.sent_succ {P : PlanP} {t b : Nat} (h : P.best t = (b : Int)) (i : Nat) : (((P.run (t + 1)).1 i : Nat) : Int) = upd (fun i => ((P.run t).1 i : Int)) b (((P.run t).1 b : Int) + 1) i := by
  rw [P.run_pos h]
  by_cases e : i = b
  · subst e
    simp only [upd_at, updN_at]
    omega
  · simp only [upd_ne _ _ e, updN_ne _ _ e]
end Go.Proofs.YtfdmmfjheiiiiaaDoor

/-
  A slice of slices of numbers in memory; what sced.Make holds meanwhile.
-/
import Derived.Test.YtfdmmfjheiiiiaaDoorSmA
import Derived.Test.YtfdmmfjheiiiiaaDoorRowN
import Derived.Test.YtfdmmfjheiiiiaaDoorApp
namespace Go.Proofs.YtfdmmfjheiiiiaaDoor
open Go.RowKit

def updA {α : Type} (f : Nat → α) (i : Nat) (x : α) : Nat → α := fun k => if k = i then x else f k
theorem updA_at {α : Type} (f : Nat → α) (i : Nat) (x : α) : updA f i x i = x := by simp [updA]
theorem updA_ne {α : Type} (f : Nat → α) {i k : Nat} (x : α) (h : k ≠ i) : updA f i x k = f k := by simp [updA, h]
theorem Ints.sav {w w' : World} {v : Value} {xs : List Int} {B : Nat → Prop} (h : Ints w v xs) (k : Sav B w w') (hv : ∀ b, v.ownBlock = some b → ¬ B b) : Ints w' v xs := by
  rcases h with h | ⟨b, off, cap, rfl, h2, h3, h4⟩
  · exact .inl h
  · exact .inr ⟨b, off, cap, rfl, h2, h3, fun i hi => k.cell (h4 i hi) (hv b rfl)⟩
theorem Blk.sav {K : IntKind} {T : TypeId} {w w' : World} {g n : Nat} {f : Nat → Int} {B : Nat → Prop} (h : Blk K T w g n f) (k : Sav B w w') (hg : ¬ B g) : Blk K T w' g n f := h.same (k.block g h.lt hg)

/-- Block g holds n slices vs of numbers xs, each a row of its own, all of them laid at base or behind. -/
structure Lists (w : World) (g n : Nat) (vs : Nat → Value) (xs : Nat → List Int) (base : Nat) : Prop where
  cell : ∀ i, i < n → w.cell? ⟨g, i, none⟩ = some (vs i)
  free : ∀ i, i < n → w.frozen? ⟨g, i, none⟩ = false
  row : ∀ i, i < n → IntRow w (vs i) (xs i)
  own : ∀ i b, i < n → (vs i).ownBlock = some b → base ≤ b
  inj : ∀ i j b, i < n → j < n → i ≠ j → (vs i).ownBlock = some b → (vs j).ownBlock ≠ some b
  gb : g < base
section
variable {w w' : World} {g n base : Nat} {vs : Nat → Value} {xs : Nat → List Int} {B : Nat → Prop} {i : Nat} {v' : Value} {ys : List Int}
theorem Lists.sav (h : Lists w g n vs xs base) (k : Sav B w w') (hg : ¬ B g) (hb : ∀ i b, i < n → (vs i).ownBlock = some b → ¬ B b) : Lists w' g n vs xs base :=
  ⟨fun i hi => k.cell (h.cell i hi) hg, fun i hi => k.frozen (p := ⟨g, i, none⟩) (cell_lt (h.cell i hi)) (h.free i hi) hg, fun i hi => (h.row i hi).sav k (fun b e => hb i b hi e), h.own, h.inj, h.gb⟩
theorem Lists.gr (h : Lists w g n vs xs base) (k : Gr w w') : Lists w' g n vs xs base := h.sav (B := fun _ => False) (.of_gr k) id (fun _ _ _ _ => id)
/-- The row at i has grown. -/
theorem Lists.app (h : Lists w g n vs xs base) (hi : i < n) (hb : base ≤ w.heap.size) (hr : IntRow w' v' ys) (k : Sav (fun q => (vs i).ownBlock = some q) w w') (ho : ∀ b, v'.ownBlock = some b → (vs i).ownBlock = some b ∨ w.heap.size ≤ b) :
    w'.cell? ⟨g, i, none⟩ = some (vs i) ∧ w'.frozen? ⟨g, i, none⟩ = false ∧ Lists (w'.setCell ⟨g, i, none⟩ v') g n (updA vs i v') (updA xs i ys) base := by
  have hgb := h.gb
  have hgi : ¬ (vs i).ownBlock = some g := fun e => by have := h.own i g hi e; omega
  have hl : ∀ j, j < n → ∀ b, (vs j).ownBlock = some b → b < w.heap.size := fun j hj b e => Row.lt (h.row j hj) e
  have k2 : Sav (fun q => q = g) w' (w'.setCell ⟨g, i, none⟩ v') := .set g i v'
  have hvg : v'.ownBlock ≠ some g := fun e => by rcases ho g e with h1 | h1; exact hgi h1; omega
  refine ⟨k.cell (h.cell i hi) hgi, k.frozen (p := ⟨g, i, none⟩) (cell_lt (h.cell i hi)) (h.free i hi) hgi, fun j hj => ?_, fun j hj => ?_, fun j hj => ?_, fun j b hj e => ?_, fun j l b hj hl' hne e => ?_, hgb⟩
  · by_cases e : j = i
    · subst e
      rw [updA_at]
      exact World.cell?_setCell_same _ _ _ (k.cell (h.cell j hj) hgi)
    · rw [updA_ne _ _ e, World.cell?_setCell_other _ _ _ _ (fun e2 => e (by injection e2 with _ e3; exact e3.symm))]
      exact k.cell (h.cell j hj) hgi
  · simpa using k.frozen (p := ⟨g, j, none⟩) (cell_lt (h.cell j hj)) (h.free j hj) hgi
  · by_cases e : j = i
    · subst e
      rw [updA_at, updA_at]
      exact Row.sav hr k2 (fun b e2 e3 => hvg (by rw [e2, e3]))
    · rw [updA_ne _ _ e, updA_ne _ _ e]
      exact Row.sav (Row.sav (h.row j hj) k (fun b e2 e3 => h.inj i j b hi hj (fun e4 => e e4.symm) e3 e2)) k2 (fun b e2 e3 => by have := h.own j b hj e2; omega)
  · by_cases e2 : j = i
    · subst e2
      rw [updA_at] at e
      rcases ho b e with h1 | h1
      · exact h.own j b hj h1
      · omega
    · rw [updA_ne _ _ e2] at e
      exact h.own j b hj e
  · by_cases e2 : j = i
    · subst e2
      rw [updA_at] at e
      rw [updA_ne _ _ (fun e3 => hne e3.symm)]
      rcases ho b e with h1 | h1
      · exact h.inj j l b hj hl' hne h1
      · intro e4
        have := hl l hl' b e4
        omega
    · rw [updA_ne _ _ e2] at e
      by_cases e3 : l = i
      · subst e3
        rw [updA_at]
        intro e4
        rcases ho b e4 with h1 | h1
        · exact h.inj j l b hj hl' hne e h1
        · have := hl j hj b e
          omega
      · rw [updA_ne _ _ e3]
        exact h.inj j l b hj hl' hne e
/-- None yet. -/
theorem Lists.none (hc : ∀ i, i < n → w.cell? ⟨g, i, none⟩ = some (.slice none 0 0)) (hf : ∀ i, i < n → w.frozen? ⟨g, i, none⟩ = false) (hb : g < base) : Lists w g n (fun _ => .slice none 0 0) (fun _ => []) base :=
  ⟨hc, hf, fun i _ => IntRow.nil w, fun i b _ e => by simp [Value.ownBlock] at e, fun i j b _ _ _ e => by simp [Value.ownBlock] at e, hb⟩
end

/-- The blocks that Make works in: the plan, what is promised, when cells are through, how many have come, how many were sent. -/
structure MkB where
  p : Nat
  PB : Nat
  TB : Nat
  CB : Nat
  SB : Nat
def MkB.Apart (b : MkB) : Prop := b.p ≠ b.PB ∧ b.p ≠ b.TB ∧ b.p ≠ b.CB ∧ b.p ≠ b.SB ∧ b.PB ≠ b.TB ∧ b.PB ≠ b.CB ∧ b.PB ≠ b.SB ∧ b.TB ≠ b.CB ∧ b.TB ≠ b.SB ∧ b.CB ≠ b.SB
def MkB.In (b : MkB) (lo hi : Nat) : Prop := (lo ≤ b.p ∧ b.p < hi) ∧ (lo ≤ b.PB ∧ b.PB < hi) ∧ (lo ≤ b.TB ∧ b.TB < hi) ∧ (lo ≤ b.CB ∧ b.CB < hi) ∧ lo ≤ b.SB ∧ b.SB < hi
/-- In the midst of Make, all promises laid (in front of N): rows that grow lie at N or behind. -/
structure MkS (w wr : World) (b : MkB) (M N n : Nat) (pv : Nat → Value) (ds : Nat → List Int) (sv : Value) (sent : List Int) (tv : Nat → Value) (ts : Nat → List Int) (cf sf : Nat → Int) : Prop where
  p0 : wr.cell? ⟨b.p, 0, none⟩ = some sv
  p1 : wr.cell? ⟨b.p, 1, none⟩ = some (.slice (some ⟨b.PB, 0, none⟩) n n)
  p2 : wr.cell? ⟨b.p, 2, none⟩ = some (.slice (some ⟨b.TB, 0, none⟩) n n)
  f0 : wr.frozen? ⟨b.p, 0, none⟩ = false
  pc : ∀ i, i < n → wr.cell? ⟨b.PB, i, none⟩ = some (pv i)
  pr : ∀ i, i < n → Ints wr (pv i) (ds i)
  po : ∀ i g, i < n → (pv i).ownBlock = some g → M ≤ g ∧ g < N
  th : Lists wr b.TB n tv ts N
  co : Blk .i64 3 wr b.CB n cf
  se : Blk .i64 3 wr b.SB n sf
  row : IntRow wr sv sent
  ro : ∀ g, sv.ownBlock = some g → N ≤ g ∧ ∀ i, i < n → (tv i).ownBlock ≠ some g
  ap : b.Apart
  inn : b.In w.heap.size M
  MN : M ≤ N ∧ N ≤ wr.heap.size
  gr : Gr w wr
section
variable {w wr u u2 : World} {b : MkB} {M N n : Nat} {pv : Nat → Value} {ds : Nat → List Int} {sv : Value} {sent : List Int} {tv : Nat → Value} {ts : Nat → List Int} {cf sf : Nat → Int} {i : Nat} {v' : Value} {ys : List Int} {x : Int} {B : Nat → Prop}
theorem MkS.gr' (h : MkS w wr b M N n pv ds sv sent tv ts cf sf) (k : Gr wr u) : MkS w u b M N n pv ds sv sent tv ts cf sf :=
  ⟨k.cell h.p0, k.cell h.p1, k.cell h.p2, by rw [k.frozen (p := ⟨b.p, 0, none⟩) (cell_lt h.p0)]; exact h.f0, fun i hi => k.cell (h.pc i hi), fun i hi => (h.pr i hi).gr k, h.po, h.th.gr k, h.co.gr k, h.se.gr k, h.row.gr k, h.ro, h.ap, h.inn, ⟨h.MN.1, Nat.le_trans h.MN.2 k.size⟩, h.gr.trans k⟩
/-- one more has come -/
theorem MkS.come (h : MkS w wr b M N n pv ds sv sent tv ts cf sf) (i : Nat) (x : Int) : MkS w (wr.setCell ⟨b.CB, i, none⟩ (.int .i64 x)) b M N n pv ds sv sent tv ts (upd cf i x) sf := by
  have k : Sav (fun q => q = b.CB) wr (wr.setCell ⟨b.CB, i, none⟩ (.int .i64 x)) := .set b.CB i _
  obtain ⟨a1, a2, a3, a4, a5, a6, a7, a8, a9, a10⟩ := h.ap
  obtain ⟨⟨i1, i2⟩, ⟨i3, i4⟩, ⟨i5, i6⟩, ⟨i7, i8⟩, i9, i10⟩ := h.inn
  have hMN := h.MN
  exact ⟨k.cell h.p0 a3, k.cell h.p1 a3, k.cell h.p2 a3, k.frozen (p := ⟨b.p, 0, none⟩) (cell_lt h.p0) h.f0 a3, fun i hi => k.cell (h.pc i hi) a6, fun i hi => (h.pr i hi).sav k (fun g e e2 => by have := h.po i g hi e; omega), h.po,
    h.th.sav k a8 (fun i g hi e e2 => by have := h.th.own i g hi e; omega), h.co.set i x, h.se.sav k (fun e => a10 e.symm), Row.sav h.row k (fun g e e2 => by have := (h.ro g e).1; omega), h.ro, h.ap, h.inn, ⟨hMN.1, Nat.le_trans hMN.2 k.size⟩, Sav.gr h.gr k (fun q e => by omega)⟩
/-- one more is sent -/
theorem MkS.send (h : MkS w wr b M N n pv ds sv sent tv ts cf sf) (i : Nat) (x : Int) : MkS w (wr.setCell ⟨b.SB, i, none⟩ (.int .i64 x)) b M N n pv ds sv sent tv ts cf (upd sf i x) := by
  have k : Sav (fun q => q = b.SB) wr (wr.setCell ⟨b.SB, i, none⟩ (.int .i64 x)) := .set b.SB i _
  obtain ⟨a1, a2, a3, a4, a5, a6, a7, a8, a9, a10⟩ := h.ap
  obtain ⟨⟨i1, i2⟩, ⟨i3, i4⟩, ⟨i5, i6⟩, ⟨i7, i8⟩, i9, i10⟩ := h.inn
  have hMN := h.MN
  exact ⟨k.cell h.p0 a4, k.cell h.p1 a4, k.cell h.p2 a4, k.frozen (p := ⟨b.p, 0, none⟩) (cell_lt h.p0) h.f0 a4, fun i hi => k.cell (h.pc i hi) a7, fun i hi => (h.pr i hi).sav k (fun g e e2 => by have := h.po i g hi e; omega), h.po,
    h.th.sav k a9 (fun i g hi e e2 => by have := h.th.own i g hi e; omega), h.co.sav k a10, h.se.set i x, Row.sav h.row k (fun g e e2 => by have := (h.ro g e).1; omega), h.ro, h.ap, h.inn, ⟨hMN.1, Nat.le_trans hMN.2 k.size⟩, Sav.gr h.gr k (fun q e => by omega)⟩
/-- the list of those whose cells were sent has grown -/
theorem MkS.tell (h : MkS w wr b M N n pv ds sv sent tv ts cf sf) (hr : IntRow u v' ys) (k : Sav (fun q => sv.ownBlock = some q) wr u) (ho : ∀ g, v'.ownBlock = some g → sv.ownBlock = some g ∨ wr.heap.size ≤ g) :
    u.cell? ⟨b.p, 0, none⟩ = some sv ∧ u.frozen? ⟨b.p, 0, none⟩ = false ∧ MkS w (u.setCell ⟨b.p, 0, none⟩ v') b M N n pv ds v' ys tv ts cf sf := by
  have k2 : Sav (fun q => q = b.p) u (u.setCell ⟨b.p, 0, none⟩ v') := .set b.p 0 _
  obtain ⟨a1, a2, a3, a4, a5, a6, a7, a8, a9, a10⟩ := h.ap
  obtain ⟨⟨i1, i2⟩, ⟨i3, i4⟩, ⟨i5, i6⟩, ⟨i7, i8⟩, i9, i10⟩ := h.inn
  have hMN := h.MN
  have hlo : ∀ q, q < N → ¬ sv.ownBlock = some q := fun q hq e => by have := (h.ro q e).1; omega
  have lp := hlo b.p (by omega)
  have lPB := hlo b.PB (by omega)
  have lTB := hlo b.TB (by omega)
  have lCB := hlo b.CB (by omega)
  have lSB := hlo b.SB (by omega)
  have hp := k.cell h.p0 lp
  have hoth : ∀ j, j ≠ 0 → (u.setCell ⟨b.p, 0, none⟩ v').cell? ⟨b.p, j, none⟩ = u.cell? ⟨b.p, j, none⟩ := fun j hj => World.cell?_setCell_other _ _ _ _ (fun e => hj (by injection e with _ e2; exact e2.symm))
  have hv : ∀ g, v'.ownBlock = some g → N ≤ g := fun g e => by
    rcases ho g e with h1 | h1
    · exact (h.ro g h1).1
    · omega
  refine ⟨hp, k.frozen (p := ⟨b.p, 0, none⟩) (cell_lt h.p0) h.f0 lp, World.cell?_setCell_same _ _ _ hp, (hoth 1 (by decide)).trans (k.cell h.p1 lp), (hoth 2 (by decide)).trans (k.cell h.p2 lp),
    by simpa using k.frozen (p := ⟨b.p, 0, none⟩) (cell_lt h.p0) h.f0 lp, fun i hi => k2.cell (k.cell (h.pc i hi) lPB) (fun e => a1 e.symm),
    fun i hi => ((h.pr i hi).sav k (fun g e => hlo g (h.po i g hi e).2)).sav k2 (fun g e e2 => by have := h.po i g hi e; omega), h.po,
    (h.th.sav k lTB (fun i g hi e e2 => (h.ro g e2).2 i hi e)).sav k2 (fun e => a2 e.symm) (fun i g hi e e2 => by have := h.th.own i g hi e; omega),
    (h.co.sav k lCB).sav k2 (fun e => a3 e.symm), (h.se.sav k lSB).sav k2 (fun e => a4 e.symm), Row.sav hr k2 (fun g e e2 => by have := hv g e; omega),
    fun g e => ⟨hv g e, fun i hi e2 => ?_⟩, h.ap, h.inn, ⟨hMN.1, Nat.le_trans hMN.2 (Nat.le_trans k.size k2.size)⟩, Sav.gr (Sav.gr h.gr k (fun q e => by have := (h.ro q e).1; omega)) k2 (fun q e => by omega)⟩
  rcases ho g e with h1 | h1
  · exact (h.ro g h1).2 i hi e2
  · have := Row.lt (h.th.row i hi) e2
    omega
/-- flow i's list has grown -/
theorem MkS.thru (h : MkS w wr b M N n pv ds sv sent tv ts cf sf) (hi : i < n) (hr : IntRow u v' ys) (k : Sav (fun q => (tv i).ownBlock = some q) wr u) (ho : ∀ g, v'.ownBlock = some g → (tv i).ownBlock = some g ∨ wr.heap.size ≤ g) :
    u.cell? ⟨b.TB, i, none⟩ = some (tv i) ∧ u.frozen? ⟨b.TB, i, none⟩ = false ∧ MkS w (u.setCell ⟨b.TB, i, none⟩ v') b M N n pv ds sv sent (updA tv i v') (updA ts i ys) cf sf := by
  have k2 : Sav (fun q => q = b.TB) u (u.setCell ⟨b.TB, i, none⟩ v') := .set b.TB i _
  obtain ⟨a1, a2, a3, a4, a5, a6, a7, a8, a9, a10⟩ := h.ap
  obtain ⟨⟨i1, i2⟩, ⟨i3, i4⟩, ⟨i5, i6⟩, ⟨i7, i8⟩, i9, i10⟩ := h.inn
  have hMN := h.MN
  have hlo : ∀ q, q < N → ¬ (tv i).ownBlock = some q := fun q hq e => by have := h.th.own i q hi e; omega
  have lp := hlo b.p (by omega)
  have lPB := hlo b.PB (by omega)
  have lTB := hlo b.TB (by omega)
  have lCB := hlo b.CB (by omega)
  have lSB := hlo b.SB (by omega)
  obtain ⟨t1, t2, t3⟩ := h.th.app hi hMN.2 hr k ho
  refine ⟨t1, t2, k2.cell (k.cell h.p0 lp) a2, k2.cell (k.cell h.p1 lp) a2, k2.cell (k.cell h.p2 lp) a2,
    by simpa using k.frozen (p := ⟨b.p, 0, none⟩) (cell_lt h.p0) h.f0 lp, fun j hj => k2.cell (k.cell (h.pc j hj) lPB) a5,
    fun j hj => ((h.pr j hj).sav k (fun g e => hlo g (h.po j g hj e).2)).sav k2 (fun g e e2 => by have := h.po j g hj e; omega), h.po, t3,
    (h.co.sav k lCB).sav k2 (fun e => a8 e.symm), (h.se.sav k lSB).sav k2 (fun e => a9 e.symm),
    Row.sav (Row.sav h.row k (fun g e e2 => (h.ro g e).2 i hi e2)) k2 (fun g e e2 => by have := (h.ro g e).1; omega),
    fun g e => ⟨(h.ro g e).1, fun j hj e2 => ?_⟩, h.ap, h.inn, ⟨hMN.1, Nat.le_trans hMN.2 (Nat.le_trans k.size k2.size)⟩, Sav.gr (Sav.gr h.gr k (fun q e => by have := h.th.own i q hi e; omega)) k2 (fun q e => by omega)⟩
  by_cases e3 : j = i
  · subst e3
    rw [updA_at] at e2
    rcases ho g e2 with h1 | h1
    · exact (h.ro g e).2 j hj h1
    · have := Row.lt h.row e
      omega
  · rw [updA_ne _ _ e3] at e2
    exact (h.ro g e).2 j hj e2
end
end Go.Proofs.YtfdmmfjheiiiiaaDoor

/-
  A queue that lets no more go than a bucket has: how it lies, the program's and the reference's alike; as a side of a play. No walk here.
-/
import Derived.Test.YtgifghbnpdanhaaGreatDoorShaperPlaysPart11
namespace Go.Proofs.YtgifghbnpdanhaaGreatDoor
open Go.RowKit

/-- How what is at hand lies. -/
structure NKind where
  at_ : World → Value → Option Hel → Prop
  blk : Value → Option Nat
  lt : ∀ {w v h g}, at_ w v h → blk v = some g → g < w.heap.size
  keep : ∀ {w w' v h} {B : Nat → Prop}, at_ w v h → Sav B w w' → (∀ g, blk v = some g → ¬ B g) → at_ w' v h
  norat : ∀ {w v h g}, at_ w v h → blk v = some g → NoRatB w g
/-- The program's: a pointer to it. -/
def ptBlk : Value → Option Nat
  | .pointer (some a) => some a.block
  | _ => none
def ptAt (w : World) (v : Value) : Option Hel → Prop
  | none => v = .pointer none
  | some x => ∃ g, v = .pointer (some ⟨g, 0, none⟩) ∧ HelAt w g 0 x
def nkP : NKind where
  at_ := ptAt
  blk := ptBlk
  lt {w v h g} hv hg := by
    cases h with
    | none => rw [show v = .pointer none from hv] at hg; cases hg
    | some x => obtain ⟨q, rfl, h1⟩ := hv; cases hg; exact cell_lt h1.c0
  keep {w w' v h B} hv k hB := by
    cases h with
    | none => exact hv
    | some x => obtain ⟨q, rfl, h1⟩ := hv; exact ⟨q, rfl, h1.sav k (hB q rfl)⟩
  norat {w v h g} hv hg := by
    cases h with
    | none => rw [show v = .pointer none from hv] at hg; cases hg
    | some x => obtain ⟨q, rfl, h1⟩ := hv; cases hg; exact .of_cell h1.c0 (fun b e => by cases e) (fun x e => by cases e)
/-- The reference's: a slice of none or one. -/
def nkR : NKind where
  at_ w v h := RowH 95 w v h.toList
  blk v := v.ownBlock
  lt hv hg := RowH.lt hv hg
  keep hv k hB := RowH.sav hv k hB
  norat hv hg := .row hv (fun b ⟨_, e⟩ => by cases e) (fun x ⟨_, e⟩ => by cases e) hg

section
variable {α : Type} {U : Mach α} {N0 : Nat}
/-- What it may write. -/
def SPF (N : NKind) (p tp : Nat) (lv nv : Value) (F : Nat → Prop) (g : Nat) : Prop := g = p ∨ g = tp ∨ lv.ownBlock = some g ∨ N.blk nv = some g ∨ F g
structure ShpAt (K : BKind) (N : NKind) (E : TypeId) (S : Side U N0 (Nat → Prop)) (q : Value) (B : Bkt) (mu : α → Nat) (p tp : Nat) (w : World) (lv nv : Value) (F : Nat → Prop) (s : Shp α) (n : Nat) : Prop where
  c0 : w.cell? ⟨p, 0, none⟩ = some q
  c1 : w.cell? ⟨p, 1, none⟩ = some (.pointer (some ⟨tp, 0, none⟩))
  c2 : w.cell? ⟨p, 2, none⟩ = some nv
  c3 : w.cell? ⟨p, 3, none⟩ = some lv
  f2 : w.frozen? ⟨p, 2, none⟩ = false
  f3 : w.frozen? ⟨p, 3, none⟩ = false
  nx : N.at_ w nv s.held
  row : RowH E w lv s.lost
  st : K.at_ w tp B s.t
  t0 : w.cell? ⟨tp, 0, none⟩ = some (.int .i64 (B.b : Int))
  t2 : w.cell? ⟨tp, 2, none⟩ = some (.int .i64 (B.r : Int))
  ok : B.Ok s.t
  sub : S.I w F s.a n
  ap : p ≠ tp
  pF : ¬ F p
  tF : ¬ F tp
  lo : ∀ g, lv.ownBlock = some g → (N0 ≤ g ∧ g ≠ p ∧ g ≠ tp) ∧ ¬ F g ∧ N.blk nv ≠ some g
  no : ∀ g, N.blk nv = some g → (N0 ≤ g ∧ g ≠ p ∧ g ≠ tp) ∧ ¬ F g
  n0 : N0 ≤ p ∧ N0 ≤ tp
  mass : muS mu s ≤ n ∧ n ≤ 200
  lens : ∀ x, s.held = some x → 0 ≤ x.len ∧ x.len ≤ 10000
variable {K : BKind} {N : NKind} {E : TypeId} {S : Side U N0 (Nat → Prop)} {q : Value} {B : Bkt} {mu : α → Nat} {p tp : Nat} {w w' : World} {lv nv : Value} {F F' : Nat → Prop} {s : Shp α} {n n' : Nat}
theorem ShpAt.plt (h : ShpAt K N E S q B mu p tp w lv nv F s n) : p < w.heap.size := cell_lt h.c0
theorem ShpAt.flt (hF : ∀ b g, S.F b g ↔ b g) (h : ShpAt K N E S q B mu p tp w lv nv F s n) {g : Nat} (hg : SPF N p tp lv nv F g) : g < w.heap.size := by
  rcases hg with e | e | e | e | e
  · rw [e]; exact h.plt
  · rw [e]; exact (K.mine h.st).lt
  · exact h.row.lt e
  · exact N.lt h.nx e
  · exact S.lt h.sub ((hF _ _).2 e)
theorem ShpAt.flo (hF : ∀ b g, S.F b g ↔ b g) (h : ShpAt K N E S q B mu p tp w lv nv F s n) {g : Nat} (hg : SPF N p tp lv nv F g) : N0 ≤ g := by
  rcases hg with e | e | e | e | e
  · rw [e]; exact h.n0.1
  · rw [e]; exact h.n0.2
  · exact (h.lo g e).1.1
  · exact (h.no g e).1.1
  · exact S.lo h.sub ((hF _ _).2 e)
theorem ShpAt.norat (hq : ∃ t v, q = .iface t v) (hF : ∀ b g, S.F b g ↔ b g) (h : ShpAt K N E S q B mu p tp w lv nv F s n) {g : Nat} (hg : SPF N p tp lv nv F g) : NoRatB w g := by
  obtain ⟨t, v, rfl⟩ := hq
  rcases hg with e | e | e | e | e
  · rw [e]; exact .of_cell h.c0 (fun b e => by cases e) (fun x e => by cases e)
  · rw [e]; exact .of_cell h.t0 (fun b e => by cases e) (fun x e => by cases e)
  · exact .row h.row (fun b ⟨_, e⟩ => by cases e) (fun x ⟨_, e⟩ => by cases e) e
  · exact N.norat h.nx e
  · exact S.norat h.sub ((hF _ _).2 e)
theorem ShpAt.sav (hF : ∀ b g, S.F b g ↔ b g) (h : ShpAt K N E S q B mu p tp w lv nv F s n) {C : Nat → Prop} (k : Sav C w w') (kc : KeepC w w') (hC : ∀ g, C g → N0 ≤ g ∧ ¬ SPF N p tp lv nv F g) : ShpAt K N E S q B mu p tp w' lv nv F s n := by
  have hp : ¬ C p := fun e => (hC p e).2 (.inl rfl)
  have ht : ¬ C tp := fun e => (hC tp e).2 (.inr (.inl rfl))
  exact ⟨k.cell h.c0 hp, k.cell h.c1 hp, k.cell h.c2 hp, k.cell h.c3 hp, k.frozen (p := ⟨p, 2, none⟩) h.plt h.f2 hp, k.frozen (p := ⟨p, 3, none⟩) h.plt h.f3 hp,
    N.keep h.nx k (fun g e e2 => (hC g e2).2 (.inr (.inr (.inr (.inl e))))), h.row.sav k (fun g e e2 => (hC g e2).2 (.inr (.inr (.inl e)))), K.keep h.st (k.block _ (K.mine h.st).lt ht) kc, k.cell h.t0 ht, k.cell h.t2 ht, h.ok,
    S.sav h.sub k kc (fun g e => ⟨(hC g e).1, fun e2 => (hC g e).2 (.inr (.inr (.inr (.inr ((hF _ _).1 e2)))))⟩), h.ap, h.pF, h.tF, h.lo, h.no, h.n0, h.mass, h.lens⟩
theorem ShpAt.gr (hF : ∀ b g, S.F b g ↔ b g) (h : ShpAt K N E S q B mu p tp w lv nv F s n) (k : Gr w w') : ShpAt K N E S q B mu p tp w' lv nv F s n := h.sav hF (C := fun _ => False) (.of_gr k) (.of_gr k) (fun _ e => e.elim)
/-- In the midst of a call that began at w0. -/
structure ShpM (K : BKind) (N : NKind) (E : TypeId) (S : Side U N0 (Nat → Prop)) (q : Value) (B : Bkt) (mu : α → Nat) (p tp : Nat) (w0 : World) (lv0 nv0 : Value) (F0 : Nat → Prop) (w : World) (lv nv : Value) (F : Nat → Prop) (s : Shp α) (n : Nat) : Prop where
  at_ : ShpAt K N E S q B mu p tp w lv nv F s n
  sav : Sav (SPF N p tp lv0 nv0 F0) w0 w
  new : ∀ g, SPF N p tp lv nv F g → SPF N p tp lv0 nv0 F0 g ∨ w0.heap.size ≤ g
variable {w0 : World} {lv0 nv0 : Value} {F0 : Nat → Prop}
theorem ShpM.start (h : ShpAt K N E S q B mu p tp w lv nv F s n) : ShpM K N E S q B mu p tp w lv nv F w lv nv F s n := ⟨h, .refl _ _, fun _ e => .inl e⟩
theorem ShpM.gr (hF : ∀ b g, S.F b g ↔ b g) (h : ShpM K N E S q B mu p tp w0 lv0 nv0 F0 w lv nv F s n) (k : Gr w w') : ShpM K N E S q B mu p tp w0 lv0 nv0 F0 w' lv nv F s n := ⟨h.at_.gr hF k, h.sav.then (.of_gr k), h.new⟩
theorem ShpM.trans {w1 : World} {lv1 nv1 : Value} {F1 : Nat → Prop} {s1 : Shp α} {n1 : Nat} (h : ShpM K N E S q B mu p tp w0 lv0 nv0 F0 w1 lv1 nv1 F1 s1 n1) (k : ShpM K N E S q B mu p tp w1 lv1 nv1 F1 w lv nv F s n) : ShpM K N E S q B mu p tp w0 lv0 nv0 F0 w lv nv F s n :=
  ⟨k.at_, h.sav.trans k.sav h.new, fun g e => (k.new g e).elim (h.new g) (fun e2 => .inr (Nat.le_trans h.sav.size e2))⟩
/-- What is the call's own, made since it began. -/
theorem ShpM.own (hF : ∀ b g, S.F b g ↔ b g) (h : ShpM K N E S q B mu p tp w0 lv0 nv0 F0 w lv nv F s n) (hN : N0 ≤ w0.heap.size) {C : Nat → Prop} (k : Sav C w w') (kc : KeepC w w') (hC : ∀ g, C g → w0.heap.size ≤ g ∧ ¬ SPF N p tp lv nv F g) : ShpM K N E S q B mu p tp w0 lv0 nv0 F0 w' lv nv F s n :=
  ⟨h.at_.sav hF k kc (fun g e => ⟨Nat.le_trans hN (hC g e).1, (hC g e).2⟩), h.sav.trans k (fun g e => .inr (hC g e).1), h.new⟩
/-- The queue within. -/
theorem ShpM.sub (hF : ∀ b g, S.F b g ↔ b g) (h : ShpM K N E S q B mu p tp w0 lv0 nv0 F0 w lv nv F s n) {a' : α} (m : S.Moved w F w' F' a' n') (hm : muS mu ⟨a', s.t, s.held, s.lost⟩ ≤ n' ∧ n' ≤ 200) : ShpM K N E S q B mu p tp w0 lv0 nv0 F0 w' lv nv F' ⟨a', s.t, s.held, s.lost⟩ n' := by
  have k : Sav F w w' := m.sav.mono fun g hg => (hF _ g).1 hg
  have kc : KeepC w w' := .of_sav m.sav fun g hg => S.norat h.at_.sub hg
  have hn : ∀ g, F' g → F g ∨ w.heap.size ≤ g := fun g hg => (m.new g ((hF _ _).2 hg)).imp (hF _ _).1 id
  have a := h.at_
  have hlt : ∀ g, SPF N p tp lv nv F g → g < w.heap.size := fun g e => a.flt hF e
  have hx : ∀ g, SPF N p tp lv nv F g → ¬ F g → ¬ F' g := fun g h1 h2 h3 => (hn g h3).elim h2 (fun h4 => by have := hlt g h1; omega)
  refine ⟨⟨k.cell a.c0 a.pF, k.cell a.c1 a.pF, k.cell a.c2 a.pF, k.cell a.c3 a.pF, k.frozen (p := ⟨p, 2, none⟩) a.plt a.f2 a.pF, k.frozen (p := ⟨p, 3, none⟩) a.plt a.f3 a.pF,
    N.keep a.nx k (fun g e => (a.no g e).2), a.row.sav k (fun g e => (a.lo g e).2.1), K.keep a.st (k.block _ (K.mine a.st).lt a.tF) kc, k.cell a.t0 a.tF, k.cell a.t2 a.tF, a.ok, m.inv, a.ap, hx p (.inl rfl) a.pF, hx tp (.inr (.inl rfl)) a.tF,
    fun g e => ⟨(a.lo g e).1, hx g (.inr (.inr (.inl e))) (a.lo g e).2.1, (a.lo g e).2.2⟩, fun g e => ⟨(a.no g e).1, hx g (.inr (.inr (.inr (.inl e)))) (a.no g e).2⟩, a.n0, hm, a.lens⟩, h.sav.trans k (fun g e => h.new g (.inr (.inr (.inr (.inr e))))), fun g e => ?_⟩
  rcases e with e | e | e | e | e
  · exact h.new g (.inl e)
  · exact h.new g (.inr (.inl e))
  · exact h.new g (.inr (.inr (.inl e)))
  · exact h.new g (.inr (.inr (.inr (.inl e))))
  · exact (hn g e).elim (fun e => h.new g (.inr (.inr (.inr (.inr e))))) (fun e => .inr (Nat.le_trans h.sav.size e))
/-- The bucket. -/
theorem ShpM.tok (hF : ∀ b g, S.F b g ↔ b g) (h : ShpM K N E S q B mu p tp w0 lv0 nv0 F0 w lv nv F s n) {t' : BSt} (hs : K.at_ w' tp B t') (ho : Only tp 3 w w') (hok : B.Ok t') : ShpM K N E S q B mu p tp w0 lv0 nv0 F0 w' lv nv F ⟨s.a, t', s.held, s.lost⟩ n := by
  have a := h.at_
  have k := Sav.of_only ho
  have kc := KeepC.only (K.mine a.st) ho
  have hlt := (K.mine a.st).lt
  exact ⟨⟨k.cell a.c0 a.ap, k.cell a.c1 a.ap, k.cell a.c2 a.ap, k.cell a.c3 a.ap, k.frozen (p := ⟨p, 2, none⟩) a.plt a.f2 a.ap, k.frozen (p := ⟨p, 3, none⟩) a.plt a.f3 a.ap,
    N.keep a.nx k (fun g e => (a.no g e).1.2.2), a.row.sav k (fun g e => (a.lo g e).1.2.2), hs, (ho.cell tp 0 hlt (.inr ⟨by decide, by decide⟩)).trans a.t0, (ho.cell tp 2 hlt (.inr ⟨by decide, by decide⟩)).trans a.t2, hok,
    S.sav a.sub k kc (fun g e => ⟨by rw [e]; exact a.n0.2, fun e2 => a.tF (by rw [← e]; exact (hF _ _).1 e2)⟩), a.ap, a.pF, a.tF, a.lo, a.no, a.n0, a.mass, a.lens⟩, h.sav.trans k (fun g e => h.new g (.inr (.inl e))), h.new⟩
/-- The list of those lost. -/
theorem ShpM.lost (hF : ∀ b g, S.F b g ↔ b g) (hq : ∃ t v, q = .iface t v) (hN : N0 ≤ w0.heap.size) (h : ShpM K N E S q B mu p tp w0 lv0 nv0 F0 w lv nv F s n) {lv' : Value} {ys : List Hel} (k : Sav (fun g => lv.ownBlock = some g) w w') (hr : RowH E w' lv' ys) (ho : ∀ g, lv'.ownBlock = some g → lv.ownBlock = some g ∨ w.heap.size ≤ g) (hm : muS mu ⟨s.a, s.t, s.held, ys⟩ ≤ n) :
    w'.cell? ⟨p, 3, none⟩ = some lv ∧ w'.frozen? ⟨p, 3, none⟩ = false ∧ ShpM K N E S q B mu p tp w0 lv0 nv0 F0 (w'.setCell ⟨p, 3, none⟩ lv') lv' nv F ⟨s.a, s.t, s.held, ys⟩ n := by
  have a := h.at_
  have kc : KeepC w w' := .of_sav k fun g e => a.norat hq hF (.inr (.inr (.inl e)))
  have hp : lv.ownBlock ≠ some p := fun e => (a.lo p e).1.2.1 rfl
  have ht : lv.ownBlock ≠ some tp := fun e => (a.lo tp e).1.2.2 rfl
  have hlt : ∀ g, SPF N p tp lv nv F g → g < w.heap.size := fun g e => a.flt hF e
  have hsz : w0.heap.size ≤ w.heap.size := h.sav.size
  have d3 := k.cell a.c3 hp
  have e3 := k.frozen (p := ⟨p, 3, none⟩) a.plt a.f3 hp
  have d0 := k.cell a.c0 hp
  have k2 : Sav (fun g => g = p) w' (w'.setCell ⟨p, 3, none⟩ lv') := .set p 3 lv'
  have hq0 : NoRatB w' p := by
    obtain ⟨t, v, rfl⟩ := hq
    exact .of_cell d0 (fun b e => by cases e) (fun x e => by cases e)
  have kc2 : KeepC w' (w'.setCell ⟨p, 3, none⟩ lv') := .of_sav k2 fun g e => by rw [e]; exact hq0
  have hne : ∀ {j : Nat}, j ≠ 3 → (w'.setCell ⟨p, 3, none⟩ lv').cell? ⟨p, j, none⟩ = w'.cell? ⟨p, j, none⟩ := fun {j} hj => World.cell?_setCell_other _ _ _ _ (fun e => hj (by injection e with _ e2; exact e2.symm))
  have hlo : ∀ g, lv'.ownBlock = some g → (N0 ≤ g ∧ g ≠ p ∧ g ≠ tp) ∧ ¬ F g ∧ N.blk nv ≠ some g := fun g e => by
    rcases ho g e with e2 | e2
    · exact a.lo g e2
    · exact ⟨⟨by omega, fun e3 => by have := a.plt; omega, fun e3 => by have := (K.mine a.st).lt; omega⟩, fun e3 => by have := hlt g (.inr (.inr (.inr (.inr e3)))); omega, fun e3 => by have := hlt g (.inr (.inr (.inr (.inl e3)))); omega⟩
  have hst : K.at_ w' tp B s.t := K.keep a.st (k.block _ (K.mine a.st).lt ht) kc
  refine ⟨d3, e3, ⟨(hne (by decide)).trans d0, (hne (by decide)).trans (k.cell a.c1 hp), (hne (by decide)).trans (k.cell a.c2 hp), World.cell?_setCell_same _ _ _ d3, by simpa using k.frozen (p := ⟨p, 2, none⟩) a.plt a.f2 hp, by simpa using e3,
    N.keep (N.keep a.nx k (fun g e e2 => (a.lo g e2).2.2 e)) k2 (fun g e e2 => (a.no g e).1.2.1 e2), hr.sav k2 (fun g e => (hlo g e).1.2.1), K.keep hst (k2.block _ (K.mine hst).lt (fun e => a.ap e.symm)) kc2, k2.cell (k.cell a.t0 ht) (fun e => a.ap e.symm), k2.cell (k.cell a.t2 ht) (fun e => a.ap e.symm), a.ok,
    S.sav (S.sav a.sub k kc (fun g e => ⟨(a.lo g e).1.1, fun e2 => (a.lo g e).2.1 ((hF _ _).1 e2)⟩)) k2 kc2 (fun g e => ⟨by rw [e]; exact a.n0.1, fun e2 => a.pF (by rw [← e]; exact (hF _ _).1 e2)⟩), a.ap, a.pF, a.tF, hlo, a.no, a.n0, ⟨hm, a.mass.2⟩, a.lens⟩,
    (h.sav.trans k (fun g e => h.new g (.inr (.inr (.inl e))))).trans k2 (fun g e => h.new g (.inl e)), fun g e => ?_⟩
  rcases e with e | e | e | e | e
  · exact h.new g (.inl e)
  · exact h.new g (.inr (.inl e))
  · exact (ho g e).elim (fun e => h.new g (.inr (.inr (.inl e)))) (fun e => .inr (by omega))
  · exact h.new g (.inr (.inr (.inr (.inl e))))
  · exact h.new g (.inr (.inr (.inr (.inr e))))
/-- What is at hand. -/
theorem ShpM.next (hF : ∀ b g, S.F b g ↔ b g) (hq : ∃ t v, q = .iface t v) (hN : N0 ≤ w0.heap.size) (h : ShpM K N E S q B mu p tp w0 lv0 nv0 F0 w lv nv F s n) {nv' : Value} {hd : Option Hel} (hx : N.at_ w nv' hd) (ho : ∀ g, N.blk nv' = some g → w0.heap.size ≤ g ∧ ¬ SPF N p tp lv nv F g) (hm : muS mu ⟨s.a, s.t, hd, s.lost⟩ ≤ n) (hl : ∀ x, hd = some x → 0 ≤ x.len ∧ x.len ≤ 10000) :
    ShpM K N E S q B mu p tp w0 lv0 nv0 F0 (w.setCell ⟨p, 2, none⟩ nv') lv nv' F ⟨s.a, s.t, hd, s.lost⟩ n := by
  have a := h.at_
  have k2 : Sav (fun g => g = p) w (w.setCell ⟨p, 2, none⟩ nv') := .set p 2 nv'
  have kc2 : KeepC w (w.setCell ⟨p, 2, none⟩ nv') := .of_sav k2 fun g e => by rw [e]; exact a.norat hq hF (.inl rfl)
  have hne : ∀ {j : Nat}, j ≠ 2 → (w.setCell ⟨p, 2, none⟩ nv').cell? ⟨p, j, none⟩ = w.cell? ⟨p, j, none⟩ := fun {j} hj => World.cell?_setCell_other _ _ _ _ (fun e => hj (by injection e with _ e2; exact e2.symm))
  refine ⟨⟨(hne (by decide)).trans a.c0, (hne (by decide)).trans a.c1, World.cell?_setCell_same _ _ _ a.c2, (hne (by decide)).trans a.c3, by simpa using a.f2, by simpa using a.f3,
    N.keep hx k2 (fun g e e2 => (ho g e).2 (.inl e2)), a.row.sav k2 (fun g e => (a.lo g e).1.2.1), K.keep a.st (k2.block _ (K.mine a.st).lt (fun e => a.ap e.symm)) kc2, k2.cell a.t0 (fun e => a.ap e.symm), k2.cell a.t2 (fun e => a.ap e.symm), a.ok,
    S.sav a.sub k2 kc2 (fun g e => ⟨by rw [e]; exact a.n0.1, fun e2 => a.pF (by rw [← e]; exact (hF _ _).1 e2)⟩), a.ap, a.pF, a.tF, fun g e => ⟨(a.lo g e).1, (a.lo g e).2.1, fun e2 => (ho g e2).2 (.inr (.inr (.inl e)))⟩,
    fun g e => ⟨⟨Nat.le_trans hN (ho g e).1, fun e2 => (ho g e).2 (.inl e2), fun e2 => (ho g e).2 (.inr (.inl e2))⟩, fun e2 => (ho g e).2 (.inr (.inr (.inr (.inr e2))))⟩, a.n0, ⟨hm, a.mass.2⟩, hl⟩, h.sav.trans k2 (fun g e => h.new g (.inl e)), fun g e => ?_⟩
  rcases e with e | e | e | e | e
  · exact h.new g (.inl e)
  · exact h.new g (.inr (.inl e))
  · exact h.new g (.inr (.inr (.inl e)))
  · exact .inr (ho g e).1
  · exact h.new g (.inr (.inr (.inr (.inr e))))
/-- As a side of a play. -/
def shSide (K : BKind) (N : NKind) (E : TypeId) (S : Side U N0 (Nat → Prop)) (q : Value) (B : Bkt) (mu : α → Nat) (p tp : Nat) (hq : ∃ t v, q = .iface t v) (hF : ∀ b g, S.F b g ↔ b g) : Side (shaper U B) N0 (Nat → Prop) where
  I w G s n := ∃ lv nv F, ShpAt K N E S q B mu p tp w lv nv F s n ∧ ∀ g, G g ↔ SPF N p tp lv nv F g
  F b g := b g
  lo {w G s n g} h hg := by obtain ⟨lv, nv, F, h1, h2⟩ := h; exact h1.flo hF ((h2 g).1 hg)
  lt {w G s n g} h hg := by obtain ⟨lv, nv, F, h1, h2⟩ := h; exact h1.flt hF ((h2 g).1 hg)
  norat {w G s n g} h hg := by obtain ⟨lv, nv, F, h1, h2⟩ := h; exact h1.norat hq hF ((h2 g).1 hg)
  sav {w w' G s n C} h k kc hC := by obtain ⟨lv, nv, F, h1, h2⟩ := h; exact ⟨lv, nv, F, h1.sav hF k kc (fun g e => ⟨(hC g e).1, fun e2 => (hC g e).2 ((h2 g).2 e2)⟩), h2⟩
theorem shSide_moved {hq : ∃ t v, q = .iface t v} {hF : ∀ b g, S.F b g ↔ b g} {G : Nat → Prop} (h2 : ∀ g, G g ↔ SPF N p tp lv0 nv0 F0 g) (h : ShpM K N E S q B mu p tp w0 lv0 nv0 F0 w lv nv F s n) : (shSide K N E S q B mu p tp hq hF).Moved w0 G w (SPF N p tp lv nv F) s n :=
  ⟨⟨lv, nv, F, h.at_, fun _ => Iff.rfl⟩, h.sav.mono fun g e => (h2 g).2 e, fun g e => (h.new g e).imp (h2 g).2 id⟩
end
end Go.Proofs.YtgifghbnpdanhaaGreatDoor

/-
  A program of actions in memory, the code's and the reference's alike: its list, its buckets, its counters. One packet's way through a program of actions: what stands in memory meanwhile.
-/
import Derived.Test.YtjghgafeoimgiaaDoorActA
import Derived.Test.YtjghgafeoimgiaaDoorBktM
import Derived.Test.YtjghgafeoimgiaaDoorRowN
import Derived.Test.YtjghgafeoimgiaaDoorItemA
namespace Go.Proofs.YtjghgafeoimgiaaDoor
open Go.RowKit

theorem Sav.of_only {p o : Nat} {w w' : World} (h : Only p o w w') : Sav (fun q => q = p) w w' := by
  have g : Gr { w with heap := #[] } w' := h.gr { w with heap := #[] } ⟨rfl, rfl, rfl, Nat.zero_le _, fun k hk => absurd hk (by simp)⟩ (Nat.zero_le _)
  exact ⟨g.os, g.tape, g.output, h.size, fun k hk hb => h.block k hk hb⟩

/-- All rationals are kept. -/
structure KeepC (w w' : World) : Prop where
  rat : ∀ g x T, RatV w g x T → RatV w' g x T
theorem KeepC.refl (w : World) : KeepC w w := ⟨fun _ _ _ h => h⟩
theorem KeepC.trans {a b c : World} (h : KeepC a b) (k : KeepC b c) : KeepC a c := ⟨fun g x T r => k.rat g x T (h.rat g x T r)⟩
theorem KeepC.of_gr {w w' : World} (h : Gr w w') : KeepC w w' := ⟨fun _ _ _ r => r.gr h⟩
theorem KeepC.only {w w' : World} {p : Nat} (hm : Mine w p) (h : Only p 3 w w') : KeepC w w' := ⟨fun _ _ _ r => r.mine hm h⟩
theorem KeepC.row {E : TypeId} {size n : Nat} {K : Value → Prop} {v : Value} {xs : List Value} {w w' : World} (hr : Row E size K w v n xs) (hK : NoRat K) (k : w.grownBy w' v.ownBlock) : KeepC w w' := ⟨fun _ _ _ r => r.row hr hK k⟩
theorem KeepC.set {w : World} {p i : Nat} (u : Value) (h1 : ∀ x, w.cell? ⟨p, i, none⟩ ≠ some (.int .u32 x)) (h2 : ∀ b, w.cell? ⟨p, i, none⟩ ≠ some (.bool b)) (h3 : ∀ o b a n c, o + 1 = i → w.cell? ⟨p, o, none⟩ = some (.bool b) → w.cell? ⟨p, i, none⟩ ≠ some (.slice a n c)) : KeepC w (w.setCell ⟨p, i, none⟩ u) := by
  have hn : ∀ {v' N}, Num w v' N → Num (w.setCell ⟨p, i, none⟩ u) v' N := fun {v' N} ⟨n, f, ⟨a, cap, k1, k2, k3, k4⟩, k5, k6⟩ => ⟨n, f, ⟨a, cap, k1, k2, fun h0 => by
    obtain ⟨g, k7, k8⟩ := k3 h0
    refine ⟨g, k7, fun j hj => ?_⟩
    rw [World.cell?_setCell_other _ _ _ _ (fun e => by
      have e1 := k8 j hj
      rw [← e] at e1
      exact h1 _ e1)]
    exact k8 j hj, k4⟩, k5, k6⟩
  have hi : ∀ {q o x}, IntAt w q o x → IntAt (w.setCell ⟨p, i, none⟩ u) q o x := fun {q o x} hx => by
    obtain ⟨c0, a, n, c, c1, hN⟩ := hx.open
    refine ⟨?_, _, ?_, hn hN⟩
    · rw [World.cell?_setCell_other _ _ _ _ (fun e => by rw [← e] at c0; exact h2 _ c0)]
      exact c0
    · rw [World.cell?_setCell_other _ _ _ _ (fun e => by
        have e1 : p = q ∧ i = o + 1 := by simpa using e
        rw [← e] at c1
        exact h3 o _ a n c e1.2.symm (by rw [e1.1]; exact c0) c1)]
      exact c1
  exact ⟨fun g x T ⟨h0, a, d, ⟨k1, k2, k3, k4⟩, k5⟩ => ⟨h0, a, d, ⟨hi k1, hi k2, k3, k4⟩, k5⟩⟩
theorem KeepC.setInt {w : World} {p i : Nat} {x : Int} (u : Value) (h : w.cell? ⟨p, i, none⟩ = some (.int .i64 x)) : KeepC w (w.setCell ⟨p, i, none⟩ u) :=
  .set u (fun y e => by rw [h] at e; simp at e) (fun b e => by rw [h] at e; simp at e) (fun o b a n c _ _ e => by rw [h] at e; simp at e)
theorem KeepC.setSlice {w : World} {p : Nat} {a b : Option Addr} {n c n' c' : Nat} (u : Value) (h0 : w.cell? ⟨p, 0, none⟩ = some (.slice a n c)) (h : w.cell? ⟨p, 1, none⟩ = some (.slice b n' c')) : KeepC w (w.setCell ⟨p, 1, none⟩ u) :=
  .set u (fun y e => by rw [h] at e; simp at e) (fun b e => by rw [h] at e; simp at e) (fun o b a n c e1 e2 e => by
    obtain rfl : o = 0 := by omega
    rw [h0] at e2
    simp at e2)

/-- What is told of a bucket in memory: the code's State, the reference's Filled. -/
structure BKind where
  at_ : World → Nat → Bkt → BSt → Prop
  mine : ∀ {w p B s}, at_ w p B s → Mine w p
  keep : ∀ {w w' p B s}, at_ w p B s → w'.heap[p]? = w.heap[p]? → KeepC w w' → at_ w' p B s
def stP : BKind := ⟨StAt, fun h => h.mine, fun h hb _ => h.block hb⟩
def stR : BKind := ⟨fun w p B s => ∃ g, FAt w p B s g, fun ⟨_, h⟩ => h.mine, fun ⟨g, h⟩ hb k => ⟨g, h.block hb (k.rat _ _ _ h.rat)⟩⟩

def isPtr (v : Value) : Prop := ∃ g, v = Value.pointer g
theorem noRatPtr : NoRat isPtr := ⟨(fun a n c ⟨_, h⟩ => by cases h), (fun x ⟨_, h⟩ => by cases h)⟩
def ptrL (bp : Nat → Nat) (m : Nat) : List Value := (List.range m).map fun i => .pointer (some ⟨bp i, 0, none⟩)
theorem ptrL_get (bp : Nat → Nat) {m i : Nat} (h : i < m) : (ptrL bp m)[i]? = some (.pointer (some ⟨bp i, 0, none⟩)) := by simp [ptrL, h]
theorem ptrL_snoc (bp : Nat → Nat) (m p : Nat) : ptrL bp m ++ [.pointer (some ⟨p, 0, none⟩)] = ptrL (fun i => if i = m then p else bp i) (m + 1) := by
  unfold ptrL
  rw [List.range_succ, List.map_append]
  congr 1
  · exact List.map_congr_left fun i hi => by
      have := List.mem_range.1 hi
      show _ = Value.pointer (some ⟨if i = m then p else bp i, 0, none⟩)
      rw [if_neg (by omega)]
  · simp

/-- The blocks that Do writes in. -/
def PFoot (pp m : Nat) (bp : Nat → Nat) (g : Nat) : Prop := g = pp ∨ ∃ i, i < m ∧ g = bp i
/-- The program at block pp: actions F (n of them) at lv, buckets Bk (m of them) behind the pointers at bv, counters c, states bs. -/
structure PAt (S : BKind) (E : TypeId) (w : World) (pp : Nat) (lv bv : Value) (n m : Nat) (F : Nat → Nat → Int) (Bk : Nat → Bkt) (bp : Nat → Nat) (c : Nat → Int) (bs : Nat → BSt) : Prop where
  c0 : w.cell? ⟨pp, 0, none⟩ = some lv
  c1 : w.cell? ⟨pp, 1, none⟩ = some bv
  cc : ∀ i, i < 8 → w.cell? ⟨pp, 2 + i, none⟩ = some (.int .i64 (c i))
  ff : ∀ i, i < 8 → w.frozen? ⟨pp, 2 + i, none⟩ = false
  recs : Recs 3 w lv n F
  row : Row E 1 isPtr w bv m (ptrL bp m)
  st : ∀ i, i < m → S.at_ w (bp i) (Bk i) (bs i)
  inj : ∀ i j, i < m → j < m → bp i = bp j → i = j
  np : ∀ i, i < m → bp i ≠ pp
  nl : ∀ g, lv.ownBlock = some g → ¬ PFoot pp m bp g
  nb : ∀ g, bv.ownBlock = some g → ¬ PFoot pp m bp g
theorem Recs.sav3 {m n : Nat} {w w' : World} {v : Value} {F : Nat → Nat → Int} {B : Nat → Prop} (h : Recs m w v n F) (k : Sav B w w') (hv : ∀ g, v.ownBlock = some g → ¬ B g) : Recs m w' v n F := by
  rcases h with h | ⟨b, off, cap, rfl, h2, h3, h4⟩
  · exact .inl h
  · exact .inr ⟨b, off, cap, rfl, h2, h3, fun i hi j hj => k.cell (h4 i hi j hj) (hv b rfl)⟩
section
variable {S : BKind} {E : TypeId} {w w' u : World} {pp n m i : Nat} {lv bv : Value} {F : Nat → Nat → Int} {Bk : Nat → Bkt} {bp : Nat → Nat} {c : Nat → Int} {bs : Nat → BSt} {B : Nat → Prop}
theorem PAt.lt (h : PAt S E w pp lv bv n m F Bk bp c bs) : pp < w.heap.size := cell_lt h.c0
/-- what others do -/
theorem PAt.other (h : PAt S E w pp lv bv n m F Bk bp c bs) (k : Sav B w w') (kc : KeepC w w') (hB : ∀ g, B g → ¬ PFoot pp m bp g ∧ lv.ownBlock ≠ some g ∧ bv.ownBlock ≠ some g) : PAt S E w' pp lv bv n m F Bk bp c bs := by
  have hp : ¬ B pp := fun e => (hB pp e).1 (.inl rfl)
  exact ⟨k.cell h.c0 hp, k.cell h.c1 hp, fun i hi => k.cell (h.cc i hi) hp, fun i hi => k.frozen (p := ⟨pp, 2 + i, none⟩) h.lt (h.ff i hi) hp,
    h.recs.sav3 k (fun g hg e => (hB g e).2.1 hg), h.row.sav k (fun g hg e => (hB g e).2.2 hg),
    fun i hi => S.keep (h.st i hi) (k.block _ (S.mine (h.st i hi)).lt (fun e => (hB _ e).1 (.inr ⟨i, hi, rfl⟩))) kc, h.inj, h.np, h.nl, h.nb⟩
theorem PAt.gr (h : PAt S E w pp lv bv n m F Bk bp c bs) (g : Gr w w') : PAt S E w' pp lv bv n m F Bk bp c bs := h.other (B := fun _ => False) (.of_gr g) (.of_gr g) (fun _ e => e.elim)
/-- a counter -/
theorem PAt.count (h : PAt S E w pp lv bv n m F Bk bp c bs) (hi : i < 8) (x : Int) : PAt S E (w.setCell ⟨pp, 2 + i, none⟩ (.int .i64 x)) pp lv bv n m F Bk bp (upd c i x) bs := by
  have k : Sav (fun g => g = pp) w (w.setCell ⟨pp, 2 + i, none⟩ (.int .i64 x)) := .set pp (2 + i) _
  have kc := KeepC.setInt (.int .i64 x) (h.cc i hi)
  have hne : ∀ {j : Nat}, j ≠ 2 + i → (w.setCell ⟨pp, 2 + i, none⟩ (.int .i64 x)).cell? ⟨pp, j, none⟩ = w.cell? ⟨pp, j, none⟩ := fun {j} hj => World.cell?_setCell_other _ _ _ _ (fun e => hj (by injection e with e1 e2; exact e2.symm))
  refine ⟨(hne (by omega)).trans h.c0, (hne (by omega)).trans h.c1, fun j hj => ?_, fun j hj => by simpa using h.ff j hj, h.recs.sav3 k (fun g hg e => h.nl g hg (.inl e)), h.row.sav k (fun g hg e => h.nb g hg (.inl e)),
    fun j hj => S.keep (h.st j hj) (k.block _ (S.mine (h.st j hj)).lt (h.np j hj)) kc, h.inj, h.np, h.nl, h.nb⟩
  by_cases e : j = i
  · subst e
    rw [upd_at]
    exact World.cell?_setCell_same _ _ _ (h.cc j hj)
  · rw [upd_ne _ _ e, hne (by omega)]
    exact h.cc j hj
/-- a bucket -/
theorem PAt.take {s' : BSt} (h : PAt S E w pp lv bv n m F Bk bp c bs) (hi : i < m) (hs : S.at_ w' (bp i) (Bk i) s') (ho : Only (bp i) 3 w w') : PAt S E w' pp lv bv n m F Bk bp c (updS bs i s') := by
  have k := Sav.of_only ho
  have kc := KeepC.only (S.mine (h.st i hi)) ho
  have hp : pp ≠ bp i := fun e => h.np i hi e.symm
  refine ⟨k.cell h.c0 hp, k.cell h.c1 hp, fun j hj => k.cell (h.cc j hj) hp, fun j hj => k.frozen (p := ⟨pp, 2 + j, none⟩) h.lt (h.ff j hj) hp, h.recs.sav3 k (fun g hg e => h.nl g hg (.inr ⟨i, hi, e⟩)), h.row.sav k (fun g hg e => h.nb g hg (.inr ⟨i, hi, e⟩)), fun j hj => ?_, h.inj, h.np, h.nl, h.nb⟩
  by_cases e : j = i
  · subst e
    rw [updS_at]
    exact hs
  · rw [updS_ne _ _ e]
    exact S.keep (h.st j hj) (k.block _ (S.mine (h.st j hj)).lt (fun e2 => e (h.inj j i hj hi e2))) kc
end
/-- What Do may have done. -/
structure Did (pp m : Nat) (bp : Nat → Nat) (w w' : World) : Prop where
  sav : Sav (PFoot pp m bp) w w'
  rat : KeepC w w'
theorem Did.refl (pp m : Nat) (bp : Nat → Nat) (w : World) : Did pp m bp w w := ⟨Sav.refl _ _, KeepC.refl _⟩
theorem Did.to {pp m : Nat} {bp : Nat → Nat} {a b c : World} (h : Did pp m bp a b) (g : Gr b c) : Did pp m bp a c := ⟨h.sav.then (.of_gr g), h.rat.trans (.of_gr g)⟩
theorem Did.set {pp m : Nat} {bp : Nat → Nat} {a b : World} (h : Did pp m bp a b) {i : Nat} {x : Int} (hc : b.cell? ⟨pp, i, none⟩ = some (.int .i64 x)) (u : Value) : Did pp m bp a (b.setCell ⟨pp, i, none⟩ u) :=
  ⟨h.sav.then ((Sav.set pp i u).mono fun _ hq => .inl hq), h.rat.trans (.setInt u hc)⟩
/-- a cell of one's own, made since -/
theorem Did.own {pp m : Nat} {bp : Nat → Nat} {a b : World} (h : Did pp m bp a b) {q i : Nat} {x : Int} (hq : a.heap.size ≤ q) (hc : b.cell? ⟨q, i, none⟩ = some (.int .i64 x)) (u : Value) : Did pp m bp a (b.setCell ⟨q, i, none⟩ u) :=
  ⟨h.sav.trans (Sav.set q i u) (fun g hg => .inr (by rw [hg]; exact hq)), h.rat.trans (.setInt u hc)⟩
theorem Did.only {pp m : Nat} {bp : Nat → Nat} {a b c : World} (h : Did pp m bp a b) {i : Nat} (hi : i < m) (hm : Mine b (bp i)) (ho : Only (bp i) 3 b c) : Did pp m bp a c :=
  ⟨h.sav.then ((Sav.of_only ho).mono fun _ hq => .inr ⟨i, hi, hq⟩), h.rat.trans (.only hm ho)⟩

section
variable {ev : Operand → Value} {o : Oper} {w : World} {x y : Operand} {u : Value}
theorem q_move (ho : o.op = .move x) (h : ev x = u) : (execOp ev o).run Tryd.prog w = .ok (.value u) w := by
  simp [execOp, ho, h, go_sem]
theorem q_nil {ad : Addr} (ho : o.op = .nilCheck x) (h : ev x = .pointer (some ad)) : (execOp ev o).run Tryd.prog w = .ok (.value (.pointer (some ad))) w := by
  simp [execOp, ho, h, go_sem]
theorem q_loadI {ad : Addr} {n : Int} (ho : o.op = .load 3 x) (h : ev x = .pointer (some ad)) (hc : w.cell? ad = some (.int .i64 n)) : (execOp ev o).run Tryd.prog w = .ok (.value (.int .i64 n)) w := by
  simp [execOp, ho, h, hc, go_sem]
end
/-- A packet of one's own. -/
structure XAt (w : World) (b : Nat) (x : Itm) : Prop where
  at_ : ItemAt w b 0 x
  f0 : w.frozen? ⟨b, 0, none⟩ = false
  f1 : w.frozen? ⟨b, 1, none⟩ = false
  f2 : w.frozen? ⟨b, 2, none⟩ = false
  f3 : w.frozen? ⟨b, 3, none⟩ = false
  f4 : w.frozen? ⟨b, 4, none⟩ = false
theorem XAt.lt {w : World} {b : Nat} {x : Itm} (h : XAt w b x) : b < w.heap.size := cell_lt h.at_.c0
theorem XAt.sav {w w' : World} {b : Nat} {x : Itm} {B : Nat → Prop} (h : XAt w b x) (k : Sav B w w') (hb : ¬ B b) : XAt w' b x :=
  ⟨⟨k.cell h.at_.c0 hb, k.cell h.at_.c1 hb, k.cell h.at_.c2 hb, k.cell h.at_.c3 hb, k.cell h.at_.c4 hb⟩, k.frozen (p := ⟨b, 0, none⟩) h.lt h.f0 hb, k.frozen (p := ⟨b, 1, none⟩) h.lt h.f1 hb, k.frozen (p := ⟨b, 2, none⟩) h.lt h.f2 hb, k.frozen (p := ⟨b, 3, none⟩) h.lt h.f3 hb, k.frozen (p := ⟨b, 4, none⟩) h.lt h.f4 hb⟩
theorem XAt.gr {w w' : World} {b : Nat} {x : Itm} (h : XAt w b x) (g : Gr w w') : XAt w' b x := h.sav (B := fun _ => False) (.of_gr g) id
theorem xAt_new (w : World) (x : Itm) {n : Nat} (hn : n = w.heap.size) {T : TypeId} : XAt (w.alloc (.cells #[.int .i64 x.t, .int .i64 x.len, .int .i64 x.flow, .int .i64 x.band, .int .i64 x.mark] T)) n x := by
  subst hn
  exact ⟨⟨by simp, by simp, by simp, by simp, by simp⟩, by simp, by simp, by simp, by simp, by simp⟩
/-- one number is set -/
theorem XAt.turn {w : World} {b i : Nat} {x y : Itm} {v : Int} (h : XAt w b x) (h0 : y.t = if i = 0 then v else x.t) (h1 : y.len = if i = 1 then v else x.len) (h2 : y.flow = if i = 2 then v else x.flow) (h3 : y.band = if i = 3 then v else x.band) (h4 : y.mark = if i = 4 then v else x.mark) :
    XAt (w.setCell ⟨b, i, none⟩ (.int .i64 v)) b y := by
  have key : ∀ {j : Nat} {a o : Int}, w.cell? ⟨b, 0 + j, none⟩ = some (.int .i64 o) → (a = if i = j then v else o) → (w.setCell ⟨b, i, none⟩ (.int .i64 v)).cell? ⟨b, 0 + j, none⟩ = some (.int .i64 a) := fun {j a o} hc ha => by
    by_cases e : i = j
    · subst e
      rw [if_pos rfl] at ha
      rw [ha]
      rw [Nat.zero_add] at hc ⊢
      exact World.cell?_setCell_same _ _ _ hc
    · rw [if_neg e] at ha
      rw [World.cell?_setCell_other _ _ _ _ (fun e2 => by injection e2 with e3 e4; exact e (by omega)), hc, ha]
  exact ⟨⟨key (j := 0) h.at_.c0 h0, key h.at_.c1 h1, key h.at_.c2 h2, key h.at_.c3 h3, key h.at_.c4 h4⟩, by simpa using h.f0, by simpa using h.f1, by simpa using h.f2, by simpa using h.f3, by simpa using h.f4⟩
theorem XAt.keep {w : World} {b i : Nat} {x : Itm} (h : XAt w b x) (hi : i < 5) (u : Value) : KeepC w (w.setCell ⟨b, i, none⟩ u) := by
  obtain ⟨⟨c0, c1, c2, c3, c4⟩, _⟩ := h
  match i, hi with
  | 0, _ => exact .setInt u c0
  | 1, _ => exact .setInt u c1
  | 2, _ => exact .setInt u c2
  | 3, _ => exact .setInt u c3
  | 4, _ => exact .setInt u c4
/-- all are set -/
theorem XAt.set5 {w : World} {b : Nat} {x : Itm} (h : XAt w b x) (z : Itm) : XAt (((((w.setCell ⟨b, 0, none⟩ (.int .i64 z.t)).setCell ⟨b, 1, none⟩ (.int .i64 z.len)).setCell ⟨b, 2, none⟩ (.int .i64 z.flow)).setCell ⟨b, 3, none⟩ (.int .i64 z.band)).setCell ⟨b, 4, none⟩ (.int .i64 z.mark)) b z ∧
    Sav (fun q => q = b) w (((((w.setCell ⟨b, 0, none⟩ (.int .i64 z.t)).setCell ⟨b, 1, none⟩ (.int .i64 z.len)).setCell ⟨b, 2, none⟩ (.int .i64 z.flow)).setCell ⟨b, 3, none⟩ (.int .i64 z.band)).setCell ⟨b, 4, none⟩ (.int .i64 z.mark)) ∧
    KeepC w (((((w.setCell ⟨b, 0, none⟩ (.int .i64 z.t)).setCell ⟨b, 1, none⟩ (.int .i64 z.len)).setCell ⟨b, 2, none⟩ (.int .i64 z.flow)).setCell ⟨b, 3, none⟩ (.int .i64 z.band)).setCell ⟨b, 4, none⟩ (.int .i64 z.mark)) := by
  have a0 := h.turn (i := 0) (v := z.t) (y := { x with t := z.t }) rfl rfl rfl rfl rfl
  have a1 := a0.turn (i := 1) (v := z.len) (y := { x with t := z.t, len := z.len }) rfl rfl rfl rfl rfl
  have a2 := a1.turn (i := 2) (v := z.flow) (y := { x with t := z.t, len := z.len, flow := z.flow }) rfl rfl rfl rfl rfl
  have a3 := a2.turn (i := 3) (v := z.band) (y := { x with t := z.t, len := z.len, flow := z.flow, band := z.band }) rfl rfl rfl rfl rfl
  have a4 := a3.turn (i := 4) (v := z.mark) (y := z) rfl rfl rfl rfl rfl
  exact ⟨a4, (((((Sav.set b 0 _).then (.set b 1 _)).then (.set b 2 _)).then (.set b 3 _)).then (.set b 4 _)),
    ((((h.keep (by omega) _).trans (a0.keep (by omega) _)).trans (a1.keep (by omega) _)).trans (a2.keep (by omega) _)).trans (a3.keep (by omega) _)⟩

/-- In the midst of Do: its own packet at xb, what it will tell at yb. -/
structure AMid (S : BKind) (E : TypeId) (w wr : World) (xb yb pp : Nat) (lv bv : Value) (n m : Nat) (F : Nat → Nat → Int) (Bk : Nat → Bkt) (bp : Nat → Nat) (x : Itm) (c : Nat → Int) (bs : Nat → BSt) : Prop where
  prog : PAt S E wr pp lv bv n m F Bk bp c bs
  did : Did pp m bp w wr
  px : XAt wr xb x
  py : ∃ z, XAt wr yb z
  ax : w.heap.size ≤ xb ∧ w.heap.size ≤ yb ∧ xb ≠ yb
  lt : (∀ g, PFoot pp m bp g → g < w.heap.size) ∧ (∀ g, lv.ownBlock = some g → g < w.heap.size) ∧ ∀ g, bv.ownBlock = some g → g < w.heap.size
  ok : BsOk Bk m bs
  t0 : 0 ≤ x.t
section
variable {S : BKind} {E : TypeId} {w wr u : World} {xb yb pp n m : Nat} {lv bv : Value} {F : Nat → Nat → Int} {Bk : Nat → Bkt} {bp : Nat → Nat} {x : Itm} {c : Nat → Int} {bs : Nat → BSt}
theorem AMid.gr (h : AMid S E w wr xb yb pp lv bv n m F Bk bp x c bs) (g : Gr wr u) : AMid S E w u xb yb pp lv bv n m F Bk bp x c bs := by
  obtain ⟨z, hz⟩ := h.py
  exact ⟨h.prog.gr g, h.did.to g, h.px.gr g, ⟨z, hz.gr g⟩, h.ax, h.lt, h.ok, h.t0⟩
/-- a block of one's own is written in -/
theorem AMid.own (h : AMid S E w wr xb yb pp lv bv n m F Bk bp x c bs) {q : Nat} (hq : w.heap.size ≤ q) (k : Sav (fun g => g = q) wr u) (kc : KeepC wr u) : PAt S E u pp lv bv n m F Bk bp c bs ∧ Did pp m bp w u :=
  ⟨h.prog.other k kc (fun g hg => ⟨fun e => by have := h.lt.1 g e; omega, fun e => by have := h.lt.2.1 g e; omega, fun e => by have := h.lt.2.2 g e; omega⟩), ⟨h.did.sav.trans k (fun g hg => .inr (by rw [hg]; exact hq)), h.did.rat.trans kc⟩⟩
theorem AMid.setx (h : AMid S E w wr xb yb pp lv bv n m F Bk bp x c bs) {i : Nat} {v : Int} {x' : Itm} (hi : i < 5) (hx : XAt (wr.setCell ⟨xb, i, none⟩ (.int .i64 v)) xb x') (ht : x'.t = x.t) : AMid S E w (wr.setCell ⟨xb, i, none⟩ (.int .i64 v)) xb yb pp lv bv n m F Bk bp x' c bs := by
  obtain ⟨h1, h2⟩ := h.own h.ax.1 (Sav.set xb i (.int .i64 v)) (h.px.keep hi _)
  obtain ⟨z, hz⟩ := h.py
  exact ⟨h1, h2, hx, ⟨z, hz.sav (Sav.set xb i _) (fun e => h.ax.2.2 e.symm)⟩, h.ax, h.lt, h.ok, by rw [ht]; exact h.t0⟩
theorem AMid.count (h : AMid S E w wr xb yb pp lv bv n m F Bk bp x c bs) {i : Nat} (hi : i < 8) (v : Int) : AMid S E w (wr.setCell ⟨pp, 2 + i, none⟩ (.int .i64 v)) xb yb pp lv bv n m F Bk bp x (upd c i v) bs := by
  obtain ⟨z, hz⟩ := h.py
  have hp := h.lt.1 pp (.inl rfl)
  exact ⟨h.prog.count hi v, h.did.set (h.prog.cc i hi) _, h.px.sav (Sav.set pp (2 + i) _) (fun e => by have := h.ax.1; omega), ⟨z, hz.sav (Sav.set pp (2 + i) _) (fun e => by have := h.ax.2.1; omega)⟩, h.ax, h.lt, h.ok, h.t0⟩
theorem AMid.take (h : AMid S E w wr xb yb pp lv bv n m F Bk bp x c bs) {i : Nat} {ok : Bool} {s' : BSt} (hi : i < m) (ht : (Bk i).take (bs i) x.t x.len = (ok, s')) (hs : S.at_ u (bp i) (Bk i) s') (ho : Only (bp i) 3 wr u) : AMid S E w u xb yb pp lv bv n m F Bk bp x c (updS bs i s') := by
  obtain ⟨z, hz⟩ := h.py
  have hp := h.lt.1 (bp i) (.inr ⟨i, hi, rfl⟩)
  have hb := h.ok.upd i x.t x.len
  rw [ht] at hb
  exact ⟨h.prog.take hi hs ho, h.did.only hi (S.mine (h.prog.st i hi)) ho, h.px.sav (Sav.of_only ho) (fun e => by have := h.ax.1; omega), ⟨z, hz.sav (Sav.of_only ho) (fun e => by have := h.ax.2.1; omega)⟩, h.ax, h.lt, hb, h.t0⟩
/-- The action at i. -/
theorem Recs.read {w : World} {a : Option Addr} {n cap : Nat} {F : Nat → Nat → Int} (h : Recs 3 w (.slice a n cap) n F) {i : Nat} (hi : i < n) : ∃ b off, a = some ⟨b, off, none⟩ ∧ w.cell? ⟨b, off + i * 3, none⟩ = some (.int .i64 (F i 0)) ∧ w.cell? ⟨b, off + i * 3 + 1, none⟩ = some (.int .i64 (F i 1)) ∧ w.cell? ⟨b, off + i * 3 + 2, none⟩ = some (.int .i64 (F i 2)) := by
  obtain ⟨b, off, cap', h1, _, _, h4⟩ := h.cells (by omega)
  injection h1 with e1 e2 e3
  exact ⟨b, off, e1, h4 i hi 0 (by omega), h4 i hi 1 (by omega), h4 i hi 2 (by omega)⟩
/-- The pointer at i. -/
theorem PAt.ptr (h : PAt S E w pp lv bv n m F Bk bp c bs) {i : Nat} (hi : i < m) : ∃ g off cap, bv = .slice (some ⟨g, off, none⟩) m cap ∧ w.cell? ⟨g, off + i, none⟩ = some (.pointer (some ⟨bp i, 0, none⟩)) := by
  obtain ⟨g, off, cap, h1, _, _, h4⟩ := Row.cells h.row (by omega)
  exact ⟨g, off, cap, h1, h4 i _ (ptrL_get bp hi)⟩
end
/-- What Do tells, and leaves. -/
def DoPost (S : BKind) (E : TypeId) (tell : Int → Value) (w : World) (pp : Nat) (lv bv : Value) (n m : Nat) (F : Nat → Nat → Int) (Bk : Nat → Bkt) (bp : Nat → Nat) (r : ASt × Int) (e : Ending) (w' : World) : Prop :=
  e = .returned (.tuple #[r.1.x.val, .bool (decide (r.2 = 0)), tell r.2]) ∧ PAt S E w' pp lv bv n m F Bk bp r.1.c r.1.bs ∧ Did pp m bp w w'
end Go.Proofs.YtjghgafeoimgiaaDoor

/-
  The program's Rounds: its cells; in the midst of a call. (Printed by genrnd.py.)
-/
import Derived.Test.YtbpofdfehcbppaaDoorRndA
import Derived.Test.YtbpofdfehcbppaaDoorHasC
namespace Go.Proofs.YtbpofdfehcbppaaDoor
open Go.RowKit Go.Extern.Stop Go.Stop Go.Extern

/-- What it holds: the turns' slice, the lists' slices, the lists, the turns, has the first one its quantum, the credits, how many bytes, how many. -/
structure RndV where
  tv : Value
  vs : Nat → Value
  ls : Nat → List Hel
  turn : List Int
  begun : Bool
  cr : Nat → Int
  bytes : Int
  many : Int
/-- Its cells, but those of the lists. -/
def rcell (q : RndP) (s : RndV) (j : Nat) : Value :=
  if j < 48 then .int .i64 (q.quanta (j - 32)) else if j = 48 then .int .i64 q.room else if j < 65 then .int .i64 (s.cr (j - 49)) else if j = 65 then s.tv else if j = 66 then .bool s.begun else if j = 67 then .int .i64 s.bytes else .int .i64 s.many
theorem rcell_q (q : RndP) (s : RndV) {k : Nat} (hk : k < 16) : rcell q s (32 + k) = .int .i64 (q.quanta k) := by
  unfold rcell
  rw [if_pos (by omega), Nat.add_sub_cancel_left]
theorem rcell_c (q : RndP) (s : RndV) {k : Nat} (hk : k < 16) : rcell q s (49 + k) = .int .i64 (s.cr k) := by
  unfold rcell
  rw [if_neg (by omega), if_neg (by omega), if_pos (by omega), Nat.add_sub_cancel_left]
structure RndC (w : World) (p : Nat) (q : RndP) (s : RndV) : Prop where
  cells : ∀ j, 32 ≤ j → j < 69 → w.cell? ⟨p, j, none⟩ = some (rcell q s j)
  free : ∀ j, w.frozen? ⟨p, j, none⟩ = false
  turn : IntRow w s.tv s.turn
  tap : ∀ g, s.tv.ownBlock = some g → g ≠ p ∧ ∀ k, k < 16 → (s.vs k).ownBlock ≠ some g
  lst : ∀ k, k < 16 → LstAt w p (k * 2) (s.vs k) (s.ls k)
  vap : ∀ i j g, i < 16 → j < 16 → i ≠ j → (s.vs i).ownBlock = some g → (s.vs j).ownBlock ≠ some g
  vpp : ∀ k, k < 16 → (s.vs k).ownBlock ≠ some p
/-- What it may write. -/
def RFoot (p : Nat) (s : RndV) (g : Nat) : Prop := g = p ∨ s.tv.ownBlock = some g ∨ ∃ k, k < 16 ∧ (s.vs k).ownBlock = some g
section
variable {w w' : World} {p k : Nat} {q : RndP} {s s' : RndV} {v' : Value} {xs' : List Hel}
theorem RndC.lt (h : RndC w p q s) : p < w.heap.size := cell_lt (h.cells 48 (by decide) (by decide))
theorem RndC.room (h : RndC w p q s) : w.cell? ⟨p, 48, none⟩ = some (.int .i64 q.room) := h.cells 48 (by decide) (by decide)
theorem RndC.quantum (h : RndC w p q s) (hk : k < 16) : w.cell? ⟨p, 32 + k, none⟩ = some (.int .i64 (q.quanta k)) := by rw [← rcell_q q s hk]; exact h.cells (32 + k) (by omega) (by omega)
theorem RndC.cred (h : RndC w p q s) (hk : k < 16) : w.cell? ⟨p, 49 + k, none⟩ = some (.int .i64 (s.cr k)) := by rw [← rcell_c q s hk]; exact h.cells (49 + k) (by omega) (by omega)
theorem RndC.c65 (h : RndC w p q s) : w.cell? ⟨p, 65, none⟩ = some s.tv := h.cells 65 (by decide) (by decide)
theorem RndC.c66 (h : RndC w p q s) : w.cell? ⟨p, 66, none⟩ = some (.bool s.begun) := h.cells 66 (by decide) (by decide)
theorem RndC.c67 (h : RndC w p q s) : w.cell? ⟨p, 67, none⟩ = some (.int .i64 s.bytes) := h.cells 67 (by decide) (by decide)
theorem RndC.c68 (h : RndC w p q s) : w.cell? ⟨p, 68, none⟩ = some (.int .i64 s.many) := h.cells 68 (by decide) (by decide)
theorem RndC.flt (h : RndC w p q s) {g : Nat} (hg : RFoot p s g) : g < w.heap.size := by
  rcases hg with e | e | ⟨k, hk, e⟩
  · rw [e]; exact h.lt
  · exact Row.lt h.turn e
  · exact (h.lst k hk).row.lt e
theorem RndC.sav {B : Nat → Prop} (h : RndC w p q s) (k : Sav B w w') (hB : ∀ g, B g → ¬ RFoot p s g) : RndC w' p q s :=
  have hp : ¬ B p := fun e => hB _ e (.inl rfl)
  ⟨fun j a b => k.cell (h.cells j a b) hp, fun j => k.frozen (p := ⟨p, j, none⟩) h.lt (h.free j) hp, Row.sav h.turn k (fun _ hg e => hB _ e (.inr (.inl hg))), h.tap, fun i hi => (h.lst i hi).sav k hp (fun _ hg e => hB _ e (.inr (.inr ⟨i, hi, hg⟩))), h.vap, h.vpp⟩
theorem RndC.gr (h : RndC w p q s) (g : Gr w w') : RndC w' p q s := h.sav (B := fun _ => False) (.of_gr g) (fun _ e => e.elim)
/-- Another of its cells is written. -/
theorem LstAt.away {w : World} {p o : Nat} {v : Value} {xs : List Hel} (h : LstAt w p o v xs) {j : Nat} (h1 : j ≠ o) (h2 : j ≠ o + 1) (hv : v.ownBlock ≠ some p) (u : Value) : LstAt (w.setCell ⟨p, j, none⟩ u) p o v xs :=
  ⟨cell_so h.c0 (fun e => h1 (by injection e)), cell_so h.c1 (fun e => h2 (by injection e)), by simpa using h.f0, by simpa using h.f1, h.row.sav (.set p j u) (fun g hg e => hv (by rw [← e]; exact hg))⟩
theorem RndC.put (h : RndC w p q s) {j : Nat} {u : Value} (j1 : 32 ≤ j) (j2 : j < 69) (e : ∀ i, rcell q s' i = if i = j then u else rcell q s i) (e1 : s'.vs = s.vs) (e2 : s'.ls = s.ls) (e3 : s'.turn = s.turn) (e4 : s'.tv = s.tv) : RndC (w.setCell ⟨p, j, none⟩ u) p q s' := by
  have hp : ¬ s.tv.ownBlock = some p := fun e => (h.tap p e).1 rfl
  refine ⟨fun i a b => ?_, fun i => by simpa using h.free i, ?_, ?_, fun i hi => ?_, ?_, ?_⟩
  · rw [e i]
    by_cases hij : i = j
    · subst hij; rw [if_pos rfl]; exact cell_ss (h.cells i a b)
    · rw [if_neg hij]; exact cell_so (h.cells i a b) (by first | (simp; done) | (simp; omega))
  · rw [e4, e3]; exact Row.sav h.turn (.set p j u) (fun g hg e => hp (by rw [← e]; exact hg))
  · rw [e4, e1]; exact h.tap
  · rw [e1, e2]; exact (h.lst i hi).away (by omega) (by omega) (h.vpp i hi) u
  · rw [e1]; exact h.vap
  · rw [e1]; exact h.vpp
def RndV.setC (s : RndV) (k : Nat) (x : Int) : RndV := { s with cr := fu s.cr k x }
def RndV.setB (s : RndV) (x : Bool) : RndV := { s with begun := x }
def RndV.setY (s : RndV) (x : Int) : RndV := { s with bytes := x }
def RndV.setM (s : RndV) (x : Int) : RndV := { s with many := x }
def RndV.setT (s : RndV) (v : Value) (t : List Int) : RndV := { s with tv := v, turn := t }
def RndV.setL (s : RndV) (k : Nat) (v : Value) (xs : List Hel) : RndV := { s with vs := fu s.vs k v, ls := fu s.ls k xs }
theorem RndC.setC (h : RndC w p q s) (hk : k < 16) (x : Int) : RndC (w.setCell ⟨p, 49 + k, none⟩ (.int .i64 x)) p q (s.setC k x) := by
  refine h.put (by omega) (by omega) (fun i => ?_) rfl rfl rfl rfl
  by_cases e : i = 49 + k
  · subst e
    rw [rcell_c _ _ hk, if_pos rfl]
    show Value.int .i64 (fu s.cr k x k) = _
    rw [fu_at]
  · rw [if_neg e]
    unfold rcell
    by_cases e1 : i < 48
    · rw [if_pos e1, if_pos e1]
    · rw [if_neg e1, if_neg e1]
      by_cases e2 : i = 48
      · rw [if_pos e2, if_pos e2]
      · rw [if_neg e2, if_neg e2]
        by_cases e3 : i < 65
        · rw [if_pos e3, if_pos e3]
          show Value.int .i64 (fu s.cr k x (i - 49)) = _
          rw [fu_ne _ _ (by omega)]
        · rw [if_neg e3, if_neg e3]
          rfl
theorem RndC.setB (h : RndC w p q s) (x : Bool) : RndC (w.setCell ⟨p, 66, none⟩ (.bool x)) p q (s.setB x) := by
  refine h.put (by omega) (by omega) (fun i => ?_) rfl rfl rfl rfl
  unfold rcell
  by_cases e : i = 66
  · subst e; rfl
  · simp only [e, if_false]
    rfl
theorem RndC.setY (h : RndC w p q s) (x : Int) : RndC (w.setCell ⟨p, 67, none⟩ (.int .i64 x)) p q (s.setY x) := by
  refine h.put (by omega) (by omega) (fun i => ?_) rfl rfl rfl rfl
  unfold rcell
  by_cases e : i = 67
  · subst e; rfl
  · simp only [e, if_false]
    rfl
theorem RndC.setM (h : RndC w p q s) (x : Int) : RndC (w.setCell ⟨p, 68, none⟩ (.int .i64 x)) p q (s.setM x) := by
  have hh : ∀ i, 32 ≤ i → i < 69 → rcell q (s.setM x) i = if i = 68 then .int .i64 x else rcell q s i := fun i a b => by
    unfold rcell
    by_cases e : i = 68
    · subst e; rfl
    · rw [if_neg e]
      by_cases e1 : i < 48
      · rw [if_pos e1, if_pos e1]
      · by_cases e2 : i = 48
        · rw [if_neg e1, if_neg e1, if_pos e2, if_pos e2]
        · by_cases e3 : i < 65
          · rw [if_neg e1, if_neg e1, if_neg e2, if_neg e2, if_pos e3, if_pos e3]; rfl
          · by_cases e4 : i = 65
            · rw [if_neg e1, if_neg e1, if_neg e2, if_neg e2, if_neg e3, if_neg e3, if_pos e4, if_pos e4]; rfl
            · by_cases e5 : i = 66
              · rw [if_neg e1, if_neg e1, if_neg e2, if_neg e2, if_neg e3, if_neg e3, if_neg e4, if_neg e4, if_pos e5, if_pos e5]; rfl
              · have e6 : i = 67 := by omega
                rw [if_neg e1, if_neg e1, if_neg e2, if_neg e2, if_neg e3, if_neg e3, if_neg e4, if_neg e4, if_neg e5, if_neg e5, if_pos e6, if_pos e6]; rfl
  have hp : ¬ s.tv.ownBlock = some p := fun e => (h.tap p e).1 rfl
  refine ⟨fun i a b => ?_, fun i => by simpa using h.free i, Row.sav h.turn (.set p 68 _) (fun g hg e => hp (by rw [← e]; exact hg)), h.tap, fun i hi => (h.lst i hi).away (by omega) (by omega) (h.vpp i hi) _, h.vap, h.vpp⟩
  rw [hh i a b]
  by_cases hij : i = 68
  · subst hij; rw [if_pos rfl]; exact cell_ss (h.cells 68 a b)
  · rw [if_neg hij]; exact cell_so (h.cells i a b) (by first | (simp; done) | (simp; omega))
/-- The turns are another row, at any world that kept all else but the old row. -/
theorem RndC.setT {tv' : Value} {t' : List Int} (h : RndC w p q s) (k : Sav (fun g => s.tv.ownBlock = some g) w w') (ht : IntRow w' tv' t') (ho : ∀ g, tv'.ownBlock = some g → s.tv.ownBlock = some g ∨ w.heap.size ≤ g) : RndC (w'.setCell ⟨p, 65, none⟩ tv') p q (s.setT tv' t') := by
  have hp : ¬ s.tv.ownBlock = some p := fun e => (h.tap p e).1 rfl
  have s2 : Sav (fun g => g = p) w' (w'.setCell ⟨p, 65, none⟩ tv') := .set p 65 _
  have hlt := h.lt
  have hnew : ∀ g, tv'.ownBlock = some g → g ≠ p ∧ ∀ k, k < 16 → (s.vs k).ownBlock ≠ some g := fun g hg => (ho g hg).elim (h.tap g) (fun e => ⟨by omega, fun k hk e2 => by have := (h.lst k hk).row.lt e2; omega⟩)
  refine ⟨fun i a b => ?_, fun i => by simpa using k.frozen (p := ⟨p, i, none⟩) hlt (h.free i) hp, Row.sav ht s2 (fun g hg e => (hnew g hg).1 e), hnew, fun i hi => ((h.lst i hi).sav k hp (fun g hg e => (h.tap g e).2 i hi hg)).away (by omega) (by omega) (h.vpp i hi) _, h.vap, h.vpp⟩
  by_cases e : i = 65
  · subst e
    exact cell_ss (k.cell (h.cells 65 a b) hp)
  · rw [show rcell q (s.setT tv' t') i = rcell q s i from by unfold rcell; simp only [e, if_false]; rfl]
    exact cell_so (k.cell (h.cells i a b) hp) (by first | (simp; done) | (simp; omega))
/-- One of the lists was moved. -/
theorem RndC.setL (h : RndC w p q s) (hk : k < 16) (d : LstAt w' p (k * 2) v' xs') (c : LSav p (k * 2) (s.vs k) w w') (ho : ∀ g, v'.ownBlock = some g → (s.vs k).ownBlock = some g ∨ w.heap.size ≤ g) : RndC w' p q (s.setL k v' xs') := by
  have hlt := h.lt
  refine ⟨fun j a b => (c.cell j (by omega) (by omega)).trans (h.cells j a b), fun j => (c.frozen j).trans (h.free j), Row.sav h.turn c.sav (fun g hg e => e.elim (h.tap g hg).1 ((h.tap g hg).2 k hk)), fun g hg => ⟨(h.tap g hg).1, fun j hj => ?_⟩, fun j hj => ?_, fun i j g hi hj hij hg => ?_, fun j hj => ?_⟩
  · show (fu s.vs k v' j).ownBlock ≠ some g
    by_cases e : j = k
    · subst e
      rw [fu_at]
      exact fun e2 => (ho g e2).elim ((h.tap g hg).2 j hk) (fun e3 => by have := Row.lt h.turn hg; omega)
    · rw [fu_ne _ _ e]; exact (h.tap g hg).2 j hj
  · show LstAt w' p (j * 2) (fu s.vs k v' j) (fu s.ls k xs' j)
    by_cases e : j = k
    · subst e
      rw [fu_at, fu_at]; exact d
    · rw [fu_ne _ _ e, fu_ne _ _ e]
      have hl := h.lst j hj
      exact ⟨(c.cell (j * 2) (by omega) (by omega)).trans hl.c0, (c.cell (j * 2 + 1) (by omega) (by omega)).trans hl.c1, (c.frozen (j * 2)).trans hl.f0, (c.frozen (j * 2 + 1)).trans hl.f1, hl.row.sav c.sav (fun g hg e2 => e2.elim (fun e3 => hl.ne (by rw [hg, e3])) (fun e3 => h.vap j k g hj hk e hg e3))⟩
  · replace hg : (fu s.vs k v' i).ownBlock = some g := hg
    show (fu s.vs k v' j).ownBlock ≠ some g
    by_cases e1 : i = k
    · subst e1
      rw [fu_at] at hg
      rw [fu_ne _ _ (fun e => hij e.symm)]
      exact (ho g hg).elim (h.vap i j g hk hj hij) (fun e e2 => by have := (h.lst j hj).row.lt e2; omega)
    · rw [fu_ne _ _ e1] at hg
      by_cases e2 : j = k
      · subst e2
        rw [fu_at]
        exact fun e3 => (ho g e3).elim (h.vap i j g hi hk hij hg) (fun e4 => by have := (h.lst i hi).row.lt hg; omega)
      · rw [fu_ne _ _ e2]; exact h.vap i j g hi hj hij hg
  · show (fu s.vs k v' j).ownBlock ≠ some p
    by_cases e : j = k
    · subst e
      rw [fu_at]
      exact fun e2 => (ho p e2).elim (h.vpp j hk) (fun e3 => by omega)
    · rw [fu_ne _ _ e]; exact h.vpp j hj
end
/-- In the midst of a call: where it stands, what was written, which new blocks are no part of it. -/
structure RM (w wr : World) (p : Nat) (q : RndP) (s0 : RndV) (R : List Nat) (s : RndV) : Prop where
  at_ : RndC wr p q s
  sav : Sav (RFoot p s0) w wr
  own : ∀ g, RFoot p s g → (RFoot p s0 g ∨ w.heap.size ≤ g) ∧ g ∉ R
  res : ∀ g, g ∈ R → w.heap.size ≤ g ∧ g < wr.heap.size
section
variable {w wr w' : World} {p k n : Nat} {q : RndP} {s0 s s2 : RndV} {R : List Nat} {v' tv' : Value} {t' : List Int} {xs' : List Hel}
theorem RM.first (h : RndC w p q s) : RM w w p q s [] s := ⟨h, .refl _ _, fun _ e => ⟨.inl e, by simp⟩, fun g e => by cases e⟩
theorem RM.gr (h : RM w wr p q s0 R s) (g : Gr wr w') : RM w w' p q s0 R s :=
  ⟨h.at_.gr g, h.sav.then (.of_gr g), h.own, fun x e => ⟨(h.res x e).1, Nat.lt_of_lt_of_le (h.res x e).2 g.size⟩⟩
theorem RM.res_add (h : RM w wr p q s0 R s) (g : Gr wr w') (hn : wr.heap.size ≤ n) (hl : n < w'.heap.size) : RM w w' p q s0 (n :: R) s := by
  have h1 := h.gr g
  refine ⟨h1.at_, h1.sav, fun x e => ⟨(h1.own x e).1, fun e2 => ?_⟩, fun x e => ?_⟩
  · rcases List.mem_cons.1 e2 with rfl | e3
    · have := h.at_.flt e; omega
    · exact (h1.own x e).2 e3
  · rcases List.mem_cons.1 e with rfl | e3
    · exact ⟨Nat.le_trans h.sav.size hn, hl⟩
    · exact h1.res x e3
theorem RM.nin (h : RM w wr p q s0 R s) {r : Nat} (hr : r ∈ R) : ¬ RFoot p s r := fun e => (h.own r e).2 hr
theorem RM.less {R' : List Nat} (h : RM w wr p q s0 R s) (hR : ∀ g, g ∈ R' → g ∈ R) : RM w wr p q s0 R' s := ⟨h.at_, h.sav, fun g e => ⟨(h.own g e).1, fun e2 => (h.own g e).2 (hR g e2)⟩, fun g e => h.res g (hR g e)⟩
theorem RM.did (h : RM w wr p q s0 R s) : RM w wr p q s0 [] s := h.less (fun g e => by cases e)
theorem RM.off {B : Nat → Prop} (h : RM w wr p q s0 R s) (c : Sav B wr w') (hB : ∀ g, B g → g ∈ R) : RM w w' p q s0 R s :=
  ⟨h.at_.sav c (fun g e => h.nin (hB g e)), h.sav.trans c (fun g e => .inr (h.res g (hB g e)).1), h.own, fun x e => ⟨(h.res x e).1, Nat.lt_of_lt_of_le (h.res x e).2 c.size⟩⟩
/-- A cell of its own is written. -/
theorem RM.cell (h : RM w wr p q s0 R s) {j : Nat} {u : Value} (d : RndC (wr.setCell ⟨p, j, none⟩ u) p q s2) (e1 : s2.tv = s.tv) (e2 : s2.vs = s.vs) : RM w (wr.setCell ⟨p, j, none⟩ u) p q s0 R s2 :=
  have c : Sav (fun g => g = p) wr (wr.setCell ⟨p, j, none⟩ u) := .set p j u
  ⟨d, h.sav.trans c (fun _ e => (h.own _ (.inl e)).1), fun g e => h.own g (by unfold RFoot at *; rw [e1, e2] at e; exact e), fun x e => ⟨(h.res x e).1, Nat.lt_of_lt_of_le (h.res x e).2 c.size⟩⟩
theorem RM.setC (h : RM w wr p q s0 R s) (hk : k < 16) (x : Int) : RM w (wr.setCell ⟨p, 49 + k, none⟩ (.int .i64 x)) p q s0 R (s.setC k x) := h.cell (h.at_.setC hk x) rfl rfl
theorem RM.setB (h : RM w wr p q s0 R s) (x : Bool) : RM w (wr.setCell ⟨p, 66, none⟩ (.bool x)) p q s0 R (s.setB x) := h.cell (h.at_.setB x) rfl rfl
theorem RM.setY (h : RM w wr p q s0 R s) (x : Int) : RM w (wr.setCell ⟨p, 67, none⟩ (.int .i64 x)) p q s0 R (s.setY x) := h.cell (h.at_.setY x) rfl rfl
theorem RM.setM (h : RM w wr p q s0 R s) (x : Int) : RM w (wr.setCell ⟨p, 68, none⟩ (.int .i64 x)) p q s0 R (s.setM x) := h.cell (h.at_.setM x) rfl rfl
theorem RM.setT (h : RM w wr p q s0 R s) (k : Sav (fun g => s.tv.ownBlock = some g) wr w') (ht : IntRow w' tv' t') (ho : ∀ g, tv'.ownBlock = some g → s.tv.ownBlock = some g ∨ wr.heap.size ≤ g) : RM w (w'.setCell ⟨p, 65, none⟩ tv') p q s0 R (s.setT tv' t') := by
  have s2 : Sav (fun g => g = p) w' (w'.setCell ⟨p, 65, none⟩ tv') := .set p 65 _
  refine ⟨h.at_.setT k ht ho, (h.sav.trans k (fun g e => (h.own g (.inr (.inl e))).1)).trans s2 (fun g e => (h.own g (.inl e)).1), fun g e => ?_, fun x e => ⟨(h.res x e).1, Nat.lt_of_lt_of_le (h.res x e).2 (Nat.le_trans k.size s2.size)⟩⟩
  rcases e with e | e | ⟨k, hk, e⟩
  · exact h.own g (.inl e)
  · rcases ho g e with e1 | e1
    · exact h.own g (.inr (.inl e1))
    · exact ⟨.inr (Nat.le_trans h.sav.size e1), fun e2 => by have := (h.res g e2).2; omega⟩
  · exact h.own g (.inr (.inr ⟨k, hk, e⟩))
theorem RM.setL (h : RM w wr p q s0 R s) (hk : k < 16) (d : LstAt w' p (k * 2) v' xs') (c : LSav p (k * 2) (s.vs k) wr w') (ho : ∀ g, v'.ownBlock = some g → (s.vs k).ownBlock = some g ∨ wr.heap.size ≤ g) : RM w w' p q s0 R (s.setL k v' xs') := by
  refine ⟨h.at_.setL hk d c ho, h.sav.trans c.sav (fun g e => ?_), fun g e => ?_, fun x e => ⟨(h.res x e).1, Nat.lt_of_lt_of_le (h.res x e).2 c.sav.size⟩⟩
  · rcases e with e | e
    · exact (h.own g (.inl e)).1
    · exact (h.own g (.inr (.inr ⟨k, hk, e⟩))).1
  · rcases e with e | e | ⟨j, hj, e⟩
    · exact h.own g (.inl e)
    · exact h.own g (.inr (.inl e))
    · replace e : (fu s.vs k v' j).ownBlock = some g := e
      by_cases e2 : j = k
      · subst e2
        rw [fu_at] at e
        rcases ho g e with e1 | e1
        · exact h.own g (.inr (.inr ⟨j, hj, e1⟩))
        · exact ⟨.inr (Nat.le_trans h.sav.size e1), fun e2 => by have := (h.res g e2).2; omega⟩
      · rw [fu_ne _ _ e2] at e
        exact h.own g (.inr (.inr ⟨j, hj, e⟩))
end
/-- What it holds is the plain one's. -/
structure Shows (s : RndV) (a : RndS) : Prop where
  ls : ∀ k, k < 16 → s.ls k = ofF a.l k
  turn : s.turn = intL a.turn
  begun : s.begun = a.begun
  cr : ∀ k, k < 16 → s.cr k = a.credit k
  bytes : s.bytes = sumLen a.l
  many : s.many = (a.l.length : Int)
/-- What a call may tell. -/
def RnDid (w w' : World) (p : Nat) (q : RndP) (s0 : RndV) (a : RndS) : Prop := ∃ s, RM w w' p q s0 [] s ∧ Shows s a
end Go.Proofs.YtbpofdfehcbppaaDoor

/-
  millracelaw.seen, for any queue. (Printed by genplay.py.)
-/
import Derived.Test.YtgifghbnpdanhaaGreatDoorShaperPlaysPart10
import Derived.Test.YtgifghbnpdanhaaGreatDoorReg
import Derived.BigGuardPart
import Derived.BigRegion
import Derived.Deep.DeepCutAuto
import Derived.Deep.CutBlock
import Derived.Deep.LoopGhost
namespace Go.Proofs.YtgifghbnpdanhaaGreatDoor
open Go.RowKit Go.Extern.Stop Go.Stop Go.Extern

section
variable {ev : Operand → Value} {o : Oper} {w : World} {x y : Operand} {u : Value}
theorem q_loadSI {ad : Addr} {a : Option Addr} {n c : Nat} (ho : o.op = .load 69 x) (h : ev x = .pointer (some ad)) (hc : w.cell? ad = some (.slice a n c)) : (execOp ev o).run Tryz.prog w = .ok (.value (.slice a n c)) w := by
  simp [execOp, ho, h, hc, go_sem]
theorem q_idx6 {b off n c j : Nat} (ho : o.op = .indexAddr 72 x y) (h : ev x = .slice (some ⟨b, off, none⟩) n c) (k : ev y = .int .i64 (j : Int)) (hj : j < n) : (execOp ev o).run Tryz.prog w = .ok (.value (.pointer (some ⟨b, off + j * 6, none⟩))) w := by
  have h0 : (0 : Int) ≤ (j : Int) := by omega
  have h1 : (j : Int) < (n : Int) := by omega
  simp [execOp, ho, h, k, h0, h1, go_sem]
theorem q_buildI {z : Int} (ho : o.op = .buildSlice 69 1 #[(0, y)]) (h : ev y = .int .i64 z) : (execOp ev o).run Tryz.prog w = .ok (.value (.slice (some ⟨w.heap.size, 0, none⟩) 1 1)) (w.alloc (.cells #[.int .i64 z] 3)) := by
  simp [execOp, ho, h, go_sem]
theorem r_fa_plain_Seen_5 {p o' : Nat} (ho : o.op = .fieldAddr 101 x 5) (h : ev x = .pointer (some ⟨p, o', none⟩)) : (execOp ev o).run Tryz.prog w = .ok (.value (.pointer (some ⟨p, o' + 5, none⟩))) w := by
  simp [execOp, ho, h, go_sem]
end
theorem IntRow.app {w : World} {v : Value} {xs : List Int} (h : IntRow w v xs) (ad : Addr) (c : Nat) (y : Int) (hy : w.cell? ad = some (.int .i64 y)) (hn : xs.length ≤ 1000) :
    ∃ v' w', (Builtin.append_ #[69, 69] 69 #[v, .slice (some ad) 1 c]).run Tryz.prog w = .ok v' w' ∧ IntRow w' v' (xs ++ [y]) ∧ w.grownBy w' v.ownBlock ∧ (∀ g, v'.ownBlock = some g → v.ownBlock = some g ∨ w.heap.size ≤ g) ∧ IntRow w' v xs := by
  obtain ⟨i0, hi, hz0, hz1, hz2⟩ := info_parts info_intE
  obtain ⟨v', w', h1, h2, h3, h4, h5⟩ := Row.appendN (P := Tryz.prog) 69 69 i0 (.int .i64 0) 8 Tryz.underlying69 hi hz0 hz1 hz2 rfl (fun u hu => by simp [Value.cells] at hu; exact ⟨_, hu⟩) h ad c 1 (by decide) [Value.int .i64 y] rfl (fun j u hj => by
    match j, hj with
    | 0, hj => simp at hj; subst hj; simpa [Addr.add] using hy
    | j + 1, hj => simp at hj) (fun u hu => by simp at hu; subst hu; rfl) (fun u hu => by simp at hu; exact ⟨_, hu⟩) (by omega) (by decide)
  exact ⟨v', w', h1, by unfold IntRow; simpa using h2, h3, h4, h5⟩
def Fg.newI (n : Nat) (y : Int) : Fg := ⟨fun u w => ∃ g, u = .slice (some ⟨g, 0, none⟩) 1 1 ∧ n ≤ g ∧ w.cell? ⟨g, 0, none⟩ = some (.int .i64 y), fun _ _ _ ⟨g, h1, h2, h3⟩ k => ⟨g, h1, h2, k.cell h3⟩⟩
def Fg.rowI (w0 : World) (v : Value) (xs : List Int) : Fg := ⟨fun u w => IntRow w u xs ∧ ∀ g, u.ownBlock = some g → v.ownBlock = some g ∨ w0.heap.size ≤ g, fun _ _ _ ⟨h1, h2⟩ k => ⟨h1.gr k, h2⟩⟩
theorem IntRow.sav {w w' : World} {v : Value} {xs : List Int} {B : Nat → Prop} (h : IntRow w v xs) (k : Sav B w w') (hv : ∀ g, v.ownBlock = some g → ¬ B g) : IntRow w' v xs := Row.sav h k hv

/-- What is told lies at p. -/
structure SeenAt (w : World) (p : Nat) (t m k l s : Int) (v : Value) : Prop where
  c0 : w.cell? ⟨p, 0, none⟩ = some (.int .i64 t)
  f0 : w.frozen? ⟨p, 0, none⟩ = false
  c1 : w.cell? ⟨p, 1, none⟩ = some (.int .i64 m)
  f1 : w.frozen? ⟨p, 1, none⟩ = false
  c2 : w.cell? ⟨p, 2, none⟩ = some (.int .i64 k)
  f2 : w.frozen? ⟨p, 2, none⟩ = false
  c3 : w.cell? ⟨p, 3, none⟩ = some (.int .i64 l)
  f3 : w.frozen? ⟨p, 3, none⟩ = false
  c4 : w.cell? ⟨p, 4, none⟩ = some (.int .i64 s)
  f4 : w.frozen? ⟨p, 4, none⟩ = false
  c5 : w.cell? ⟨p, 5, none⟩ = some (v)
  f5 : w.frozen? ⟨p, 5, none⟩ = false
theorem SeenAt.sav {w w' : World} {p : Nat} {t m k l s : Int} {v : Value} {B : Nat → Prop} (h : SeenAt w p t m k l s v) (g : Sav B w w') (hp : ¬ B p) : SeenAt w' p t m k l s v :=
  have lt := cell_lt h.c0
  ⟨g.cell h.c0 hp, g.frozen (p := ⟨p, 0, none⟩) lt h.f0 hp, g.cell h.c1 hp, g.frozen (p := ⟨p, 1, none⟩) lt h.f1 hp, g.cell h.c2 hp, g.frozen (p := ⟨p, 2, none⟩) lt h.f2 hp, g.cell h.c3 hp, g.frozen (p := ⟨p, 3, none⟩) lt h.f3 hp, g.cell h.c4 hp, g.frozen (p := ⟨p, 4, none⟩) lt h.f4 hp, g.cell h.c5 hp, g.frozen (p := ⟨p, 5, none⟩) lt h.f5 hp⟩
theorem SeenAt.set0 {w : World} {p : Nat} {t m k l s : Int} {v : Value} (h : SeenAt w p t m k l s v) (t' : Int) : SeenAt (w.setCell ⟨p, 0, none⟩ (.int .i64 t')) p t' m k l s v :=
  ⟨World.cell?_setCell_same _ _ _ h.c0, (by simpa using h.f0), cell_so h.c1 (by simp), (by simpa using h.f1), cell_so h.c2 (by simp), (by simpa using h.f2), cell_so h.c3 (by simp), (by simpa using h.f3), cell_so h.c4 (by simp), (by simpa using h.f4), cell_so h.c5 (by simp), (by simpa using h.f5)⟩
theorem SeenAt.set1 {w : World} {p : Nat} {t m k l s : Int} {v : Value} (h : SeenAt w p t m k l s v) (m' : Int) : SeenAt (w.setCell ⟨p, 1, none⟩ (.int .i64 m')) p t m' k l s v :=
  ⟨cell_so h.c0 (by simp), (by simpa using h.f0), World.cell?_setCell_same _ _ _ h.c1, (by simpa using h.f1), cell_so h.c2 (by simp), (by simpa using h.f2), cell_so h.c3 (by simp), (by simpa using h.f3), cell_so h.c4 (by simp), (by simpa using h.f4), cell_so h.c5 (by simp), (by simpa using h.f5)⟩
theorem SeenAt.set2 {w : World} {p : Nat} {t m k l s : Int} {v : Value} (h : SeenAt w p t m k l s v) (k' : Int) : SeenAt (w.setCell ⟨p, 2, none⟩ (.int .i64 k')) p t m k' l s v :=
  ⟨cell_so h.c0 (by simp), (by simpa using h.f0), cell_so h.c1 (by simp), (by simpa using h.f1), World.cell?_setCell_same _ _ _ h.c2, (by simpa using h.f2), cell_so h.c3 (by simp), (by simpa using h.f3), cell_so h.c4 (by simp), (by simpa using h.f4), cell_so h.c5 (by simp), (by simpa using h.f5)⟩
theorem SeenAt.set3 {w : World} {p : Nat} {t m k l s : Int} {v : Value} (h : SeenAt w p t m k l s v) (l' : Int) : SeenAt (w.setCell ⟨p, 3, none⟩ (.int .i64 l')) p t m k l' s v :=
  ⟨cell_so h.c0 (by simp), (by simpa using h.f0), cell_so h.c1 (by simp), (by simpa using h.f1), cell_so h.c2 (by simp), (by simpa using h.f2), World.cell?_setCell_same _ _ _ h.c3, (by simpa using h.f3), cell_so h.c4 (by simp), (by simpa using h.f4), cell_so h.c5 (by simp), (by simpa using h.f5)⟩
theorem SeenAt.set4 {w : World} {p : Nat} {t m k l s : Int} {v : Value} (h : SeenAt w p t m k l s v) (s' : Int) : SeenAt (w.setCell ⟨p, 4, none⟩ (.int .i64 s')) p t m k l s' v :=
  ⟨cell_so h.c0 (by simp), (by simpa using h.f0), cell_so h.c1 (by simp), (by simpa using h.f1), cell_so h.c2 (by simp), (by simpa using h.f2), cell_so h.c3 (by simp), (by simpa using h.f3), World.cell?_setCell_same _ _ _ h.c4, (by simpa using h.f4), cell_so h.c5 (by simp), (by simpa using h.f5)⟩
theorem SeenAt.set5 {w : World} {p : Nat} {t m k l s : Int} {v : Value} (h : SeenAt w p t m k l s v) (v' : Value) : SeenAt (w.setCell ⟨p, 5, none⟩ (v')) p t m k l s v' :=
  ⟨cell_so h.c0 (by simp), (by simpa using h.f0), cell_so h.c1 (by simp), (by simpa using h.f1), cell_so h.c2 (by simp), (by simpa using h.f2), cell_so h.c3 (by simp), (by simpa using h.f3), cell_so h.c4 (by simp), (by simpa using h.f4), World.cell?_setCell_same _ _ _ h.c5, (by simpa using h.f5)⟩

theorem seen_new (w : World) {p : Nat} (hp : p = w.heap.size) {T : TypeId} {t m k l s : Int} {v : Value} : SeenAt (w.alloc (.cells #[.int .i64 t, .int .i64 m, .int .i64 k, .int .i64 l, .int .i64 s, v] T)) p t m k l s v := by
  subst hp
  constructor <;> simp
section
variable {α β : Type} {M : Mach α} {N0 : Nat} {S : Side M N0 β} {q : Value}
/-- In the midst of 'seen'. -/
structure SeenI (S : Side M N0 β) (w : World) (b : β) (wx : World) (b' : β) (a' : α) (n' : Nat) (t m k l s : Int) (zs : List Int) (v : Value) : Prop where
  moved : S.Moved w b wx b' a' n'
  off : ∀ g, S.F b' g → g < w.heap.size ∨ w.heap.size + 3 ≤ g
  x : SeenAt wx (w.heap.size + 1 + 1) t m k l s v
  res : SeenAt wx (w.heap.size + 1) 0 0 0 0 0 (.slice none 0 0)
  row : IntRow wx v zs
  own : ∀ g, v.ownBlock = some g → w.heap.size + 3 ≤ g ∧ ¬ S.F b' g
variable {w wx w' w'' : World} {b b' : β} {a' : α} {n' : Nat} {t m k l s : Int} {zs : List Int} {v v' : Value}
theorem SeenI.gr (h : SeenI S w b wx b' a' n' t m k l s zs v) (g : Gr wx w') : SeenI S w b w' b' a' n' t m k l s zs v :=
  ⟨.gr S h.moved g, h.off, h.x.sav (B := fun _ => False) (.of_gr g) id, h.res.sav (B := fun _ => False) (.of_gr g) id, h.row.gr g, h.own⟩
/-- The call's own blocks are written. -/
theorem SeenI.wrote (hN : N0 ≤ w.heap.size) (h : SeenI S w b wx b' a' n' t m k l s zs v) {B : Nat → Prop} (g : Sav B wx w') (hB : ∀ r, B r → (w.heap.size ≤ r ∧ ¬ S.F b' r) ∧ NoRatB wx r) : S.Moved w b w' b' a' n' :=
  ⟨S.sav h.moved.inv g (.of_sav g fun r hr => (hB r hr).2) (fun r hr => ⟨Nat.le_trans hN (hB r hr).1.1, (hB r hr).1.2⟩), h.moved.sav.trans g (fun r hr => .inr (hB r hr).1.1), h.moved.new⟩
theorem SeenI.push (hN : N0 ≤ w.heap.size) (h : SeenI S w b wx b' a' n' t m k l s zs v) {y : Int} (g : Sav (fun r => v.ownBlock = some r) wx w') (hr : IntRow w' v' (zs ++ [y])) (ho : ∀ r, v'.ownBlock = some r → v.ownBlock = some r ∨ wx.heap.size ≤ r) :
    SeenI S w b (w'.setCell ⟨w.heap.size + 1 + 1, 5, none⟩ v') b' a' n' t m k l s (zs ++ [y]) v' := by
  have hsz : w.heap.size + 3 ≤ wx.heap.size := cell_lt h.x.c0
  have hv' : ∀ r, v'.ownBlock = some r → w.heap.size + 3 ≤ r ∧ ¬ S.F b' r := fun r hr => by
    rcases ho r hr with h1 | h1
    · exact h.own r h1
    · exact ⟨by omega, fun e => by have := S.lt h.moved.inv e; omega⟩
  have hx : SeenAt w' (w.heap.size + 1 + 1) t m k l s v := h.x.sav g (fun e => by have := (h.own _ e).1; omega)
  have g2 : Sav (fun r => v.ownBlock = some r ∨ r = w.heap.size + 1 + 1) wx (w'.setCell ⟨w.heap.size + 1 + 1, 5, none⟩ v') := (g.mono fun _ e => .inl e).then ((Sav.set (w := w') (w.heap.size + 1 + 1) 5 v').mono fun _ e => .inr e)
  refine ⟨h.wrote hN g2 (fun r hr => ?_), h.off, hx.set5 v', h.res.sav g2 (fun e => ?_), hr.sav (.set _ 5 v') (fun r hr e => by have := (hv' r hr).1; omega), hv'⟩
  · rcases hr with hr | hr
    · exact ⟨⟨by have := (h.own r hr).1; omega, (h.own r hr).2⟩, NoRatB.row h.row (fun b ⟨_, e⟩ => by cases e) (fun x ⟨_, e⟩ => by cases e) hr⟩
    · exact ⟨⟨by omega, fun e => by have := h.off r e; omega⟩, by rw [hr]; exact .of_cell h.x.c0 (fun b e => by cases e) (fun x e => by cases e)⟩
  · rcases e with e | e
    · have := (h.own _ e).1; omega
    · omega
theorem SeenI.cell (hN : N0 ≤ w.heap.size) (h : SeenI S w b wx b' a' n' t m k l s zs v) (i : Nat) (u : Value) {t' m' k' l' s' : Int} (hx : SeenAt (wx.setCell ⟨w.heap.size + 1 + 1, i, none⟩ u) (w.heap.size + 1 + 1) t' m' k' l' s' v) :
    SeenI S w b (wx.setCell ⟨w.heap.size + 1 + 1, i, none⟩ u) b' a' n' t' m' k' l' s' zs v := by
  have g : Sav (fun r => r = w.heap.size + 1 + 1) wx (wx.setCell ⟨w.heap.size + 1 + 1, i, none⟩ u) := .set _ i u
  exact ⟨h.wrote hN g (fun r hr => ⟨⟨by omega, fun e => by have := h.off r e; omega⟩, by rw [hr]; exact .of_cell h.x.c0 (fun b e => by cases e) (fun x e => by cases e)⟩), h.off, hx, h.res.sav g (by omega), h.row.sav g (fun r hr e => by have := (h.own r hr).1; omega), h.own⟩
theorem SeenI.start {a : α} {n : Nat} {cs : Array Value} {T T' T2 : TypeId} (hI : S.I w b a n) : SeenI S w b (((w.alloc (.cells cs T)).alloc (.cells #[.int .i64 0, .int .i64 0, .int .i64 0, .int .i64 0, .int .i64 0, .slice none 0 0] T')).alloc (.cells #[.int .i64 (-1), .int .i64 0, .int .i64 (-1), .int .i64 0, .int .i64 0, .slice none 0 0] T2)) b a n (-1) 0 (-1) 0 0 [] (.slice none 0 0) := by
  have hg : Gr w (((w.alloc (.cells cs T)).alloc (.cells #[.int .i64 0, .int .i64 0, .int .i64 0, .int .i64 0, .int .i64 0, .slice none 0 0] T')).alloc (.cells #[.int .i64 (-1), .int .i64 0, .int .i64 (-1), .int .i64 0, .int .i64 0, .slice none 0 0] T2)) := (((Gr.refl _).alloc _).alloc _).alloc _
  exact ⟨.of_gr S hI hg, fun g hg => .inl (S.lt hI hg), seen_new _ (by simp), (seen_new _ (by simp)).sav (B := fun _ => False) (.of_gr ((Gr.refl _).alloc _)) id, IntRow.nil _, fun g hg => by cases hg⟩
/-- Another step of the side's own. -/
theorem SeenI.step (h : SeenI S w b wx b' a' n' t m k l s [] (.slice none 0 0)) {b2 : β} {a2 : α} {n2 : Nat} (k' : S.Moved wx b' w' b2 a2 n2) : SeenI S w b w' b2 a2 n2 t m k l s [] (.slice none 0 0) := by
  have hsz : w.heap.size + 3 ≤ wx.heap.size := cell_lt h.x.c0
  refine ⟨h.moved.then S k', fun g hg => ?_, h.x.sav k'.sav (fun e => by have := h.off _ e; omega), h.res.sav k'.sav (fun e => by have := h.off _ e; omega), IntRow.nil _, fun g hg => by cases hg⟩
  rcases k'.new g hg with h1 | h1
  · exact h.off g h1
  · exact .inr (by omega)
end
section
variable {α β : Type} {M : Mach α} {N0 : Nat} {S : Side M N0 β} {q : Value}
set_option maxRecDepth 100000 in
set_option maxHeartbeats 40000000 in
theorem seen_any (P : PSide S q) (w : World) (b : β) (a : α) (n : Nat) (s : Stp) (h : S.I w b a n) (hs : GoodStp s n) (hN : N0 ≤ w.heap.size) :
    Calls Tryz.prog 26 #[q, .agg #[.int .i64 s.what, .int .i64 s.later, .int .i64 s.it.t, .int .i64 s.it.len, .int .i64 s.it.flow, .int .i64 s.it.band, .int .i64 s.it.mark], .int .i64 (n : Int)] w fun e w' => ∃ b' ra rc,
      e = .returned (.agg #[.int .i64 (M.step a s n).2.2.taken, .int .i64 (M.step a s n).2.2.mark, .int .i64 (M.step a s n).2.2.at_, .int .i64 (M.all (M.step a s n).1).length, .int .i64 (sumLen (M.all (M.step a s n).1)), .slice ra (M.step a s n).2.2.lost.length rc]) ∧
      IntRow w' (.slice ra (M.step a s n).2.2.lost.length rc) ((M.step a s n).2.2.lost.map Hel.n) ∧ S.Moved w b w' b' (M.step a s n).1 (M.step a s n).2.1 ∧ ∀ g, (Value.slice ra (M.step a s n).2.2.lost.length rc).ownBlock = some g → w.heap.size ≤ g ∧ ¬ S.F b' g := by
  obtain ⟨fp, rp, hmPut, hcp⟩ := P.put
  obtain ⟨ft, rt, hmTake, hct⟩ := P.take
  obtain ⟨fw, rw_, hmWhen, hcw⟩ := P.when_
  obtain ⟨fl, rl, hmLen, hcl⟩ := P.len
  obtain ⟨fb, rb, hmBytes, hcb⟩ := P.bytes
  have HCP := Lib.hid hcp
  have HCT := Lib.hid hct
  have HCW := Lib.hid hcw
  have HCL := Lib.hid hcl
  have HCB := Lib.hid hcb
  have HNN := Lib.hid hN
  have HI := Lib.hid h
  have HFP := Lib.hid (fun hg => P.fewPut (now := s.later) (x := hel s.it n) h hg)
  have HFT := Lib.hid (fun hg => P.fewTake (now := s.later) h hg)
  have HS := Lib.hid hs
  clear hcp hct hcw hcl hcb hN h hs P
  obtain ⟨what, hwhat⟩ : ∃ what, what = s.what := ⟨_, rfl⟩
  have HW0 := Lib.hid hwhat
  rw [← hwhat]
  clear hwhat
  go_enter Tryz.func26, Tryz.ntmps26
  go_upto_block 0 with fail
  obtain ⟨w3, hw3⟩ : ∃ w3, w3 = (((w.alloc (.cells #[.int .i64 what, .int .i64 s.later, .int .i64 s.it.t, .int .i64 s.it.len, .int .i64 s.it.flow, .int .i64 s.it.band, .int .i64 s.it.mark] 92)).alloc (.cells #[.int .i64 0, .int .i64 0, .int .i64 0, .int .i64 0, .int .i64 0, .slice none 0 0] 101)).alloc (.cells #[.int .i64 (-1), .int .i64 0, .int .i64 (-1), .int .i64 0, .int .i64 0, .slice none 0 0] 101)) := ⟨_, rfl⟩
  have HM : Hid (SeenI S w b w3 b a n (-1) 0 (-1) 0 0 [] (.slice none 0 0)) := Lib.hid (by rw [hw3]; exact .start HI.out)
  have hc : ∀ i, i < 7 → w3.cell? ⟨w.heap.size, i, none⟩ = (#[.int .i64 what, .int .i64 s.later, .int .i64 s.it.t, .int .i64 s.it.len, .int .i64 s.it.flow, .int .i64 s.it.band, .int .i64 s.it.mark] : Array Value)[i]? := fun i hi => by
    rw [hw3]
    have hx : (w.alloc (.cells #[.int .i64 what, .int .i64 s.later, .int .i64 s.it.t, .int .i64 s.it.len, .int .i64 s.it.flow, .int .i64 s.it.band, .int .i64 s.it.mark] 92)).cell? ⟨w.heap.size, i, none⟩ = (#[.int .i64 what, .int .i64 s.later, .int .i64 s.it.t, .int .i64 s.it.len, .int .i64 s.it.flow, .int .i64 s.it.band, .int .i64 s.it.mark] : Array Value)[i]? := alloc_cell _ _ rfl
    obtain ⟨u, hu⟩ : ∃ u, (#[.int .i64 what, .int .i64 s.later, .int .i64 s.it.t, .int .i64 s.it.len, .int .i64 s.it.flow, .int .i64 s.it.band, .int .i64 s.it.mark] : Array Value)[i]? = some u := by
      rw [Array.getElem?_eq_getElem (by simpa using hi)]; exact ⟨_, rfl⟩
    rw [hu] at hx ⊢
    exact (((Gr.refl _).alloc _).alloc _).cell hx
  have c0 := hc 0 (by omega)
  have c1 := hc 1 (by omega)
  have c2 := hc 2 (by omega)
  have c3 := hc 3 (by omega)
  have c4 := hc 4 (by omega)
  have c5 := hc 5 (by omega)
  have c6 := hc 6 (by omega)
  simp only [List.getElem?_toArray, List.getElem?_cons_succ, List.getElem?_cons_zero] at c0 c1 c2 c3 c4 c5 c6
  have cl := cell_lt c0
  rw [← hw3]
  clear hw3 hc
  go_cut [8] (fun s8 wx => ∃ b' v, Hid (SeenI S w b wx b' (M.step a s n).1 (M.step a s n).2.1 (M.step a s n).2.2.taken (M.step a s n).2.2.mark (M.step a s n).2.2.at_ 0 0 ((M.step a s n).2.2.lost.map Hel.n) v))
  case first =>
    by_cases hw0 : what = 0
    · subst hw0
      have HST := Lib.hid (M.step0 a n HW0.out.symm)
      have HG := Lib.hid (HS.out.put HW0.out.symm)
      have HLN := Lib.hid (HFP.out HG.out)
      have HPC := Lib.hid (HCP.out w3 b a n s.later (hel s.it n) HM.out.moved.inv HG.out)
      generalize M.put a s.later (hel s.it n) = res at *
      unfold Hel.val hel at HPC
      simp only [] at HPC
      go_upto_region 8 with ((with_reducible refine wpList_here "Put" ?_); refine wpList_invoke hmPut rfl _ _ _ rfl rfl (ys := [.int .i64 s.later, .agg #[.int .i64 s.it.t, .int .i64 s.it.len, .int .i64 s.it.flow, .int .i64 s.it.band, .int .i64 s.it.mark, .int .i64 (n : Int)]]) rfl HPC.out ?_; rintro e w1 ⟨v1, b1, rfl, hrow, hmv⟩; have HM1 := Lib.hid (HM.out.step hmv); have HL1 := Lib.hid hrow; obtain ⟨lra, lrc, rfl⟩ := hrow.shape; clear hrow hmv; refine ⟨_, rfl, ?_⟩)
      go_wp2

      go_loopg [9] res.2.length (fun g sj wr => ∃ (j : Nat) (v : Value), j ≤ res.2.length ∧ sj = .int .i64 (j : Int) ∧ g = res.2.length - j ∧ Hid (SeenI S w b wr b1 res.1 (n + 1) (-1) 0 (-1) 0 0 ((res.2.take j).map Hel.n) v ∧ RowH 134 wr (.slice lra res.2.length lrc) res.2 ∧ ∀ r, v.ownBlock = some r → (Value.slice lra res.2.length lrc).ownBlock ≠ some r) ∧ Hid (True))
      case atStart => exact ⟨0, _, Nat.zero_le _, rfl, rfl, ⟨HM1.out, HL1.out, fun r hr => by cases hr⟩, trivial⟩
      case round =>
        obtain ⟨j, v, hj, rfl, rfl, HW, HEX⟩ := hrel
        by_cases hjl : j < res.2.length
        · have j0 : (0 : Int) ≤ (j : Int) := by omega
          have j1 : (j : Int) < (res.2.length : Int) := by omega
          obtain ⟨zs, hzs⟩ : ∃ zs, zs = (res.2.take j).map Hel.n := ⟨_, rfl⟩
          have hzl : zs.length = j := by rw [hzs]; simp; omega
          have HZS : Hid ((res.2.take (j + 1)).map Hel.n = zs ++ [(res.2.getD j .zero).n]) := Lib.hid (by
            rw [hzs, List.take_add_one, List.map_append, List.getElem?_eq_getElem hjl]
            simp [List.getD_eq_getElem?_getD, hjl])
          rw [← hzs] at HW
          clear hzs
          obtain ⟨la, lc, rfl⟩ := HW.out.1.row.shape
          obtain ⟨la2, lc2, he2, _, _, h3⟩ := HW.out.2.1.any
          obtain ⟨lb, lo, hla, h4⟩ := h3.out (by omega)
          injection he2 with he3 he4 he5
          obtain rfl : lra = some ⟨lb, lo, none⟩ := he3.trans hla
          have hy0 := (h4 j hjl).c5
          clear h3 h4 he5 he3
          obtain ⟨y, hy⟩ : ∃ y, y = (res.2.getD j .zero).n := ⟨_, rfl⟩
          rw [← hy] at hy0 HZS
          clear hy
          obtain ⟨w0, hw0⟩ : ∃ w0, w0 = wr := ⟨_, rfl⟩
          rw [← hw0] at HW hy0
          rw [← hw0]
          clear hw0
          have HX := Lib.hid HW.out.1.x.c5
          have HNE := Lib.hid (show ¬ (Value.slice la zs.length lc).ownBlock = some (w.heap.size + 1 + 1) from fun e => by have := (HW.out.1.own _ e).1; omega)
          have HY := Lib.hid hy0
          have HNL := Lib.hid (show ¬ (Value.slice la zs.length lc).ownBlock = some lb from fun e => HW.out.2.2 _ e rfl)
          have HJ := Lib.hid hjl
          have HZN := Lib.hid (show zs.length ≤ 1000 from by rw [hzl]; have := HLN.out; omega)
          have HLT := Lib.hid (fun g (hg : (Value.slice la zs.length lc).ownBlock = some g) => (show g < w0.heap.size from Row.lt HW.out.1.row hg))
          have HROW0 := Lib.hid HW.out.1.row
          clear hy0 hzl
          go_wp2
          refine wp_region_k (n := 10) (fun u => Sav (fun q => (Value.slice la zs.length lc).ownBlock = some q) w0 u ∧ IntRow u (.slice la zs.length lc) zs) [Fg.eq (.pointer (some ⟨w.heap.size + 1 + 1, 5, none⟩)), Fg.eq (.slice la zs.length lc), Fg.eq (.slice (some ⟨lb, lo, none⟩) res.2.length lrc), Fg.eq (.int .i64 (j : Int)), Fg.eq (.pointer (some ⟨lb, lo + j * 6, none⟩)), Fg.eq (.pointer (some ⟨lb, lo + j * 6 + 5, none⟩)), Fg.eq (.int .i64 y), Fg.newI w0.heap.size y, Fg.rowI w0 (.slice la zs.length lc) (zs ++ [y]), Fg.eq (.pointer (some ⟨w.heap.size + 1 + 1, 5, none⟩))] [45, 46, 47, 48, 49, 50, 51, 52, 53, 54] (⟨.of_gr (Gr.refl w0).drew, HROW0.out.gr (Gr.refl w0).drew⟩) (by kernel_rfl) (by kernel_rfl) (by kernel_rfl) ?_ ?_
          · intro L i o a w1 hi ho hA
            have hI := hA.gr
            match i, hi with
            | 0, _ =>
              obtain rfl := Option.some.inj ho
              exact kstep_val hA (r_fa_plain_Seen_5 rfl (show a.eval (.tmp 7) = .pointer (some ⟨w.heap.size + 1 + 1, 0, none⟩) from hA.other 7 (by decide))) rfl
            | 1, _ =>
              obtain rfl := Option.some.inj ho
              exact kstep_val hA (q_loadSI rfl (hA.fact 0 (hA.dep 0 (by kernel_rfl) (by decide))) (hI.1.cell HX.out HNE.out)) rfl
            | 2, _ =>
              obtain rfl := Option.some.inj ho
              exact kstep_val hA (q_move rfl (hA.other 8 (by decide))) rfl
            | 3, _ =>
              obtain rfl := Option.some.inj ho
              exact kstep_val hA (q_move rfl (hA.other 9 (by decide))) rfl
            | 4, _ =>
              obtain rfl := Option.some.inj ho
              exact kstep_val hA (q_idx6 rfl (hA.fact 2 (hA.dep 2 (by kernel_rfl) (by decide))) (hA.fact 3 (hA.dep 3 (by kernel_rfl) (by decide))) HJ.out) rfl
            | 5, _ =>
              obtain rfl := Option.some.inj ho
              exact kstep_val hA (r_fa_queue_Held_1 rfl (hA.fact 4 (hA.dep 4 (by kernel_rfl) (by decide)))) rfl
            | 6, _ =>
              obtain rfl := Option.some.inj ho
              exact kstep_val hA (q_loadI rfl (hA.fact 5 (hA.dep 5 (by kernel_rfl) (by decide))) (hI.1.cell HY.out HNL.out)) rfl
            | 7, _ =>
              obtain rfl := Option.some.inj ho
              exact kstep_gr hA (q_buildI rfl (hA.fact 6 (hA.dep 6 (by kernel_rfl) (by decide)))) ((Gr.refl _).alloc _) ⟨hI.1.then (.of_gr ((Gr.refl _).alloc _)), hI.2.gr ((Gr.refl _).alloc _)⟩ ⟨_, rfl, hI.1.size, alloc_cell _ _ rfl⟩
            | 8, _ =>
              obtain rfl := Option.some.inj ho
              obtain ⟨g, hv, hg, hh⟩ := (hA.fact 7 (hA.dep 7 (by kernel_rfl) (by decide)))
              obtain ⟨v', w', hr, hrow, hgrow, hown, hold⟩ := hI.2.app ⟨g, 0, none⟩ 1 y hh HZN.out
              refine kstep_keep hA (q_append rfl (hA.fact 1 (hA.dep 1 (by kernel_rfl) (by decide))) hv hr) ⟨hI.1.then (.of_grown hgrow fun _ h => h), hold⟩ ⟨hrow, fun g hg => (hown g hg).imp id (Nat.le_trans hI.1.size)⟩ ?_
              intro j hj u hu
              match j, hj, hu with
              | 0, _, hu => exact hu
              | 1, _, hu => exact hu
              | 2, _, hu => exact hu
              | 3, _, hu => exact hu
              | 4, _, hu => exact hu
              | 5, _, hu => exact hu
              | 6, _, hu => exact hu
              | 9, _, hu => exact hu
              | 7, _, hu => obtain ⟨g', h1, h2, h3⟩ := hu; exact ⟨g', h1, h2, (Sav.of_grown (B := fun q => (Value.slice la zs.length lc).ownBlock = some q) hgrow fun _ h => h).cell h3 (fun e => by have := HLT.out g' e; omega)⟩
              | 8, hj, _ => exact absurd rfl hj
              | j + 10, _, _ => trivial
            | 9, _ =>
              obtain rfl := Option.some.inj ho
              exact kstep_val hA (r_fa_plain_Seen_5 rfl (show a.eval (.tmp 7) = .pointer (some ⟨w.heap.size + 1 + 1, 0, none⟩) from hA.other 7 (by decide))) rfl
          · intro vs w2 hI hv
            obtain ⟨hrow, hown⟩ := hv 8 (by omega)
            have v9 : vs 9 = .pointer (some ⟨w.heap.size + 1 + 1, 5, none⟩) := hv 9 (by omega)
            have HPU := Lib.hid (fun (v' : Value) (h1 : IntRow w2 v' (zs ++ [y])) (h2 : ∀ g, v'.ownBlock = some g → (Value.slice la zs.length lc).ownBlock = some g ∨ w0.heap.size ≤ g) => HW.out.1.push HNN.out hI.1 h1 h2)
            have hrow' : IntRow w2 (vs 8) (zs ++ [y]) := hrow
            have hown' : ∀ g, (vs 8).ownBlock = some g → (Value.slice la zs.length lc).ownBlock = some g ∨ w0.heap.size ≤ g := hown
            have HLR := Lib.hid (HW.out.2.1.sav hI.1 (fun g hg e => HW.out.2.2 g e hg))
            have HLO := Lib.hid (fun g hg => HW.out.2.1.lt (g := g) hg)
            have d5 := hI.1.cell HX.out HNE.out
            have e5 := hI.1.frozen (p := ⟨w.heap.size + 1 + 1, 5, none⟩) (cell_lt HX.out) HW.out.1.x.f5 HNE.out
            clear HEX
            have HNX := Lib.hid (HW.out.2.1.ne HX.out notInt_slice)
            clear hv hrow hown hI
            simp only [putN, List.drop_succ_cons, List.drop_zero, List.getElem?_cons_succ, List.getElem?_cons_zero]
            generalize vs 8 = u8 at *
            generalize vs 9 = u9 at *
            subst v9
            obtain ⟨a', cap', rfl⟩ := hrow'.shape
            rw [show (zs ++ [y]).length = zs.length + 1 from by simp] at *
            have HROW := Lib.hid hrow'
            have HOWN := Lib.hid hown'
            clear hrow' hown'
            go_wp2
            go_roundg (res.2.length - (j + 1))
            case measure => omega
            case rel =>
              refine ⟨j + 1, _, by omega, congrArg (Value.int .i64) (by have := HLN.out; unfold wrap64; omega), rfl, ⟨by rw [HZS.out]; exact HPU.out _ HROW.out HOWN.out, HLR.out.sav (.set _ 5 _) (fun g hg e => HNX.out (by rw [hg, e])), fun r hr e => ?_⟩, trivial⟩
              rcases HOWN.out r hr with h1 | h1
              · exact HW.out.2.2 r h1 e
              · have := HLO.out r e; omega
        · obtain rfl : j = res.2.length := by omega
          rw [List.take_length] at HW
          go_wp2
          go_meet
          exact ⟨b1, v, by rw [HST.out]; exact HW.out.1⟩
    · by_cases hw1 : what = 1
      · subst hw1
        have HST := Lib.hid (M.step1 a n HW0.out.symm)
        have HLN := Lib.hid (HFT.out HS.out.clock)
        have HPC := Lib.hid (HCT.out w3 b a n s.later HM.out.moved.inv HS.out.clock)
        generalize M.take a s.later = res at *
        obtain ⟨a1, x, L, ok⟩ := res
        unfold Mach.outTake at HST
        simp only [] at HST HLN HPC
        unfold Hel.val at HPC
        go_upto_region 14 with ((with_reducible refine wpList_here "Take" ?_); refine wpList_invoke hmTake rfl _ _ _ rfl rfl (ys := [.int .i64 s.later]) rfl HPC.out ?_; rintro e w1 ⟨v1, b1, rfl, hrow, hmv⟩; have HM0 := Lib.hid (HM.out.step hmv); have HL0 := Lib.hid hrow; obtain ⟨lra, lrc, rfl⟩ := hrow.shape; clear hrow hmv; refine ⟨_, rfl, ?_⟩)
        obtain ⟨w2, hw2⟩ : ∃ w2, w2 = w1.alloc (.cells #[.int .i64 x.t, .int .i64 x.len, .int .i64 x.flow, .int .i64 x.band, .int .i64 x.mark, .int .i64 x.n] 134) := ⟨_, rfl⟩
        have HM1 : Hid (SeenI S w b w2 b1 a1 n (-1) 0 (-1) 0 0 [] (.slice none 0 0)) := Lib.hid (by rw [hw2]; exact HM0.out.gr ((Gr.refl _).alloc _))
        have HL1 : Hid (RowH 134 w2 (.slice lra L.length lrc) L) := Lib.hid (by rw [hw2]; exact HL0.out.gr ((Gr.refl _).alloc _))
        obtain ⟨hb, hhb⟩ : ∃ hb, hb = w1.heap.size := ⟨_, rfl⟩
        have HX1 : Hid (HelAt w2 hb 0 x ∧ w.heap.size + 3 ≤ hb) := Lib.hid (by
          rw [hw2]
          exact ⟨held_new w1 x hhb, by rw [hhb]; exact cell_lt HM0.out.x.c0⟩)
        rw [← hw2, ← hhb]
        clear hw2 hhb
        go_wp2

        go_loopg [13] L.length (fun g sj wr => ∃ (j : Nat) (v : Value), j ≤ L.length ∧ sj = .int .i64 (j : Int) ∧ g = L.length - j ∧ Hid (SeenI S w b wr b1 a1 n (-1) 0 (-1) 0 0 ((L.take j).map Hel.n) v ∧ RowH 134 wr (.slice lra L.length lrc) L ∧ ∀ r, v.ownBlock = some r → (Value.slice lra L.length lrc).ownBlock ≠ some r) ∧ Hid (HelAt wr hb 0 x ∧ (w.heap.size + 3 ≤ hb) ∧ ∀ r, v.ownBlock = some r → r ≠ hb))
        case atStart => exact ⟨0, _, Nat.zero_le _, rfl, rfl, ⟨HM1.out, HL1.out, fun r hr => by cases hr⟩, ⟨HX1.out.1, HX1.out.2, fun r hr => by cases hr⟩⟩
        case round =>
          obtain ⟨j, v, hj, rfl, rfl, HW, HEX⟩ := hrel
          by_cases hjl : j < L.length
          · have j0 : (0 : Int) ≤ (j : Int) := by omega
            have j1 : (j : Int) < (L.length : Int) := by omega
            obtain ⟨zs, hzs⟩ : ∃ zs, zs = (L.take j).map Hel.n := ⟨_, rfl⟩
            have hzl : zs.length = j := by rw [hzs]; simp; omega
            have HZS : Hid ((L.take (j + 1)).map Hel.n = zs ++ [(L.getD j .zero).n]) := Lib.hid (by
              rw [hzs, List.take_add_one, List.map_append, List.getElem?_eq_getElem hjl]
              simp [List.getD_eq_getElem?_getD, hjl])
            rw [← hzs] at HW
            clear hzs
            obtain ⟨la, lc, rfl⟩ := HW.out.1.row.shape
            obtain ⟨la2, lc2, he2, _, _, h3⟩ := HW.out.2.1.any
            obtain ⟨lb, lo, hla, h4⟩ := h3.out (by omega)
            injection he2 with he3 he4 he5
            obtain rfl : lra = some ⟨lb, lo, none⟩ := he3.trans hla
            have hy0 := (h4 j hjl).c5
            clear h3 h4 he5 he3
            obtain ⟨y, hy⟩ : ∃ y, y = (L.getD j .zero).n := ⟨_, rfl⟩
            rw [← hy] at hy0 HZS
            clear hy
            obtain ⟨w0, hw0⟩ : ∃ w0, w0 = wr := ⟨_, rfl⟩
            rw [← hw0] at HW hy0 HEX
            rw [← hw0]
            clear hw0
            have HX := Lib.hid HW.out.1.x.c5
            have HNE := Lib.hid (show ¬ (Value.slice la zs.length lc).ownBlock = some (w.heap.size + 1 + 1) from fun e => by have := (HW.out.1.own _ e).1; omega)
            have HY := Lib.hid hy0
            have HNL := Lib.hid (show ¬ (Value.slice la zs.length lc).ownBlock = some lb from fun e => HW.out.2.2 _ e rfl)
            have HJ := Lib.hid hjl
            have HZN := Lib.hid (show zs.length ≤ 1000 from by rw [hzl]; have := HLN.out; omega)
            have HLT := Lib.hid (fun g (hg : (Value.slice la zs.length lc).ownBlock = some g) => (show g < w0.heap.size from Row.lt HW.out.1.row hg))
            have HROW0 := Lib.hid HW.out.1.row
            clear hy0 hzl
            go_wp2
            refine wp_region_k (n := 10) (fun u => Sav (fun q => (Value.slice la zs.length lc).ownBlock = some q) w0 u ∧ IntRow u (.slice la zs.length lc) zs) [Fg.eq (.pointer (some ⟨w.heap.size + 1 + 1, 5, none⟩)), Fg.eq (.slice la zs.length lc), Fg.eq (.slice (some ⟨lb, lo, none⟩) L.length lrc), Fg.eq (.int .i64 (j : Int)), Fg.eq (.pointer (some ⟨lb, lo + j * 6, none⟩)), Fg.eq (.pointer (some ⟨lb, lo + j * 6 + 5, none⟩)), Fg.eq (.int .i64 y), Fg.newI w0.heap.size y, Fg.rowI w0 (.slice la zs.length lc) (zs ++ [y]), Fg.eq (.pointer (some ⟨w.heap.size + 1 + 1, 5, none⟩))] [71, 72, 73, 74, 75, 76, 77, 78, 79, 80] (⟨.of_gr (Gr.refl w0).drew, HROW0.out.gr (Gr.refl w0).drew⟩) (by kernel_rfl) (by kernel_rfl) (by kernel_rfl) ?_ ?_
            · intro L i o a w1 hi ho hA
              have hI := hA.gr
              match i, hi with
              | 0, _ =>
                obtain rfl := Option.some.inj ho
                exact kstep_val hA (r_fa_plain_Seen_5 rfl (show a.eval (.tmp 7) = .pointer (some ⟨w.heap.size + 1 + 1, 0, none⟩) from hA.other 7 (by decide))) rfl
              | 1, _ =>
                obtain rfl := Option.some.inj ho
                exact kstep_val hA (q_loadSI rfl (hA.fact 0 (hA.dep 0 (by kernel_rfl) (by decide))) (hI.1.cell HX.out HNE.out)) rfl
              | 2, _ =>
                obtain rfl := Option.some.inj ho
                exact kstep_val hA (q_move rfl (hA.other 11 (by decide))) rfl
              | 3, _ =>
                obtain rfl := Option.some.inj ho
                exact kstep_val hA (q_move rfl (hA.other 13 (by decide))) rfl
              | 4, _ =>
                obtain rfl := Option.some.inj ho
                exact kstep_val hA (q_idx6 rfl (hA.fact 2 (hA.dep 2 (by kernel_rfl) (by decide))) (hA.fact 3 (hA.dep 3 (by kernel_rfl) (by decide))) HJ.out) rfl
              | 5, _ =>
                obtain rfl := Option.some.inj ho
                exact kstep_val hA (r_fa_queue_Held_1 rfl (hA.fact 4 (hA.dep 4 (by kernel_rfl) (by decide)))) rfl
              | 6, _ =>
                obtain rfl := Option.some.inj ho
                exact kstep_val hA (q_loadI rfl (hA.fact 5 (hA.dep 5 (by kernel_rfl) (by decide))) (hI.1.cell HY.out HNL.out)) rfl
              | 7, _ =>
                obtain rfl := Option.some.inj ho
                exact kstep_gr hA (q_buildI rfl (hA.fact 6 (hA.dep 6 (by kernel_rfl) (by decide)))) ((Gr.refl _).alloc _) ⟨hI.1.then (.of_gr ((Gr.refl _).alloc _)), hI.2.gr ((Gr.refl _).alloc _)⟩ ⟨_, rfl, hI.1.size, alloc_cell _ _ rfl⟩
              | 8, _ =>
                obtain rfl := Option.some.inj ho
                obtain ⟨g, hv, hg, hh⟩ := (hA.fact 7 (hA.dep 7 (by kernel_rfl) (by decide)))
                obtain ⟨v', w', hr, hrow, hgrow, hown, hold⟩ := hI.2.app ⟨g, 0, none⟩ 1 y hh HZN.out
                refine kstep_keep hA (q_append rfl (hA.fact 1 (hA.dep 1 (by kernel_rfl) (by decide))) hv hr) ⟨hI.1.then (.of_grown hgrow fun _ h => h), hold⟩ ⟨hrow, fun g hg => (hown g hg).imp id (Nat.le_trans hI.1.size)⟩ ?_
                intro j hj u hu
                match j, hj, hu with
                | 0, _, hu => exact hu
                | 1, _, hu => exact hu
                | 2, _, hu => exact hu
                | 3, _, hu => exact hu
                | 4, _, hu => exact hu
                | 5, _, hu => exact hu
                | 6, _, hu => exact hu
                | 9, _, hu => exact hu
                | 7, _, hu => obtain ⟨g', h1, h2, h3⟩ := hu; exact ⟨g', h1, h2, (Sav.of_grown (B := fun q => (Value.slice la zs.length lc).ownBlock = some q) hgrow fun _ h => h).cell h3 (fun e => by have := HLT.out g' e; omega)⟩
                | 8, hj, _ => exact absurd rfl hj
                | j + 10, _, _ => trivial
              | 9, _ =>
                obtain rfl := Option.some.inj ho
                exact kstep_val hA (r_fa_plain_Seen_5 rfl (show a.eval (.tmp 7) = .pointer (some ⟨w.heap.size + 1 + 1, 0, none⟩) from hA.other 7 (by decide))) rfl
            · intro vs w2' hI hv
              obtain ⟨hrow, hown⟩ := hv 8 (by omega)
              have v9 : vs 9 = .pointer (some ⟨w.heap.size + 1 + 1, 5, none⟩) := hv 9 (by omega)
              have HPU := Lib.hid (fun (v' : Value) (h1 : IntRow w2' v' (zs ++ [y])) (h2 : ∀ g, v'.ownBlock = some g → (Value.slice la zs.length lc).ownBlock = some g ∨ w0.heap.size ≤ g) => HW.out.1.push HNN.out hI.1 h1 h2)
              have hrow' : IntRow w2' (vs 8) (zs ++ [y]) := hrow
              have hown' : ∀ g, (vs 8).ownBlock = some g → (Value.slice la zs.length lc).ownBlock = some g ∨ w0.heap.size ≤ g := hown
              have HLR := Lib.hid (HW.out.2.1.sav hI.1 (fun g hg e => HW.out.2.2 g e hg))
              have HLO := Lib.hid (fun g hg => HW.out.2.1.lt (g := g) hg)
              have d5 := hI.1.cell HX.out HNE.out
              have e5 := hI.1.frozen (p := ⟨w.heap.size + 1 + 1, 5, none⟩) (cell_lt HX.out) HW.out.1.x.f5 HNE.out
              have HEX2 := Lib.hid (show HelAt w2' hb 0 x ∧ hb < w0.heap.size from ⟨HEX.out.1.sav hI.1 (fun e => HEX.out.2.2 _ e rfl), cell_lt HEX.out.1.c0⟩)
              have HNX := Lib.hid (HW.out.2.1.ne HX.out notInt_slice)
              clear hv hrow hown hI
              simp only [putN, List.drop_succ_cons, List.drop_zero, List.getElem?_cons_succ, List.getElem?_cons_zero]
              generalize vs 8 = u8 at *
              generalize vs 9 = u9 at *
              subst v9
              obtain ⟨a', cap', rfl⟩ := hrow'.shape
              rw [show (zs ++ [y]).length = zs.length + 1 from by simp] at *
              have HROW := Lib.hid hrow'
              have HOWN := Lib.hid hown'
              clear hrow' hown'
              go_wp2
              go_roundg (L.length - (j + 1))
              case measure => omega
              case rel =>
                refine ⟨j + 1, _, by omega, congrArg (Value.int .i64) (by have := HLN.out; unfold wrap64; omega), rfl, ⟨by rw [HZS.out]; exact HPU.out _ HROW.out HOWN.out, HLR.out.sav (.set _ 5 _) (fun g hg e => HNX.out (by rw [hg, e])), fun r hr e => ?_⟩, ⟨HEX2.out.1.sav (.set _ 5 _) (fun e => by have := HEX.out.2.1; omega), HEX.out.2.1, fun r hr e => (HOWN.out r hr).elim (fun h1 => HEX.out.2.2 r h1 e) (fun h1 => by have := HEX2.out.2; omega)⟩⟩
                rcases HOWN.out r hr with h1 | h1
                · exact HW.out.2.2 r h1 e
                · have := HLO.out r e; omega
          · obtain rfl : j = L.length := by omega
            rw [List.take_length] at HW
            obtain ⟨x0, x1, x2, x3, x4, x5⟩ := HEX.out.1
            have xl := cell_lt x0
            cases ok with
            | false =>
              go_wp2
              go_meet
              exact ⟨b1, v, by rw [HST.out]; exact HW.out.1⟩
            | true =>
              obtain ⟨c0', f0', c1', f1', c2', f2', c3', f3', c4', f4', c5', f5'⟩ := HW.out.1.x
              go_wp2
              go_region
              go_wp2
              go_meet
              exact ⟨b1, v, by
                rw [HST.out]
                have h1 := HW.out.1.cell HNN.out 0 (.int .i64 x.n) (HW.out.1.x.set0 x.n)
                exact (h1.cell HNN.out 1 (.int .i64 x.mark) (h1.x.set1 x.mark)).gr (Gr.refl _).drew⟩
      · have HST := Lib.hid (M.step2 a n (show s.what ≠ 0 from by rw [← HW0.out]; exact hw0) (show s.what ≠ 1 from by rw [← HW0.out]; exact hw1))
        have HPC := Lib.hid (HCW.out w3 b a n s.later HM.out.moved.inv HS.out.clock)
        have hb0 : (what == 0) = false := by simp [hw0]
        have hb1 : (what == 1) = false := by simp [hw1]
        generalize M.when_ a s.later = res at *
        obtain ⟨a1, at1, ok⟩ := res
        unfold Mach.outWhen at HST
        simp only [] at HST HPC
        go_upto_region 4 with ((with_reducible refine wpList_here "When" ?_); refine wpList_invoke hmWhen rfl _ _ _ rfl rfl (ys := [.int .i64 s.later]) rfl HPC.out ?_; rintro e w1 ⟨b1, rfl, hmv⟩; have HM1 := Lib.hid (HM.out.step hmv); clear hmv; refine ⟨_, rfl, ?_⟩)
        cases ok with
        | false =>
          go_wp2
          go_meet
          exact ⟨b1, _, by rw [HST.out]; exact HM1.out⟩
        | true =>
          obtain ⟨c0', f0', c1', f1', c2', f2', c3', f3', c4', f4', c5', f5'⟩ := HM1.out.x
          go_wp2
          go_meet
          exact ⟨b1, _, by rw [HST.out]; exact HM1.out.cell HNN.out 2 (.int .i64 at1) (HM1.out.x.set2 at1)⟩
  case rest =>
    obtain ⟨b', v, HR⟩ := hcut
    clear HM HFP HFT HCP HCT HCW c0 c1 c2 c3 c4 c5 c6 cl
    obtain ⟨res, hres⟩ : ∃ res, M.step a s n = res := ⟨_, rfl⟩
    have HRES := Lib.hid hres
    rw [hres] at HR
    clear hres
    obtain ⟨a', n', o⟩ := res
    simp only [] at HR
    have HLL := Lib.hid (fun W (g : Gr wc W) => HCL.out W b' a' n' (S.gr HR.out.moved.inv g))
    have HBB := Lib.hid (fun W (g : Gr wc W) => HCB.out W b' a' n' (S.gr HR.out.moved.inv g))
    obtain ⟨za, zc, rfl⟩ := HR.out.row.shape
    rw [List.length_map] at *
    go_upto_region 21 with (first
      | ((with_reducible refine wpList_here "Len" ?_); refine wpList_invoke hmLen rfl _ _ _ rfl rfl (ys := []) rfl (HLL.out _ (Gr.refl _)) ?_; rintro e w1 ⟨rfl, hg1⟩; have HG1 := Lib.hid hg1; clear hg1; refine ⟨_, rfl, ?_⟩)
      | ((with_reducible refine wpList_here "Bytes" ?_); refine wpList_invoke hmBytes rfl _ _ _ rfl rfl (ys := []) rfl (HBB.out _ HG1.out) ?_; rintro e w2 ⟨rfl, hg2⟩; have HR2 := Lib.hid (HR.out.gr (HG1.out.trans hg2)); obtain ⟨c0', f0', c1', f1', c2', f2', c3', f3', c4', f4', c5', f5'⟩ := HR2.out.x; clear hg2; refine ⟨_, rfl, ?_⟩))
    obtain ⟨wm, hwm⟩ : ∃ wm, wm = (w2.setCell ⟨w.heap.size + 1 + 1, 3, none⟩ (.int .i64 (M.all a').length)).setCell ⟨w.heap.size + 1 + 1, 4, none⟩ (.int .i64 (sumLen (M.all a'))) := ⟨_, rfl⟩
    have h3 := HR2.out.cell HNN.out 3 (.int .i64 (M.all a').length) (HR2.out.x.set3 _)
    have HR3 : Hid (SeenI S w b wm b' a' n' o.taken o.mark o.at_ (M.all a').length (sumLen (M.all a')) (o.lost.map Hel.n) (.slice za o.lost.length zc)) := Lib.hid (by rw [hwm]; exact h3.cell HNN.out 4 (.int .i64 (sumLen (M.all a'))) (h3.x.set4 _))
    rw [← hwm]
    clear hwm h3 c0' c1' c2' c3' c4' c5' f0' f1' f2' f3' f4' f5'
    obtain ⟨c0', f0', c1', f1', c2', f2', c3', f3', c4', f4', c5', f5'⟩ := HR3.out.x
    obtain ⟨e0, g0, e1, g1, e2, g2, e3, g3, e4, g4, e5, g5⟩ := HR3.out.res
    go_wp2
    obtain ⟨wf, hwf⟩ : ∃ wf, wf = ((((((wm.setCell ⟨w.heap.size + 1, 0, none⟩ (.int .i64 o.taken)).setCell ⟨w.heap.size + 1, 1, none⟩ (.int .i64 o.mark)).setCell ⟨w.heap.size + 1, 2, none⟩ (.int .i64 o.at_)).setCell ⟨w.heap.size + 1, 3, none⟩ (.int .i64 (M.all a').length)).setCell ⟨w.heap.size + 1, 4, none⟩ (.int .i64 (sumLen (M.all a')))).setCell ⟨w.heap.size + 1, 5, none⟩ (.slice za o.lost.length zc)) := ⟨_, rfl⟩
    have hr6 : SeenAt wf (w.heap.size + 1) o.taken o.mark o.at_ (M.all a').length (sumLen (M.all a')) (.slice za o.lost.length zc) := by rw [hwf]; exact (((((HR3.out.res.set0 _).set1 _).set2 _).set3 _).set4 _).set5 _
    have hs6 : Sav (fun r => r = w.heap.size + 1) wm wf := by rw [hwf]; exact (((((Sav.set _ 0 _).then (Sav.set _ 1 _)).then (Sav.set _ 2 _)).then (Sav.set _ 3 _)).then (Sav.set _ 4 _)).then (Sav.set _ 5 _)
    rw [← hwf]
    clear hwf
    obtain ⟨q0, _, q1, _, q2, _, q3, _, q4, _, q5, _⟩ := hr6
    have HO := HR3.out.own
    rw [HRES.out]
    exact bodyPost_ret (v := .agg #[.int .i64 o.taken, .int .i64 o.mark, .int .i64 o.at_, .int .i64 (M.all a').length, .int .i64 (sumLen (M.all a')), .slice za o.lost.length zc]) (by simp [results, Tryz.results26, go_sem, q0, q1, q2, q3, q4, q5]) rfl
      ⟨b', za, zc, rfl, HR3.out.row.sav hs6 (fun g hg e => by have := (HO g hg).1; omega), HR3.out.wrote HNN.out hs6 (fun r hr => ⟨⟨by omega, fun e => by have := HR3.out.off r e; omega⟩, by rw [hr]; exact .of_cell HR3.out.res.c0 (fun b e => by cases e) (fun x e => by cases e)⟩), fun g hg => ⟨by have := (HO g hg).1; omega, (HO g hg).2⟩⟩
end
end Go.Proofs.YtgifghbnpdanhaaGreatDoor

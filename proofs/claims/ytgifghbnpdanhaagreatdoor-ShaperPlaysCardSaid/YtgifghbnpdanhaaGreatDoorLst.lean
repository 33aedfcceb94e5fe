/-
  queue.List: Add, First, Next, Last, All, Len, Bytes. (Printed by genlst.py.)
-/
import Derived.Test.YtgifghbnpdanhaaGreatDoorRowN
import Derived.Test.YtgifghbnpdanhaaGreatDoorReg
import Derived.StillTailTactics
import Derived.BigQuiet
namespace Go.Proofs.YtgifghbnpdanhaaGreatDoor
open Go.RowKit Go.Extern.Stop Go.Stop Go.Extern

section
variable {ev : Operand → Value} {o : Oper} {w : World} {x y : Operand} {u : Value}
theorem q_move (ho : o.op = .move x) (h : ev x = u) : (execOp ev o).run Tryz.prog w = .ok (.value u) w := by
  simp [execOp, ho, h, go_sem]
theorem q_nil {ad : Addr} (ho : o.op = .nilCheck x) (h : ev x = .pointer (some ad)) : (execOp ev o).run Tryz.prog w = .ok (.value (.pointer (some ad))) w := by
  simp [execOp, ho, h, go_sem]
theorem r_fa_queue_List_0 {p o' : Nat} (ho : o.op = .fieldAddr 74 x 0) (h : ev x = .pointer (some ⟨p, o', none⟩)) : (execOp ev o).run Tryz.prog w = .ok (.value (.pointer (some ⟨p, o', none⟩))) w := by
  simp [execOp, ho, h, go_sem]
theorem r_fa_queue_List_1 {p o' : Nat} (ho : o.op = .fieldAddr 74 x 1) (h : ev x = .pointer (some ⟨p, o', none⟩)) : (execOp ev o).run Tryz.prog w = .ok (.value (.pointer (some ⟨p, o' + 1, none⟩))) w := by
  simp [execOp, ho, h, go_sem]
theorem r_fa_queue_Held_0 {p o' : Nat} (ho : o.op = .fieldAddr 134 x 0) (h : ev x = .pointer (some ⟨p, o', none⟩)) : (execOp ev o).run Tryz.prog w = .ok (.value (.pointer (some ⟨p, o', none⟩))) w := by
  simp [execOp, ho, h, go_sem]
theorem r_fa_queue_Held_1 {p o' : Nat} (ho : o.op = .fieldAddr 134 x 1) (h : ev x = .pointer (some ⟨p, o', none⟩)) : (execOp ev o).run Tryz.prog w = .ok (.value (.pointer (some ⟨p, o' + 5, none⟩))) w := by
  simp [execOp, ho, h, go_sem]
theorem r_fa_api_Item_0 {p o' : Nat} (ho : o.op = .fieldAddr 90 x 0) (h : ev x = .pointer (some ⟨p, o', none⟩)) : (execOp ev o).run Tryz.prog w = .ok (.value (.pointer (some ⟨p, o', none⟩))) w := by
  simp [execOp, ho, h, go_sem]
theorem r_fa_api_Item_1 {p o' : Nat} (ho : o.op = .fieldAddr 90 x 1) (h : ev x = .pointer (some ⟨p, o', none⟩)) : (execOp ev o).run Tryz.prog w = .ok (.value (.pointer (some ⟨p, o' + 1, none⟩))) w := by
  simp [execOp, ho, h, go_sem]
theorem q_loadI {ad : Addr} {n : Int} (ho : o.op = .load 3 x) (h : ev x = .pointer (some ad)) (hc : w.cell? ad = some (.int .i64 n)) : (execOp ev o).run Tryz.prog w = .ok (.value (.int .i64 n)) w := by
  simp [execOp, ho, h, hc, go_sem]
theorem q_loadS {ad : Addr} {a : Option Addr} {n c : Nat} (ho : o.op = .load 72 x) (h : ev x = .pointer (some ad)) (hc : w.cell? ad = some (.slice a n c)) : (execOp ev o).run Tryz.prog w = .ok (.value (.slice a n c)) w := by
  simp [execOp, ho, h, hc, go_sem]
theorem q_loadH {p q : Nat} {z : Hel} (ho : o.op = .load 134 x) (h : ev x = .pointer (some ⟨p, q, none⟩)) (hc : HelAt w p q z) : (execOp ev o).run Tryz.prog w = .ok (.value z.val) w := by
  obtain ⟨c0, c1, c2, c3, c4, c5⟩ := hc
  simp [execOp, ho, h, c0, c1, c2, c3, c4, c5, Hel.val, go_sem]
theorem q_build {z : Hel} (ho : o.op = .buildSlice 72 1 #[(0, y)]) (h : ev y = z.val) : (execOp ev o).run Tryz.prog w = .ok (.value (.slice (some ⟨w.heap.size, 0, none⟩) 1 1)) (w.alloc (.cells #[.int .i64 z.t, .int .i64 z.len, .int .i64 z.flow, .int .i64 z.band, .int .i64 z.mark, .int .i64 z.n] 134)) := by
  simp [execOp, ho, h, Hel.val, go_sem]
theorem q_append {v v2 v' : Value} {w' : World} {t : TypeId} (ho : o.op = .call { callee := .builtin .append, args := #[x, y], argTypes := #[t, t] }) (h : ev x = v) (k : ev y = v2) (hr : (Builtin.append_ #[t, t] o.type #[v, v2]).run Tryz.prog w = .ok v' w') : (execOp ev o).run Tryz.prog w = .ok (.value v') w' := by
  simp [execOp, ho, resolve, invoke, builtin, h, k, hr, Result.andThen]
end
theorem heldInfo : (Tryz.prog.info? 134).map (fun i => (i.zero, i.size, i.bytes)) = some (some Hel.zero.val, 6, 48) := by kernel_rfl
theorem held_new (w : World) (z : Hel) {n : Nat} (hn : n = w.heap.size) {T : TypeId} : HelAt (w.alloc (.cells #[.int .i64 z.t, .int .i64 z.len, .int .i64 z.flow, .int .i64 z.band, .int .i64 z.mark, .int .i64 z.n] T)) n 0 z := by
  subst hn
  exact ⟨by simp, by simp, by simp, by simp, by simp, by simp⟩
/-- How many bytes. -/
def sumLen : List Hel → Int
  | [] => 0
  | x :: xs => x.len + sumLen xs
/-- Each has a length that may be. -/
def Lens (xs : List Hel) : Prop := ∀ x ∈ xs, 0 ≤ x.len ∧ x.len ≤ 10000
theorem Lens.sum {xs : List Hel} (h : Lens xs) (hn : xs.length ≤ 1000) : 0 ≤ sumLen xs ∧ sumLen xs ≤ 1000000000000000 := by
  suffices ∀ xs : List Hel, Lens xs → 0 ≤ sumLen xs ∧ sumLen xs ≤ 10000 * xs.length by have := this xs h; omega
  intro xs
  induction xs with
  | nil => intro _; simp [sumLen]
  | cons x xs ih =>
    intro h
    have h1 := ih (fun y hy => h y (by simp [hy]))
    have h2 := h x (by simp)
    simp only [sumLen, List.length_cons]
    omega

theorem sumLen_app (xs ys : List Hel) : sumLen (xs ++ ys) = sumLen xs + sumLen ys := by
  induction xs with
  | nil => simp [sumLen]
  | cons x xs ih => simp [sumLen, ih]; omega
/-- The list that lies at p, o. -/
structure LstAt (w : World) (p o : Nat) (v : Value) (xs : List Hel) : Prop where
  c0 : w.cell? ⟨p, o, none⟩ = some v
  c1 : w.cell? ⟨p, o + 1, none⟩ = some (.int .i64 (sumLen xs))
  f0 : w.frozen? ⟨p, o, none⟩ = false
  f1 : w.frozen? ⟨p, o + 1, none⟩ = false
  row : RowH 134 w v xs
/-- What of memory it writes. -/
def LFoot (p : Nat) (v : Value) (q : Nat) : Prop := q = p ∨ v.ownBlock = some q
/-- All but the two cells and the row are as they were. -/
structure LSav (p o : Nat) (v : Value) (w w' : World) : Prop where
  sav : Sav (LFoot p v) w w'
  cell : ∀ i, i ≠ o → i ≠ o + 1 → w'.cell? ⟨p, i, none⟩ = w.cell? ⟨p, i, none⟩
  frozen : ∀ i, w'.frozen? ⟨p, i, none⟩ = w.frozen? ⟨p, i, none⟩
section
variable {p o : Nat} {v : Value} {w w' : World} {xs : List Hel} {B : Nat → Prop}
theorem notInt_slice {a : Option Addr} {n c : Nat} : ¬ isInt (.slice a n c) := fun ⟨_, h⟩ => by cases h
theorem LstAt.shape (h : LstAt w p o v xs) : ∃ ba cap, v = .slice ba xs.length cap := h.row.shape
theorem LstAt.ne (h : LstAt w p o v xs) : v.ownBlock ≠ some p := by
  obtain ⟨ba, cap, e⟩ := h.shape
  exact h.row.ne (by rw [← e]; exact h.c0) notInt_slice |> fun k => by rw [e] at k ⊢; exact k
theorem LstAt.lt (h : LstAt w p o v xs) : p < w.heap.size := cell_lt h.c0
theorem LstAt.sav (h : LstAt w p o v xs) (k : Sav B w w') (hp : ¬ B p) (hv : ∀ g, v.ownBlock = some g → ¬ B g) : LstAt w' p o v xs :=
  ⟨k.cell h.c0 hp, k.cell h.c1 hp, k.frozen (p := ⟨p, o, none⟩) h.lt h.f0 hp, k.frozen (p := ⟨p, o + 1, none⟩) h.lt h.f1 hp, h.row.sav k hv⟩
theorem LstAt.gr (h : LstAt w p o v xs) (k : Gr w w') : LstAt w' p o v xs := h.sav (B := fun _ => False) (.of_gr k) (fun h => h) (fun _ _ h => h)
theorem LSav.of_gr (h : Gr w w') (hp : p < w.heap.size) : LSav p o v w w' := ⟨.of_gr h, fun i _ _ => h.cells p i hp, fun i => h.frozen (p := ⟨p, i, none⟩) hp⟩
theorem LSav.trans {a b c : World} {v' : Value} (h : LSav p o v a b) (k : LSav p o v' b c) (hv : ∀ g, v'.ownBlock = some g → v.ownBlock = some g ∨ a.heap.size ≤ g) : LSav p o v a c :=
  ⟨h.sav.trans k.sav fun q hq => by
    rcases hq with rfl | hq
    · exact .inl (.inl rfl)
    · rcases hv q hq with h1 | h1
      · exact .inl (.inr h1)
      · exact .inr h1, fun i h1 h2 => (k.cell i h1 h2).trans (h.cell i h1 h2), fun i => (k.frozen i).trans (h.frozen i)⟩
theorem LSav.of_row (k : Sav (fun q => v.ownBlock = some q) w w') (hp : p < w.heap.size) (hne : ¬ v.ownBlock = some p) : LSav p o v w w' :=
  ⟨k.mono fun _ h => .inr h, fun i _ _ => World.cell?_of_block (a := ⟨p, i, none⟩) (k.block p hp hne), fun i => World.frozen?_of_block (a := ⟨p, i, none⟩) (k.block p hp hne)⟩
theorem LSav.more {a b c : World} {B' : Nat → Prop} (h : LSav p o v a b) (k : Sav B' b c) (hB : ∀ q, B' q → a.heap.size ≤ q) (hp : p < a.heap.size) : LSav p o v a c :=
  have hl := Nat.lt_of_lt_of_le hp h.sav.size
  have hn : ¬ B' p := fun e => by have := hB p e; omega
  ⟨h.sav.trans k fun q hq => .inr (hB q hq), fun i h1 h2 => (World.cell?_of_block (a := ⟨p, i, none⟩) (k.block p hl hn)).trans (h.cell i h1 h2), fun i => (World.frozen?_of_block (a := ⟨p, i, none⟩) (k.block p hl hn)).trans (h.frozen i)⟩
theorem LSav.then {a b c : World} (h : LSav p o v a b) (k : LSav p o v b c) : LSav p o v a c := h.trans k fun _ hg => .inl hg
theorem lst_set1 {b : Int} {y : Value} (c0 : w.cell? ⟨p, o, none⟩ = some v) (c1 : w.cell? ⟨p, o + 1, none⟩ = some y) (f0 : w.frozen? ⟨p, o, none⟩ = false) (f1 : w.frozen? ⟨p, o + 1, none⟩ = false) (hr : RowH 134 w v xs) (hne : ¬ v.ownBlock = some p) (hb : b = sumLen xs) : LstAt (w.setCell ⟨p, o + 1, none⟩ (.int .i64 b)) p o v xs := by
  subst hb
  exact ⟨by rw [World.cell?_setCell_other _ _ _ _ (by simp)]; exact c0, World.cell?_setCell_same _ _ _ c1, by simpa using f0, by simpa using f1, hr.sav (.set p (o + 1) _) fun g hg e => hne (by rw [hg, e])⟩
theorem LSav.set0 (u : Value) : LSav p o v w (w.setCell ⟨p, o, none⟩ u) :=
  ⟨.setCell (.inl rfl) u, fun i h1 _ => by rw [World.cell?_setCell_other _ _ _ _ (by simp <;> omega)], fun i => by simp⟩
theorem LSav.set1 (u : Value) : LSav p o v w (w.setCell ⟨p, o + 1, none⟩ u) :=
  ⟨.setCell (.inl rfl) u, fun i _ h1 => by rw [World.cell?_setCell_other _ _ _ _ (by simp <;> omega)], fun i => by simp⟩
end

def Fg.hel (n : Nat) (x : Hel) : Fg := ⟨fun u w => ∃ g, u = .slice (some ⟨g, 0, none⟩) 1 1 ∧ n ≤ g ∧ HelAt w g 0 x, fun _ _ _ ⟨g, h1, h2, h3⟩ k => ⟨g, h1, h2, h3.gr k⟩⟩
def Fg.rowh (w0 : World) (v : Value) (xs : List Hel) : Fg := ⟨fun u w => RowH 134 w u xs ∧ ∀ g, u.ownBlock = some g → v.ownBlock = some g ∨ w0.heap.size ≤ g, fun _ _ _ ⟨h1, h2⟩ k => ⟨h1.gr k, h2⟩⟩
theorem sumLen_one (xs : List Hel) (x : Hel) : sumLen (xs ++ [x]) = sumLen xs + x.len := by rw [sumLen_app]; simp [sumLen]
theorem cell_so {w : World} {a b : Addr} {v u : Value} (h : w.cell? a = some u) (hne : b ≠ a) : (w.setCell b v).cell? a = some u := by rw [World.cell?_setCell_other _ _ _ _ hne]; exact h
theorem cell_ss {w : World} {a : Addr} {v u : Value} (h : w.cell? a = some u) : (w.setCell a v).cell? a = some v := World.cell?_setCell_same _ _ _ h
theorem hel_set6 {w : World} {r : Nat} {y : Hel} (h : HelRes w r y) (x : Hel) : HelRes ((((((w.setCell ⟨r, 0, none⟩ (.int .i64 x.t)).setCell ⟨r, 1, none⟩ (.int .i64 x.len)).setCell ⟨r, 2, none⟩ (.int .i64 x.flow)).setCell ⟨r, 3, none⟩ (.int .i64 x.band)).setCell ⟨r, 4, none⟩ (.int .i64 x.mark)).setCell ⟨r, 5, none⟩ (.int .i64 x.n)) r x ∧ Sav (fun q => q = r) w ((((((w.setCell ⟨r, 0, none⟩ (.int .i64 x.t)).setCell ⟨r, 1, none⟩ (.int .i64 x.len)).setCell ⟨r, 2, none⟩ (.int .i64 x.flow)).setCell ⟨r, 3, none⟩ (.int .i64 x.band)).setCell ⟨r, 4, none⟩ (.int .i64 x.mark)).setCell ⟨r, 5, none⟩ (.int .i64 x.n)) := by
  obtain ⟨⟨c0, c1, c2, c3, c4, c5⟩, f0, f1, f2, f3, f4, f5⟩ := h
  exact ⟨⟨⟨(cell_so (cell_so (cell_so (cell_so (cell_so (cell_ss c0) (by simp)) (by simp)) (by simp)) (by simp)) (by simp)), (cell_so (cell_so (cell_so (cell_so (cell_ss (cell_so c1 (by simp))) (by simp)) (by simp)) (by simp)) (by simp)), (cell_so (cell_so (cell_so (cell_ss (cell_so (cell_so c2 (by simp)) (by simp))) (by simp)) (by simp)) (by simp)), (cell_so (cell_so (cell_ss (cell_so (cell_so (cell_so c3 (by simp)) (by simp)) (by simp))) (by simp)) (by simp)), (cell_so (cell_ss (cell_so (cell_so (cell_so (cell_so c4 (by simp)) (by simp)) (by simp)) (by simp))) (by simp)), (cell_ss (cell_so (cell_so (cell_so (cell_so (cell_so c5 (by simp)) (by simp)) (by simp)) (by simp)) (by simp)))⟩, by simpa using f0, by simpa using f1, by simpa using f2, by simpa using f3, by simpa using f4, by simpa using f5⟩, ((((Sav.set r 0 _).then (Sav.set r 1 _)).then (Sav.set r 2 _)).then (Sav.set r 3 _)).then (Sav.set r 4 _) |>.then (Sav.set r 5 _)⟩
set_option maxRecDepth 100000 in
set_option maxHeartbeats 8000000 in
theorem ladd_any (p o : Nat) (v : Value) (xs : List Hel) (x : Hel) (w : World) (h : LstAt w p o v xs) (hn : xs.length ≤ 999990) (hb : 0 ≤ sumLen xs ∧ sumLen xs ≤ 1000000000000000) (hx : 0 ≤ x.len ∧ x.len ≤ 1000000000) :
    Calls Tryz.prog 87 #[.pointer (some ⟨p, o, none⟩), x.val] w fun e w' => e = .returned (.tuple #[]) ∧ ∃ v', LstAt w' p o v' (xs ++ [x]) ∧ LSav p o v w w' ∧ ∀ g, v'.ownBlock = some g → v.ownBlock = some g ∨ w.heap.size ≤ g := by
  obtain ⟨ba, cap, rfl⟩ := h.shape
  obtain ⟨w0, hw0⟩ : ∃ w0, w0 = w.alloc (.cells #[.int .i64 x.t, .int .i64 x.len, .int .i64 x.flow, .int .i64 x.band, .int .i64 x.mark, .int .i64 x.n] 134) := ⟨_, rfl⟩
  have HG0 : Hid (Gr w w0) := Lib.hid (by rw [hw0]; exact (Gr.refl w).alloc _)
  have H0 : Hid (LstAt w0 p o (.slice ba xs.length cap) xs) := Lib.hid (h.gr HG0.out)
  have HB : Hid (HelAt w0 w.heap.size 0 x) := Lib.hid (by rw [hw0]; exact held_new w x rfl)
  have HLT : Hid (∀ g, (Value.slice ba xs.length cap).ownBlock = some g → g < w0.heap.size) := Lib.hid (fun g hg => H0.out.row.lt hg)
  have HLW : Hid (∀ g, (Value.slice ba xs.length cap).ownBlock = some g → g < w.heap.size) := Lib.hid (fun g hg => h.row.lt hg)
  have HNE : Hid (¬ (Value.slice ba xs.length cap).ownBlock = some p ∧ ¬ (Value.slice ba xs.length cap).ownBlock = some w.heap.size) := Lib.hid ⟨h.ne, fun e => by have := HLW.out _ e; omega⟩
  have HPL : Hid (p < w.heap.size) := Lib.hid h.lt
  clear h
  unfold Hel.val
  go_enter Tryz.func87, Tryz.ntmps87
  go_wp2
  rw [← hw0]
  clear hw0
  refine wp_region_k (n := 10) (fun u => Sav (fun q => (Value.slice ba xs.length cap).ownBlock = some q) w0 u ∧ RowH 134 u (.slice ba xs.length cap) xs) [Fg.eq (.pointer (some ⟨p, o, none⟩)), Fg.eq (.pointer (some ⟨p, o, none⟩)), Fg.eq (.pointer (some ⟨p, o, none⟩)), Fg.eq (.pointer (some ⟨p, o, none⟩)), Fg.eq (.slice ba xs.length cap), Fg.eq (x.val), Fg.hel w0.heap.size x, Fg.rowh w0 (.slice ba xs.length cap) (xs ++ [x]), Fg.eq (.pointer (some ⟨p, o, none⟩)), Fg.eq (.pointer (some ⟨p, o, none⟩))] [4, 5, 6, 7, 8, 9, 10, 11, 12, 13] (⟨.of_gr (Gr.refl w0).drew, H0.out.row.gr (Gr.refl w0).drew⟩) (by kernel_rfl) (by kernel_rfl) (by kernel_rfl) ?_ ?_
  · intro L i o a w1 hi ho hA
    have hI := hA.gr
    match i, hi with
    | 0, _ =>
      obtain rfl := Option.some.inj ho
      exact kstep_val hA (q_move rfl (hA.other 0 (by decide))) rfl
    | 1, _ =>
      obtain rfl := Option.some.inj ho
      exact kstep_val hA (q_move rfl (hA.other 0 (by decide))) rfl
    | 2, _ =>
      obtain rfl := Option.some.inj ho
      exact kstep_val hA (q_nil rfl (hA.fact 1 (hA.dep 1 (by kernel_rfl) (by decide)))) rfl
    | 3, _ =>
      obtain rfl := Option.some.inj ho
      exact kstep_val hA (r_fa_queue_List_0 rfl (hA.fact 2 (hA.dep 2 (by kernel_rfl) (by decide)))) rfl
    | 4, _ =>
      obtain rfl := Option.some.inj ho
      exact kstep_val hA (q_loadS rfl (hA.fact 3 (hA.dep 3 (by kernel_rfl) (by decide))) (hI.1.cell H0.out.c0 HNE.out.1)) rfl
    | 5, _ =>
      obtain rfl := Option.some.inj ho
      exact kstep_val hA (q_loadH rfl (hA.other 3 (by decide)) (HB.out.sav hI.1 HNE.out.2)) rfl
    | 6, _ =>
      obtain rfl := Option.some.inj ho
      exact kstep_gr hA (q_build rfl (hA.fact 5 (hA.dep 5 (by kernel_rfl) (by decide)))) ((Gr.refl _).alloc _) ⟨hI.1.then (.of_gr ((Gr.refl _).alloc _)), hI.2.gr ((Gr.refl _).alloc _)⟩ ⟨_, rfl, hI.1.size, held_new _ _ rfl⟩
    | 7, _ =>
      obtain rfl := Option.some.inj ho
      obtain ⟨g, hv, hg, hh⟩ := (hA.fact 6 (hA.dep 6 (by kernel_rfl) (by decide)))
      obtain ⟨i0, hi0, hz0, hz1, hz2⟩ := info_parts heldInfo
      obtain ⟨v', w', hr, hrow, hgrow, hown, hold⟩ := RowH.app (P := Tryz.prog) (ys := [x]) 72 72 i0 Hel.zero.val Tryz.underlying72 hi0 hz0 hz1 hz2 rfl (by intro u hu; exact (cells_int Hel.zero u (by simpa [Hel.val, Value.cells, Hel.cells] using hu)).2) hI.2 ⟨g, 0, none⟩ 1 (by simp) (by rw [flat_one]; exact hh.news) (by simp; omega)
      refine kstep_keep hA (q_append rfl (hA.fact 4 (hA.dep 4 (by kernel_rfl) (by decide))) hv hr) ⟨hI.1.then (.of_grown hgrow fun _ h => h), hold⟩ ⟨hrow, fun g hg => (hown g hg).imp id (Nat.le_trans hI.1.size)⟩ ?_
      intro j hj u hu
      match j, hj, hu with
      | 0, _, hu => exact hu
      | 1, _, hu => exact hu
      | 2, _, hu => exact hu
      | 3, _, hu => exact hu
      | 4, _, hu => exact hu
      | 5, _, hu => exact hu
      | 8, _, hu => exact hu
      | 9, _, hu => exact hu
      | 6, _, hu => obtain ⟨g', h1, h2, h3⟩ := hu; exact ⟨g', h1, h2, h3.sav (B := fun q => (Value.slice ba xs.length cap).ownBlock = some q) (.of_grown hgrow fun _ h => h) (fun e => by have := HLT.out g' e; omega)⟩
      | 7, hj, _ => exact absurd rfl hj
      | j + 10, _, _ => trivial
    | 8, _ =>
      obtain rfl := Option.some.inj ho
      exact kstep_val hA (q_nil rfl (hA.fact 0 (hA.dep 0 (by kernel_rfl) (by decide)))) rfl
    | 9, _ =>
      obtain rfl := Option.some.inj ho
      exact kstep_val hA (r_fa_queue_List_0 rfl (hA.fact 8 (hA.dep 8 (by kernel_rfl) (by decide)))) rfl
  · intro vs w2 hI hv
    obtain ⟨hrow, hown⟩ := hv 7 (by omega)
    have v9 : vs 9 = .pointer (some ⟨p, o, none⟩) := hv 9 (by omega)
    have hrow' : RowH 134 w2 (vs 7) (xs ++ [x]) := hrow
    have hown' : ∀ g, (vs 7).ownBlock = some g → (Value.slice ba xs.length cap).ownBlock = some g ∨ w0.heap.size ≤ g := hown
    have d0 := hI.1.cell H0.out.c0 HNE.out.1
    have d1 := hI.1.cell H0.out.c1 HNE.out.1
    have f0 := hI.1.frozen (p := ⟨p, o, none⟩) H0.out.lt H0.out.f0 HNE.out.1
    have f1 := hI.1.frozen (p := ⟨p, o + 1, none⟩) H0.out.lt H0.out.f1 HNE.out.1
    have y1 := (HB.out.sav hI.1 HNE.out.2).c1
    have HS := Lib.hid hI.1
    clear hv hrow hown hI
    simp only [putN, List.drop_succ_cons, List.drop_zero, List.getElem?_cons_succ, List.getElem?_cons_zero]
    generalize vs 7 = u7 at *
    generalize vs 9 = u9 at *
    subst v9
    obtain ⟨a', cap', rfl⟩ := hrow'.shape
    have HROW := Lib.hid hrow'
    have HOWN := Lib.hid hown'
    clear hrow' hown'
    rw [List.length_append, show [x].length = 1 from rfl] at *
    go_wp2
    obtain ⟨w3, hw3⟩ : ∃ w3, w3 = w2.setCell ⟨p, o, none⟩ (.slice a' (xs.length + 1) cap') := ⟨_, rfl⟩
    have HNE2 : Hid (¬ (Value.slice a' (xs.length + 1) cap').ownBlock = some p) := Lib.hid (fun e => by
      rcases HOWN.out p e with h | h
      · exact HNE.out.1 h
      · have h1 := HPL.out
        have h2 := HG0.out.size
        omega)
    have HR3 : Hid (RowH 134 w3 (.slice a' (xs.length + 1) cap') (xs ++ [x])) := Lib.hid (by rw [hw3]; exact HROW.out.sav (.set p o _) (fun g hg e => HNE2.out (by rw [hg, e])))
    have hsv : Sav (fun q => q = p) w2 w3 := by rw [hw3]; exact .set p o _
    have HLS : Hid (LSav p o (.slice ba xs.length cap) w w3) := Lib.hid (((LSav.of_gr HG0.out HPL.out).then (.of_row HS.out H0.out.lt HNE.out.1)).then (by rw [hw3]; exact LSav.set0 _))
    have e0 : w3.cell? ⟨p, o, none⟩ = some (.slice a' (xs.length + 1) cap') := by rw [hw3]; exact World.cell?_setCell_same _ _ _ d0
    have e1 : w3.cell? ⟨p, o + 1, none⟩ = some (.int .i64 (sumLen xs)) := by rw [hw3, World.cell?_setCell_other _ _ _ _ (by simp)]; exact d1
    have g0 : w3.frozen? ⟨p, o, none⟩ = false := by rw [hw3]; simpa using f0
    have g1 : w3.frozen? ⟨p, o + 1, none⟩ = false := by rw [hw3]; simpa using f1
    have z1 : w3.cell? ⟨w.heap.size, 1, none⟩ = some (.int .i64 x.len) := hsv.cell y1 (fun e => by have := HPL.out; simp at e; omega)
    have HSL : Hid (sumLen (xs ++ [x]) = sumLen xs + x.len) := Lib.hid (sumLen_one xs x)
    have HW := Lib.hid (show IntKind.i64.wrap (sumLen xs + x.len) = sumLen xs + x.len from by rw [IntKind.wrap_i64]; omega)
    rw [← hw3]
    clear hw3 hsv d0 d1 f0 f1 y1
    have HE0 := Lib.hid e0
    have HF := Lib.hid (And.intro g0 g1)
    go_still_tail 10, (by kernel_rfl)
    repeat still_step
    rw [HW.out]
    go_wp2
    go_end0
    exact ⟨rfl, .slice a' (xs.length + 1) cap', (lst_set1 HE0.out e1 HF.out.1 HF.out.2 HR3.out HNE2.out HSL.out.symm).gr (Gr.refl _).drew, (HLS.out.then (.set1 _)).then (.of_gr (Gr.refl _).drew (by have := cell_lt HE0.out; simpa using this)), fun g hg => (HOWN.out g hg).imp id (Nat.le_trans HG0.out.size)⟩
theorem sumLen_cons (x : Hel) (xs : List Hel) : sumLen (x :: xs) = x.len + sumLen xs := rfl
theorem llen_any (p o : Nat) (v : Value) (xs : List Hel) (w : World) (h : LstAt w p o v xs) : Calls Tryz.prog 82 #[.pointer (some ⟨p, o, none⟩)] w fun e w' => e = .returned (.int .i64 (xs.length : Int)) ∧ w = w' := by
  obtain ⟨ba, cap, rfl⟩ := h.shape
  have c0 := h.c0
  clear h
  go_enter Tryz.func82, Tryz.ntmps82
  go_wp2
  go_ret
  exact ⟨rfl, rfl⟩
theorem lbytes_any (p o : Nat) (v : Value) (xs : List Hel) (w : World) (h : LstAt w p o v xs) : Calls Tryz.prog 81 #[.pointer (some ⟨p, o, none⟩)] w fun e w' => e = .returned (.int .i64 (sumLen xs)) ∧ w = w' := by
  have c1 := h.c1
  clear h
  go_enter Tryz.func81, Tryz.ntmps81
  go_wp2
  go_ret
  exact ⟨rfl, rfl⟩
set_option maxRecDepth 100000 in
set_option maxHeartbeats 4000000 in
theorem lfirst_nil (p o : Nat) (v : Value) (w : World) (h : LstAt w p o v []) : Calls Tryz.prog 89 #[.pointer (some ⟨p, o, none⟩)] w fun e w' => e = .returned (.tuple #[Hel.zero.val, .bool false]) ∧ Gr w w' := by
  obtain ⟨ba, cap, rfl⟩ := h.shape
  have c0 := h.c0
  have HL := Lib.hid (Nat.ne_of_lt h.lt)
  have hlt := h.lt
  clear h
  rw [show ([] : List Hel).length = 0 from rfl] at *
  have HG := Lib.hid ((Gr.refl w).alloc (.cells #[.int .i64 0, .int .i64 0, .int .i64 0, .int .i64 0, .int .i64 0, .int .i64 0] 134))
  go_enter Tryz.func89, Tryz.ntmps89
  go_wp2
  exact bodyPost_ret (v := .tuple #[Hel.zero.val, .bool false]) (by simp [results, Tryz.results89, go_sem, Hel.val, Hel.zero]) rfl ⟨rfl, HG.out⟩
set_option maxRecDepth 100000 in
set_option maxHeartbeats 4000000 in
theorem lfirst_cons (p o : Nat) (v : Value) (x : Hel) (xs : List Hel) (w : World) (h : LstAt w p o v (x :: xs)) : Calls Tryz.prog 89 #[.pointer (some ⟨p, o, none⟩)] w fun e w' => e = .returned (.tuple #[x.val, .bool true]) ∧ Gr w w' := by
  have c0 := h.c0
  have hlt := h.lt
  obtain ⟨ba, cap, rfl, h1, h2, h3⟩ := h.row.any
  obtain ⟨b, off, rfl, h4⟩ := h3.out (by simp)
  have h5 := h4 0 (by simp)
  obtain ⟨d0, d1, d2, d3, d4, d5⟩ := h5
  simp only [Nat.zero_mul, Nat.add_zero, List.getD_cons_zero] at d0 d1 d2 d3 d4 d5
  have hlb := cell_lt d0
  clear h h3 h4
  rw [List.length_cons] at *
  have i0 : (0 : Int) < ((xs.length + 1 : Nat) : Int) := by omega
  have i1 : ¬ ((xs.length + 1 : Nat) : Int) = 0 := by omega
  generalize xs.length + 1 = n at *
  have HG := Lib.hid ((Gr.refl w).alloc (.cells #[.int .i64 x.t, .int .i64 x.len, .int .i64 x.flow, .int .i64 x.band, .int .i64 x.mark, .int .i64 x.n] 134))
  unfold Hel.val
  go_enter Tryz.func89, Tryz.ntmps89
  go_wp2
  exact bodyPost_ret (v := .tuple #[.agg #[.int .i64 x.t, .int .i64 x.len, .int .i64 x.flow, .int .i64 x.band, .int .i64 x.mark, .int .i64 x.n], .bool true]) (by simp [results, Tryz.results89, go_sem]) rfl ⟨rfl, HG.out⟩
set_option maxRecDepth 100000 in
set_option maxHeartbeats 4000000 in
theorem lnext_nil (p o : Nat) (v : Value) (w : World) (h : LstAt w p o v []) : Calls Tryz.prog 88 #[.pointer (some ⟨p, o, none⟩)] w fun e w' => e = .returned (.tuple #[Hel.zero.val, .bool false]) ∧ Gr w w' := by
  have HF := Lib.hid (fun u (k : Gr w u) => lfirst_nil p o v u (h.gr k))
  obtain ⟨w0, hw0⟩ : ∃ w0, w0 = w.alloc (.cells #[.int .i64 0, .int .i64 0, .int .i64 0, .int .i64 0, .int .i64 0, .int .i64 0] 134) := ⟨_, rfl⟩
  have HG0 : Hid (Gr w w0) := Lib.hid (by rw [hw0]; exact (Gr.refl w).alloc _)
  have HR0 : Hid (HelRes w0 w.heap.size .zero) := Lib.hid (by rw [hw0]; exact helRes_new w .zero rfl)
  clear h
  unfold Hel.val Hel.zero at *
  go_enter Tryz.func88, Tryz.ntmps88
  go_wp2_with fail
  rw [← hw0]
  clear hw0
  go_wp2_with (go_at_call 89; (with_reducible refine (HF.out _ HG0.out).mono ?_); rintro e w1 ⟨rfl, hg1⟩; have HG1 := Lib.hid (HG0.out.trans hg1); obtain ⟨⟨r0, r1, r2, r3, r4, r5⟩, s0, s1, s2, s3, s4, s5⟩ := HR0.out.gr hg1; have rl := cell_lt r0; clear hg1)
  obtain ⟨wf, hwf⟩ : ∃ wf, wf = ((((((w1.setCell ⟨w.heap.size, 0, none⟩ (.int .i64 0)).setCell ⟨w.heap.size, 1, none⟩ (.int .i64 0)).setCell ⟨w.heap.size, 2, none⟩ (.int .i64 0)).setCell ⟨w.heap.size, 3, none⟩ (.int .i64 0)).setCell ⟨w.heap.size, 4, none⟩ (.int .i64 0)).setCell ⟨w.heap.size, 5, none⟩ (.int .i64 0)) := ⟨_, rfl⟩
  obtain ⟨⟨⟨q0, q1, q2, q3, q4, q5⟩, _⟩, hsv⟩ := hel_set6 (y := .zero) ⟨⟨r0, r1, r2, r3, r4, r5⟩, s0, s1, s2, s3, s4, s5⟩ .zero
  unfold Hel.zero at q0 q1 q2 q3 q4 q5 hsv
  simp only at q0 q1 q2 q3 q4 q5 hsv
  rw [← hwf] at *
  have ql := cell_lt q0
  exact bodyPost_ret (v := .tuple #[.agg #[.int .i64 0, .int .i64 0, .int .i64 0, .int .i64 0, .int .i64 0, .int .i64 0], .bool false]) (by simp [results, Tryz.results88, go_sem, q0, q1, q2, q3, q4, q5, ql]) rfl ⟨rfl, (Sav.gr HG1.out hsv (fun q e => by rw [e]; exact Nat.le_refl _)).alloc _⟩
set_option maxRecDepth 100000 in
set_option maxHeartbeats 4000000 in
theorem lnext_cons (p o : Nat) (v : Value) (x : Hel) (xs : List Hel) (w : World) (h : LstAt w p o v (x :: xs)) (hb : 0 ≤ sumLen xs ∧ sumLen xs ≤ 1000000000000000) : Calls Tryz.prog 88 #[.pointer (some ⟨p, o, none⟩)] w fun e w' => e = .returned (.tuple #[x.val, .bool true]) ∧ ∃ v', LstAt w' p o v' xs ∧ LSav p o v w w' ∧ v'.ownBlock = v.ownBlock := by
  have HF := Lib.hid (fun u (k : Gr w u) => lfirst_cons p o v x xs u (h.gr k))
  obtain ⟨w0, hw0⟩ : ∃ w0, w0 = w.alloc (.cells #[.int .i64 0, .int .i64 0, .int .i64 0, .int .i64 0, .int .i64 0, .int .i64 0] 134) := ⟨_, rfl⟩
  have HG0 : Hid (Gr w w0) := Lib.hid (by rw [hw0]; exact (Gr.refl w).alloc _)
  have HR0 : Hid (HelRes w0 w.heap.size .zero) := Lib.hid (by rw [hw0]; exact helRes_new w .zero rfl)
  have H := Lib.hid h
  obtain ⟨ba, cap, rfl, h1, h2, h3⟩ := h.row.any
  obtain ⟨b, off, rfl, h4⟩ := h3.out (by simp)
  have hlt := h.lt
  have HSL : Hid (sumLen (x :: xs) = x.len + sumLen xs) := Lib.hid rfl
  have HNE : Hid (b ≠ p) := Lib.hid (fun e => h.ne (by rw [e]; rfl))
  have HBL : Hid (b < w.heap.size) := Lib.hid (h.row.lt rfl)
  clear h h3 h4
  unfold Hel.val at *
  rw [List.length_cons] at *
  have e1 : 1 ≤ cap := by omega
  have i1 : ((xs.length + 1 : Nat) : Int) ≤ (cap : Int) := by omega
  obtain ⟨s, hs⟩ : ∃ s, s = sumLen xs := ⟨_, rfl⟩
  have HSS := Lib.hid hs
  rw [← hs] at hb
  have HWR : Hid (IntKind.i64.wrap (sumLen (x :: xs) - x.len) = s) := Lib.hid (by rw [HSL.out, ← hs, IntKind.wrap_i64]; omega)
  clear hs
  by_cases hc : cap = 1
  · have hxs : xs = [] := List.eq_nil_of_length_eq_zero (by omega)
    have HV : Hid (∀ u, RowH 134 u (.slice (some ⟨b, off, none⟩) (xs.length + 1) cap) (x :: xs) → RowH 134 u (.slice (some ⟨b, off, none⟩) 0 0) xs) := Lib.hid (fun u h => by
      have h := (RowH.tail (x := x) (xs := xs) (by simpa using h)).2
      subst hxs
      rcases h with ⟨h, _⟩ | ⟨g, off', cap', cur, h, k1, k2, k3, k4, k5, k6⟩
      · cases h
      · cases h
        exact ⟨rfl, .inr ⟨b, off, 0, cur, rfl, k1, by simp, by decide, by omega, k5, fun j hj => by simp at hj⟩⟩)
    clear hxs
    subst hc
    go_enter Tryz.func88, Tryz.ntmps88
    go_wp2_with fail
    rw [← hw0]
    clear hw0
    go_wp2_with (go_at_call 89; (with_reducible refine (HF.out _ HG0.out).mono ?_); rintro e w1 ⟨rfl, hg1⟩; have HG1 := Lib.hid (HG0.out.trans hg1); have HR1 := Lib.hid (HR0.out.gr hg1); have H1 := Lib.hid (H.out.gr HG1.out); have d0 := H1.out.c0; have d1 := H1.out.c1; have f0 := H1.out.f0; have f1 := H1.out.f1; have pl := H1.out.lt; clear hg1)
    obtain ⟨w2, hw2⟩ : ∃ w2, w2 = (w1.setCell ⟨p, o, none⟩ (.slice (some ⟨b, off, none⟩) 0 0)).alloc (.cells #[.int .i64 x.t, .int .i64 x.len, .int .i64 x.flow, .int .i64 x.band, .int .i64 x.mark, .int .i64 x.n] 134) := ⟨_, rfl⟩
    have hsv : Sav (fun q => q = p) w1 w2 := by rw [hw2]; exact (Sav.set p o _).then (.of_gr ((Gr.refl _).alloc _))
    have HX2 : Hid (HelAt w2 w1.heap.size 0 x) := Lib.hid (by rw [hw2]; exact held_new _ x (by simp))
    have HR2 : Hid (HelRes w2 w.heap.size .zero) := Lib.hid (HR1.out.sav hsv (fun e => by have e' : w.heap.size = p := e; omega))
    have HROW : Hid (RowH 134 w2 (.slice (some ⟨b, off, none⟩) 0 0) xs) := Lib.hid ((HV.out _ H1.out.row).sav hsv (fun g hg e => by simp [Value.ownBlock] at hg; exact HNE.out (by rw [hg, e])))
    have HLS : Hid (LSav p o (.slice (some ⟨b, off, none⟩) (xs.length + 1) 1) w w2) := Lib.hid ((LSav.of_gr HG1.out hlt).then (by rw [hw2]; exact (LSav.set0 _).then (.of_gr ((Gr.refl _).alloc _) (by simpa using pl))))
    have k0 : w2.cell? ⟨p, o, none⟩ = some (.slice (some ⟨b, off, none⟩) 0 0) := by rw [hw2]; exact ((Gr.refl _).alloc _).cell (cell_ss d0)
    have k1 : w2.cell? ⟨p, o + 1, none⟩ = some (.int .i64 (sumLen (x :: xs))) := by rw [hw2]; exact ((Gr.refl _).alloc _).cell (cell_so d1 (by simp))
    have k2 : w2.frozen? ⟨p, o, none⟩ = false := by rw [hw2, ((Gr.refl _).alloc _).frozen (by simpa using pl)]; simpa using f0
    have k3 : w2.frozen? ⟨p, o + 1, none⟩ = false := by rw [hw2, ((Gr.refl _).alloc _).frozen (by simpa using pl)]; simpa using f1
    have xl : w1.heap.size < w2.heap.size := cell_lt HX2.out.c0
    have wl : w.heap.size ≤ w1.heap.size := HG1.out.size
    rw [← hw2]
    clear hw2 hsv d0 d1 f0 f1
    have HK := Lib.hid (And.intro k0 (And.intro k1 (And.intro k2 k3)))
    obtain ⟨x0, x1, x2, x3, x4, x5⟩ := HX2.out
    obtain ⟨⟨r0, r1, r2, r3, r4, r5⟩, s0, s1, s2, s3, s4, s5⟩ := HR2.out
    have n1 : w1.heap.size ≠ w.heap.size := fun e => by have := cell_lt HR1.out.at_.c0; simp at this; omega
    have n2 : p ≠ w.heap.size := Nat.ne_of_lt hlt
    have n3 : p ≠ w1.heap.size := Nat.ne_of_lt pl
    go_still_tail 10, (by kernel_rfl)
    repeat still_step
    rw [HWR.out]
    go_wp2
    obtain ⟨w3, hw3⟩ : ∃ w3, w3 = w2.setCell ⟨p, o + 1, none⟩ (.int .i64 s) := ⟨_, rfl⟩
    have HL3 : Hid (LstAt w3 p o (.slice (some ⟨b, off, none⟩) 0 0) xs) := Lib.hid (by rw [hw3]; exact lst_set1 HK.out.1 HK.out.2.1 HK.out.2.2.1 HK.out.2.2.2 HROW.out (fun e => by simp [Value.ownBlock] at e; exact HNE.out e) HSS.out)
    have HR3 : Hid (HelRes w3 w.heap.size .zero) := Lib.hid (by rw [hw3]; exact HR2.out.sav (.set p (o + 1) _) (fun e => n2 e.symm))
    have HL4 : Hid (LSav p o (.slice (some ⟨b, off, none⟩) (xs.length + 1) 1) w w3) := Lib.hid (HLS.out.then (by rw [hw3]; exact .set1 _))
    rw [← hw3]
    obtain ⟨hz, hs6⟩ := hel_set6 HR3.out x
    obtain ⟨wf, hwf⟩ : ∃ wf, wf = ((((((w3.setCell ⟨w.heap.size, 0, none⟩ (.int .i64 x.t)).setCell ⟨w.heap.size, 1, none⟩ (.int .i64 x.len)).setCell ⟨w.heap.size, 2, none⟩ (.int .i64 x.flow)).setCell ⟨w.heap.size, 3, none⟩ (.int .i64 x.band)).setCell ⟨w.heap.size, 4, none⟩ (.int .i64 x.mark)).setCell ⟨w.heap.size, 5, none⟩ (.int .i64 x.n)) := ⟨_, rfl⟩
    rw [← hwf] at hz hs6 ⊢
    have HZ := Lib.hid hz
    have HS6 := Lib.hid hs6
    obtain ⟨q0, q1, q2, q3, q4, q5⟩ := hz.at_
    clear hz hs6 hwf hw3
    exact bodyPost_ret (v := .tuple #[.agg #[.int .i64 x.t, .int .i64 x.len, .int .i64 x.flow, .int .i64 x.band, .int .i64 x.mark, .int .i64 x.n], .bool true]) (by simp [results, Tryz.results88, go_sem, q0, q1, q2, q3, q4, q5]) rfl
      ⟨rfl, .slice (some ⟨b, off, none⟩) 0 0, (HL3.out.sav HS6.out n2 (fun g hg e => by simp [Value.ownBlock] at hg; have := HBL.out; omega)).gr (Gr.refl _).drew, (HL4.out.more HS6.out (fun q e => by rw [e]; exact Nat.le_refl _) hlt).then (.of_gr (Gr.refl _).drew (by have := HS6.out.size; have := cell_lt HL3.out.c0; simp at this; omega)), rfl⟩
  · have hc1 : ¬ cap - 1 = 0 := by omega
    have HV : Hid (∀ u, RowH 134 u (.slice (some ⟨b, off, none⟩) (xs.length + 1) cap) (x :: xs) → RowH 134 u (.slice (some ⟨b, off + 6, none⟩) xs.length (cap - 1)) xs) := Lib.hid (fun u h => RowH.tail (x := x) (xs := xs) (by simpa using h))
    go_enter Tryz.func88, Tryz.ntmps88
    go_wp2_with fail
    rw [← hw0]
    clear hw0
    go_wp2_with (go_at_call 89; (with_reducible refine (HF.out _ HG0.out).mono ?_); rintro e w1 ⟨rfl, hg1⟩; have HG1 := Lib.hid (HG0.out.trans hg1); have HR1 := Lib.hid (HR0.out.gr hg1); have H1 := Lib.hid (H.out.gr HG1.out); have d0 := H1.out.c0; have d1 := H1.out.c1; have f0 := H1.out.f0; have f1 := H1.out.f1; have pl := H1.out.lt; clear hg1)
    obtain ⟨w2, hw2⟩ : ∃ w2, w2 = (w1.setCell ⟨p, o, none⟩ (.slice (some ⟨b, off + 6, none⟩) xs.length (cap - 1))).alloc (.cells #[.int .i64 x.t, .int .i64 x.len, .int .i64 x.flow, .int .i64 x.band, .int .i64 x.mark, .int .i64 x.n] 134) := ⟨_, rfl⟩
    have hsv : Sav (fun q => q = p) w1 w2 := by rw [hw2]; exact (Sav.set p o _).then (.of_gr ((Gr.refl _).alloc _))
    have HX2 : Hid (HelAt w2 w1.heap.size 0 x) := Lib.hid (by rw [hw2]; exact held_new _ x (by simp))
    have HR2 : Hid (HelRes w2 w.heap.size .zero) := Lib.hid (HR1.out.sav hsv (fun e => by have e' : w.heap.size = p := e; omega))
    have HROW : Hid (RowH 134 w2 (.slice (some ⟨b, off + 6, none⟩) xs.length (cap - 1)) xs) := Lib.hid ((HV.out _ H1.out.row).sav hsv (fun g hg e => by simp [Value.ownBlock] at hg; exact HNE.out (by rw [hg, e])))
    have HLS : Hid (LSav p o (.slice (some ⟨b, off, none⟩) (xs.length + 1) cap) w w2) := Lib.hid ((LSav.of_gr HG1.out hlt).then (by rw [hw2]; exact (LSav.set0 _).then (.of_gr ((Gr.refl _).alloc _) (by simpa using pl))))
    have k0 : w2.cell? ⟨p, o, none⟩ = some (.slice (some ⟨b, off + 6, none⟩) xs.length (cap - 1)) := by rw [hw2]; exact ((Gr.refl _).alloc _).cell (cell_ss d0)
    have k1 : w2.cell? ⟨p, o + 1, none⟩ = some (.int .i64 (sumLen (x :: xs))) := by rw [hw2]; exact ((Gr.refl _).alloc _).cell (cell_so d1 (by simp))
    have k2 : w2.frozen? ⟨p, o, none⟩ = false := by rw [hw2, ((Gr.refl _).alloc _).frozen (by simpa using pl)]; simpa using f0
    have k3 : w2.frozen? ⟨p, o + 1, none⟩ = false := by rw [hw2, ((Gr.refl _).alloc _).frozen (by simpa using pl)]; simpa using f1
    have xl : w1.heap.size < w2.heap.size := cell_lt HX2.out.c0
    have wl : w.heap.size ≤ w1.heap.size := HG1.out.size
    rw [← hw2]
    clear hw2 hsv d0 d1 f0 f1
    have HK := Lib.hid (And.intro k0 (And.intro k1 (And.intro k2 k3)))
    obtain ⟨x0, x1, x2, x3, x4, x5⟩ := HX2.out
    obtain ⟨⟨r0, r1, r2, r3, r4, r5⟩, s0, s1, s2, s3, s4, s5⟩ := HR2.out
    have n1 : w1.heap.size ≠ w.heap.size := fun e => by have := cell_lt HR1.out.at_.c0; simp at this; omega
    have n2 : p ≠ w.heap.size := Nat.ne_of_lt hlt
    have n3 : p ≠ w1.heap.size := Nat.ne_of_lt pl
    go_still_tail 10, (by kernel_rfl)
    repeat still_step
    rw [HWR.out]
    go_wp2
    obtain ⟨w3, hw3⟩ : ∃ w3, w3 = w2.setCell ⟨p, o + 1, none⟩ (.int .i64 s) := ⟨_, rfl⟩
    have HL3 : Hid (LstAt w3 p o (.slice (some ⟨b, off + 6, none⟩) xs.length (cap - 1)) xs) := Lib.hid (by rw [hw3]; exact lst_set1 HK.out.1 HK.out.2.1 HK.out.2.2.1 HK.out.2.2.2 HROW.out (fun e => by simp [Value.ownBlock] at e; exact HNE.out e) HSS.out)
    have HR3 : Hid (HelRes w3 w.heap.size .zero) := Lib.hid (by rw [hw3]; exact HR2.out.sav (.set p (o + 1) _) (fun e => n2 e.symm))
    have HL4 : Hid (LSav p o (.slice (some ⟨b, off, none⟩) (xs.length + 1) cap) w w3) := Lib.hid (HLS.out.then (by rw [hw3]; exact .set1 _))
    rw [← hw3]
    obtain ⟨hz, hs6⟩ := hel_set6 HR3.out x
    obtain ⟨wf, hwf⟩ : ∃ wf, wf = ((((((w3.setCell ⟨w.heap.size, 0, none⟩ (.int .i64 x.t)).setCell ⟨w.heap.size, 1, none⟩ (.int .i64 x.len)).setCell ⟨w.heap.size, 2, none⟩ (.int .i64 x.flow)).setCell ⟨w.heap.size, 3, none⟩ (.int .i64 x.band)).setCell ⟨w.heap.size, 4, none⟩ (.int .i64 x.mark)).setCell ⟨w.heap.size, 5, none⟩ (.int .i64 x.n)) := ⟨_, rfl⟩
    rw [← hwf] at hz hs6 ⊢
    have HZ := Lib.hid hz
    have HS6 := Lib.hid hs6
    obtain ⟨q0, q1, q2, q3, q4, q5⟩ := hz.at_
    clear hz hs6 hwf hw3
    exact bodyPost_ret (v := .tuple #[.agg #[.int .i64 x.t, .int .i64 x.len, .int .i64 x.flow, .int .i64 x.band, .int .i64 x.mark, .int .i64 x.n], .bool true]) (by simp [results, Tryz.results88, go_sem, q0, q1, q2, q3, q4, q5]) rfl
      ⟨rfl, .slice (some ⟨b, off + 6, none⟩) xs.length (cap - 1), (HL3.out.sav HS6.out n2 (fun g hg e => by simp [Value.ownBlock] at hg; have := HBL.out; omega)).gr (Gr.refl _).drew, (HL4.out.more HS6.out (fun q e => by rw [e]; exact Nat.le_refl _) hlt).then (.of_gr (Gr.refl _).drew (by have := HS6.out.size; have := cell_lt HL3.out.c0; simp at this; omega)), rfl⟩
end Go.Proofs.YtgifghbnpdanhaaGreatDoor

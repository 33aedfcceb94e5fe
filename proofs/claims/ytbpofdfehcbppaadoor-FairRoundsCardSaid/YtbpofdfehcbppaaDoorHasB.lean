/-
  The program's Hashed: its cells, Where, Bytes. (Printed by genhas.py.)
-/
import Derived.Test.YtbpofdfehcbppaaDoorHasA
import Derived.Test.YtbpofdfehcbppaaDoorFifoB
import Derived.Test.YtbpofdfehcbppaaDoorBoxd
import Derived.Test.YtbpofdfehcbppaaDoorRegG
import Derived.Test.YtbpofdfehcbppaaDoorRedA
import Derived.BigQuiet
import Derived.BigRegion
import Derived.Deep.RegionWith
import Derived.Deep.DeepCutAuto
import Derived.Deep.CutBlock
import Derived.Deep.LoopGhost
namespace Go.Proofs.YtbpofdfehcbppaaDoor
open Go.RowKit Go.Extern.Stop Go.Stop Go.Extern

section
variable {ev : Operand → Value} {o : Oper} {w : World} {x y z : Operand} {u : Value}
theorem hsw_mul {m n r : Int} (ho : o.op = .binOp .mul 3 x y 3) (h : ev x = .int .i64 m) (k : ev y = .int .i64 n) (hb : IntKind.i64.wrap (m * n) = r) : (execOp ev o).run Tryd.prog w = .ok (.value (.int .i64 r)) w := by
  subst hb
  simp [execOp, ho, h, k, go_sem]
theorem hsw_fa_fair_Hashed_1 {p o' : Nat} (ho : o.op = .fieldAddr 134 x 1) (h : ev x = .pointer (some ⟨p, o', none⟩)) : (execOp ev o).run Tryd.prog w = .ok (.value (.pointer (some ⟨p, o' + 1, none⟩))) w := by
  simp [execOp, ho, h, go_sem]
theorem hsw_add {m n r : Int} (ho : o.op = .binOp .add 3 x y 3) (h : ev x = .int .i64 m) (k : ev y = .int .i64 n) (hb : IntKind.i64.wrap (m + n) = r) : (execOp ev o).run Tryd.prog w = .ok (.value (.int .i64 r)) w := by
  subst hb
  simp [execOp, ho, h, k, go_sem]
theorem hsw_fa_fair_Hashed_0 {p o' : Nat} (ho : o.op = .fieldAddr 134 x 0) (h : ev x = .pointer (some ⟨p, o', none⟩)) : (execOp ev o).run Tryd.prog w = .ok (.value (.pointer (some ⟨p, o', none⟩))) w := by
  simp [execOp, ho, h, go_sem]
theorem hsw_loadS___queue_List {ad : Addr} {a : Option Addr} {n c : Nat} (ho : o.op = .load 132 x) (h : ev x = .pointer (some ad)) (hc : w.cell? ad = some (.slice a n c)) : (execOp ev o).run Tryd.prog w = .ok (.value (.slice a n c)) w := by
  simp [execOp, ho, h, hc, go_sem]
theorem hsw_len___queue_List {a : Option Addr} {n c : Nat} (ho : o.op = .call { callee := .builtin .len, args := #[x], argTypes := #[132] }) (h : ev x = .slice a n c) : (execOp ev o).run Tryd.prog w = .ok (.value (.int .i64 (n : Int))) w := by
  simp [execOp, ho, h, resolve, invoke, builtin, Builtin.len_, go_sem]
theorem hsw_rem {m n r : Int} (ho : o.op = .binOp .rem 3 x y 3) (h : ev x = .int .i64 m) (k : ev y = .int .i64 n) (hn : n ≠ 0) (hb : m.tmod n = r) : (execOp ev o).run Tryd.prog w = .ok (.value (.int .i64 r)) w := by
  subst hb
  simp [execOp, ho, h, k, hn, go_sem]
end

def fu {β : Type} (f : Nat → β) (k : Nat) (x : β) : Nat → β := fun j => if j = k then x else f j
theorem fu_at {β : Type} (f : Nat → β) (k : Nat) (x : β) : fu f k x k = x := by simp [fu]
theorem fu_ne {β : Type} (f : Nat → β) {k j : Nat} (x : β) (h : j ≠ k) : fu f k x j = f j := by simp [fu, h]
def sumTo (f : Nat → Int) : Nat → Int
  | 0 => 0
  | n + 1 => sumTo f n + f n
theorem sumTo_congr {f g : Nat → Int} : ∀ n, (∀ k, k < n → f k = g k) → sumTo f n = sumTo g n := by
  intro n
  induction n with
  | zero => intro _; rfl
  | succ n ih => intro h; rw [sumTo, sumTo, ih (fun k hk => h k (by omega)), h n (by omega)]
theorem sumTo_add {f g : Nat → Int} : ∀ n, sumTo (fun k => f k + g k) n = sumTo f n + sumTo g n := by
  intro n
  induction n with
  | zero => rfl
  | succ n ih => rw [sumTo, sumTo, sumTo, ih]; omega
theorem sumTo_one (j : Nat) (x : Int) : ∀ n, sumTo (fun k => if j = k then x else 0) n = if j < n then x else 0 := by
  intro n
  induction n with
  | zero => rfl
  | succ n ih =>
    rw [sumTo, ih]
    by_cases h : j = n
    · subst h; simp
    · by_cases h2 : j < n
      · rw [if_pos h2, if_neg h, if_pos (by omega)]; omega
      · rw [if_neg h2, if_neg h, if_neg (by omega)]; omega
theorem sumTo_zero : ∀ n, sumTo (fun _ => 0) n = 0 := by
  intro n
  induction n with
  | zero => rfl
  | succ n ih => rw [sumTo, ih]; rfl
theorem sumLen_parts {q : HasP} (hq : q.Ok) (l : List Hel) : sumTo (fun k => sumLen (ofK q l k)) q.lists = sumLen l := by
  induction l with
  | nil => exact sumTo_zero _
  | cons x r ih =>
    have h : ∀ k, sumLen (ofK q (x :: r) k) = (if hashOf q x.flow = k then x.len else 0) + sumLen (ofK q r k) := fun k => by
      have e : ofK q (x :: r) k = ofK q [x] k ++ ofK q r k := ofK_app q [x] r k
      rw [e, sumLen_app, ofK_one]
      split <;> simp [sumLen]
    rw [sumTo_congr _ (fun k _ => h k), sumTo_add, sumTo_one, if_pos (hashOf_lt hq _), ih]
    rfl
/-- A Hashed of the program's at p: its lists, whose turn it is, how many. -/
structure HasC (w : World) (p ob : Nat) (q : HasP) (tv : Value) (vs : Nat → Value) (ls : Nat → List Hel) (turn : List Int) (many : Int) : Prop where
  c0 : w.cell? ⟨p, 0, none⟩ = some (.slice (some ⟨ob, 0, none⟩) q.lists q.lists)
  c1 : w.cell? ⟨p, 1, none⟩ = some (.int .i64 q.salt)
  c2 : w.cell? ⟨p, 2, none⟩ = some (.int .i64 q.room)
  c3 : w.cell? ⟨p, 3, none⟩ = some tv
  f3 : w.frozen? ⟨p, 3, none⟩ = false
  c4 : w.cell? ⟨p, 4, none⟩ = some (.int .i64 many)
  f4 : w.frozen? ⟨p, 4, none⟩ = false
  turn : IntRow w tv turn
  tap : ∀ g, tv.ownBlock = some g → g ≠ p ∧ g ≠ ob ∧ ∀ k, k < q.lists → (vs k).ownBlock ≠ some g
  lst : ∀ k, k < q.lists → LstAt w ob (k * 2) (vs k) (ls k)
  vap : ∀ i j g, i < q.lists → j < q.lists → i ≠ j → (vs i).ownBlock = some g → (vs j).ownBlock ≠ some g
  vpp : ∀ k, k < q.lists → (vs k).ownBlock ≠ some p
  pob : p ≠ ob
  pos : 0 < q.lists
/-- What it may write. -/
def HFoot (p ob : Nat) (q : HasP) (tv : Value) (vs : Nat → Value) (g : Nat) : Prop := g = p ∨ g = ob ∨ tv.ownBlock = some g ∨ ∃ k, k < q.lists ∧ (vs k).ownBlock = some g
theorem LstAt.notInts {w : World} {p o : Nat} {v : Value} {xs : List Hel} (h : LstAt w p o v xs) {tv : Value} {ys : List Int} (ht : IntRow w tv ys) : tv.ownBlock ≠ some p := by
  obtain ⟨a, c, e⟩ := h.shape
  have h0 := h.c0
  rw [e] at h0
  exact Row.ne ht h0 notInt_slice
section
variable {w w' : World} {p ob : Nat} {q : HasP} {tv tv' : Value} {vs : Nat → Value} {ls : Nat → List Hel} {turn turn' : List Int} {many many' : Int} {k : Nat} {v' : Value} {xs' : List Hel}
theorem HasC.lt (h : HasC w p ob q tv vs ls turn many) : p < w.heap.size ∧ ob < w.heap.size := ⟨cell_lt h.c0, (h.lst 0 h.pos).lt⟩
theorem HasC.flt (h : HasC w p ob q tv vs ls turn many) {g : Nat} (hg : HFoot p ob q tv vs g) : g < w.heap.size := by
  rcases hg with e | e | e | ⟨k, hk, e⟩
  · rw [e]; exact h.lt.1
  · rw [e]; exact h.lt.2
  · exact Row.lt h.turn e
  · exact (h.lst k hk).row.lt e
theorem HasC.sav {B : Nat → Prop} (h : HasC w p ob q tv vs ls turn many) (s : Sav B w w') (hB : ∀ g, B g → ¬ HFoot p ob q tv vs g) : HasC w' p ob q tv vs ls turn many :=
  have hp : ¬ B p := fun e => hB _ e (.inl rfl)
  have ho : ¬ B ob := fun e => hB _ e (.inr (.inl rfl))
  ⟨s.cell h.c0 hp, s.cell h.c1 hp, s.cell h.c2 hp, s.cell h.c3 hp, s.frozen (p := ⟨p, 3, none⟩) h.lt.1 h.f3 hp, s.cell h.c4 hp, s.frozen (p := ⟨p, 4, none⟩) h.lt.1 h.f4 hp, Row.sav h.turn s (fun _ hg e => hB _ e (.inr (.inr (.inl hg)))), h.tap, fun k hk => (h.lst k hk).sav s ho (fun _ hg e => hB _ e (.inr (.inr (.inr ⟨k, hk, hg⟩)))), h.vap, h.vpp, h.pob, h.pos⟩
theorem HasC.gr (h : HasC w p ob q tv vs ls turn many) (g : Gr w w') : HasC w' p ob q tv vs ls turn many := h.sav (B := fun _ => False) (.of_gr g) (fun _ e => e.elim)
theorem HasC.set_many (h : HasC w p ob q tv vs ls turn many) (m : Int) : HasC (w.setCell ⟨p, 4, none⟩ (.int .i64 m)) p ob q tv vs ls turn m :=
  have s : Sav (fun g => g = p) w (w.setCell ⟨p, 4, none⟩ (.int .i64 m)) := .set p 4 _
  ⟨cell_so h.c0 (by simp), cell_so h.c1 (by simp), cell_so h.c2 (by simp), cell_so h.c3 (by simp), by simpa using h.f3, cell_ss h.c4, by simpa using h.f4, Row.sav h.turn s (fun g hg e => (h.tap g hg).1 e), h.tap, fun k hk => (h.lst k hk).sav s (fun e => h.pob e.symm) (fun g hg e => h.vpp k hk (by rw [← e]; exact hg)), h.vap, h.vpp, h.pob, h.pos⟩
/-- The turns are another row, at any world that kept all else but the old row. -/
theorem HasC.set_turn (h : HasC w p ob q tv vs ls turn many) (s : Sav (fun g => tv.ownBlock = some g) w w') (ht : IntRow w' tv' turn') (ho : ∀ g, tv'.ownBlock = some g → tv.ownBlock = some g ∨ w.heap.size ≤ g) : HasC (w'.setCell ⟨p, 3, none⟩ tv') p ob q tv' vs ls turn' many := by
  have hp : ¬ tv.ownBlock = some p := fun e => (h.tap p e).1 rfl
  have hob : ¬ tv.ownBlock = some ob := fun e => (h.tap ob e).2.1 rfl
  have s2 : Sav (fun g => g = p) w' (w'.setCell ⟨p, 3, none⟩ tv') := .set p 3 _
  have hlt := h.lt
  have hnew : ∀ g, tv'.ownBlock = some g → g ≠ p ∧ g ≠ ob ∧ ∀ k, k < q.lists → (vs k).ownBlock ≠ some g := fun g hg => (ho g hg).elim (h.tap g) (fun e => ⟨by omega, by omega, fun k hk e2 => by have := (h.lst k hk).row.lt e2; omega⟩)
  have d3 := s.cell h.c3 hp
  exact ⟨cell_so (s.cell h.c0 hp) (by simp), cell_so (s.cell h.c1 hp) (by simp), cell_so (s.cell h.c2 hp) (by simp), cell_ss d3, by simpa using s.frozen (p := ⟨p, 3, none⟩) hlt.1 h.f3 hp, cell_so (s.cell h.c4 hp) (by simp), by simpa using s.frozen (p := ⟨p, 4, none⟩) hlt.1 h.f4 hp, Row.sav ht s2 (fun g hg e => (hnew g hg).1 e), hnew, fun k hk => ((h.lst k hk).sav s hob (fun g hg e => (h.tap g e).2.2 k hk hg)).sav s2 (fun e => h.pob e.symm) (fun g hg e => h.vpp k hk (by rw [← e]; exact hg)), h.vap, h.vpp, h.pob, h.pos⟩
/-- One of the lists was moved. -/
theorem HasC.list (h : HasC w p ob q tv vs ls turn many) (hk : k < q.lists) (d : LstAt w' ob (k * 2) v' xs') (s : LSav ob (k * 2) (vs k) w w') (ho : ∀ g, v'.ownBlock = some g → (vs k).ownBlock = some g ∨ w.heap.size ≤ g) : HasC w' p ob q tv (fu vs k v') (fu ls k xs') turn many := by
  have hp : ¬ LFoot ob (vs k) p := fun e => e.elim h.pob (h.vpp k hk)
  have hlt := h.lt
  refine ⟨s.sav.cell h.c0 hp, s.sav.cell h.c1 hp, s.sav.cell h.c2 hp, s.sav.cell h.c3 hp, s.sav.frozen (p := ⟨p, 3, none⟩) hlt.1 h.f3 hp, s.sav.cell h.c4 hp, s.sav.frozen (p := ⟨p, 4, none⟩) hlt.1 h.f4 hp, Row.sav h.turn s.sav (fun g hg e => e.elim (h.tap g hg).2.1 ((h.tap g hg).2.2 k hk)), fun g hg => ⟨(h.tap g hg).1, (h.tap g hg).2.1, fun j hj => ?_⟩, fun j hj => ?_, fun i j g hi hj hij hg => ?_, fun j hj => ?_, h.pob, h.pos⟩
  · by_cases e : j = k
    · subst e
      rw [fu_at]
      exact fun e2 => (ho g e2).elim ((h.tap g hg).2.2 j hk) (fun e3 => by have := Row.lt h.turn hg; omega)
    · rw [fu_ne _ _ e]; exact (h.tap g hg).2.2 j hj
  · by_cases e : j = k
    · subst e
      rw [fu_at, fu_at]; exact d
    · rw [fu_ne _ _ e, fu_ne _ _ e]
      have hl := h.lst j hj
      exact ⟨(s.cell (j * 2) (by omega) (by omega)).trans hl.c0, (s.cell (j * 2 + 1) (by omega) (by omega)).trans hl.c1, (s.frozen (j * 2)).trans hl.f0, (s.frozen (j * 2 + 1)).trans hl.f1, hl.row.sav s.sav (fun g hg e2 => e2.elim (fun e3 => hl.ne (by rw [hg, e3])) (fun e3 => h.vap j k g hj hk e hg e3))⟩
  · by_cases e1 : i = k
    · subst e1
      rw [fu_at] at hg
      rw [fu_ne _ _ (fun e => hij e.symm)]
      exact (ho g hg).elim (h.vap i j g hk hj hij) (fun e e2 => by have := (h.lst j hj).row.lt e2; omega)
    · rw [fu_ne _ _ e1] at hg
      by_cases e2 : j = k
      · subst e2
        rw [fu_at]
        exact fun e3 => (ho g e3).elim (h.vap i j g hi hk hij hg) (fun e4 => by have := (h.lst i hi).row.lt hg; omega)
      · rw [fu_ne _ _ e2]; exact h.vap i j g hi hj hij hg
  · by_cases e : j = k
    · subst e
      rw [fu_at]
      exact fun e2 => (ho p e2).elim (h.vpp j hk) (fun e3 => by omega)
    · rw [fu_ne _ _ e]; exact h.vpp j hj
theorem HasC.congr {ls' : Nat → List Hel} (h : HasC w p ob q tv vs ls turn many) (e : ∀ k, k < q.lists → ls k = ls' k) : HasC w p ob q tv vs ls' turn many :=
  ⟨h.c0, h.c1, h.c2, h.c3, h.f3, h.c4, h.f4, h.turn, h.tap, fun k hk => by rw [← e k hk]; exact h.lst k hk, h.vap, h.vpp, h.pob, h.pos⟩
end
set_option maxRecDepth 100000 in
theorem where_any (p ob : Nat) (q : HasP) (hq : q.Ok) (flow : Int) (hf : 0 ≤ flow ∧ flow ≤ 15) (w : World) (h0 : w.cell? ⟨p, 0, none⟩ = some (.slice (some ⟨ob, 0, none⟩) q.lists q.lists)) (h1 : w.cell? ⟨p, 1, none⟩ = some (.int .i64 q.salt)) :
    Calls Tryd.prog 27 #[.pointer (some ⟨p, 0, none⟩), .int .i64 flow] w fun e w' => e = .returned (.int .i64 (hashOf q flow : Int)) ∧ Gr w w' := by
  have H0 := Lib.hid h0
  have H1 := Lib.hid h1
  have hs := hq.salt
  have hl := hq.lists
  have hp0 : 0 ≤ flow * q.salt := Int.mul_nonneg hf.1 hs.1
  have hp1 : flow * q.salt ≤ 15 * 1000000 := Int.mul_le_mul hf.2 hs.2 hs.1 (by omega)
  have D1 := Lib.hid (show IntKind.i64.wrap (flow * 31) = 31 * flow from by rw [IntKind.wrap_i64]; omega)
  have D2 := Lib.hid (show IntKind.i64.wrap (q.salt * 7) = 7 * q.salt from by rw [IntKind.wrap_i64]; omega)
  have D3 := Lib.hid (show IntKind.i64.wrap (31 * flow + 7 * q.salt) = 31 * flow + 7 * q.salt from by rw [IntKind.wrap_i64]; omega)
  have D4 := Lib.hid (show IntKind.i64.wrap (flow * q.salt) = flow * q.salt from by rw [IntKind.wrap_i64]; omega)
  have D5 := Lib.hid (show IntKind.i64.wrap (31 * flow + 7 * q.salt + flow * q.salt) = 31 * flow + 7 * q.salt + flow * q.salt from by rw [IntKind.wrap_i64]; omega)
  have D6 := Lib.hid (show (31 * flow + 7 * q.salt + flow * q.salt).tmod (q.lists : Int) = (hashOf q flow : Int) from by
    rw [hashOf_cast hq, Int.tmod_eq_emod_of_nonneg (by omega)]
    rfl)
  have HNZ := Lib.hid (show (q.lists : Int) ≠ 0 from by omega)
  clear h0 h1 hs hl hp0 hp1 hf
  go_enter Tryd.func27, Tryd.ntmps27
  go_upto_region 1 with fail
  refine wp_region_gg (n := 21) [Fg.eq (.int .i64 flow), Fg.eq (.int .i64 (31 * flow)), Fg.eq (.pointer (some ⟨p, 0, none⟩)), Fg.eq (.pointer (some ⟨p, 0, none⟩)), Fg.eq (.pointer (some ⟨p, 1, none⟩)), Fg.eq (.int .i64 q.salt), Fg.eq (.int .i64 (7 * q.salt)), Fg.eq (.int .i64 (31 * flow + 7 * q.salt)), Fg.eq (.int .i64 flow), Fg.eq (.pointer (some ⟨p, 0, none⟩)), Fg.eq (.pointer (some ⟨p, 0, none⟩)), Fg.eq (.pointer (some ⟨p, 1, none⟩)), Fg.eq (.int .i64 q.salt), Fg.eq (.int .i64 (flow * q.salt)), Fg.eq (.int .i64 (31 * flow + 7 * q.salt + flow * q.salt)), Fg.eq (.pointer (some ⟨p, 0, none⟩)), Fg.eq (.pointer (some ⟨p, 0, none⟩)), Fg.eq (.pointer (some ⟨p, 0, none⟩)), Fg.eq (.slice (some ⟨ob, 0, none⟩) q.lists q.lists), Fg.eq (.int .i64 (q.lists : Int)), Fg.eq (.int .i64 ((hashOf q flow : Int)))] [5, 6, 7, 8, 9, 10, 11, 12, 13, 14, 15, 16, 17, 18, 19, 20, 21, 22, 23, 24, 25] (by kernel_rfl) (by kernel_rfl) (by kernel_rfl) ?_ ?_
  · intro L i o' ac w1 hi ho hA
    have hgr : Gr w w1 := (Gr.refl w).drew.trans hA.gr
    match i, hi with
    | 0, _ =>
      obtain rfl := Option.some.inj ho
      exact gg_plain rfl (gstep_val (q_move rfl (show ac.eval (.tmp 1) = .int .i64 flow from hA.other 1 (by decide))) rfl)
    | 1, _ =>
      obtain rfl := Option.some.inj ho
      exact gg_plain rfl (gstep_val (hsw_mul rfl (hA.fact 0 (hA.dep 0 (by kernel_rfl) (by decide))) rfl (D1.out)) rfl)
    | 2, _ =>
      obtain rfl := Option.some.inj ho
      exact gg_plain rfl (gstep_val (q_move rfl (show ac.eval (.tmp 0) = .pointer (some ⟨p, 0, none⟩) from hA.other 0 (by decide))) rfl)
    | 3, _ =>
      obtain rfl := Option.some.inj ho
      exact gg_plain rfl (gstep_val (q_nil rfl (hA.fact 2 (hA.dep 2 (by kernel_rfl) (by decide)))) rfl)
    | 4, _ =>
      obtain rfl := Option.some.inj ho
      exact gg_plain rfl (gstep_val (hsw_fa_fair_Hashed_1 rfl (hA.fact 3 (hA.dep 3 (by kernel_rfl) (by decide)))) rfl)
    | 5, _ =>
      obtain rfl := Option.some.inj ho
      exact gg_plain rfl (gstep_val (q_loadI rfl (hA.fact 4 (hA.dep 4 (by kernel_rfl) (by decide))) (hgr.cell H1.out)) rfl)
    | 6, _ =>
      obtain rfl := Option.some.inj ho
      exact gg_plain rfl (gstep_val (hsw_mul rfl (hA.fact 5 (hA.dep 5 (by kernel_rfl) (by decide))) rfl (D2.out)) rfl)
    | 7, _ =>
      obtain rfl := Option.some.inj ho
      exact gg_plain rfl (gstep_val (hsw_add rfl (hA.fact 1 (hA.dep 1 (by kernel_rfl) (by decide))) (hA.fact 6 (hA.dep 6 (by kernel_rfl) (by decide))) (D3.out)) rfl)
    | 8, _ =>
      obtain rfl := Option.some.inj ho
      exact gg_plain rfl (gstep_val (q_move rfl (show ac.eval (.tmp 1) = .int .i64 flow from hA.other 1 (by decide))) rfl)
    | 9, _ =>
      obtain rfl := Option.some.inj ho
      exact gg_plain rfl (gstep_val (q_move rfl (show ac.eval (.tmp 0) = .pointer (some ⟨p, 0, none⟩) from hA.other 0 (by decide))) rfl)
    | 10, _ =>
      obtain rfl := Option.some.inj ho
      exact gg_plain rfl (gstep_val (q_nil rfl (hA.fact 9 (hA.dep 9 (by kernel_rfl) (by decide)))) rfl)
    | 11, _ =>
      obtain rfl := Option.some.inj ho
      exact gg_plain rfl (gstep_val (hsw_fa_fair_Hashed_1 rfl (hA.fact 10 (hA.dep 10 (by kernel_rfl) (by decide)))) rfl)
    | 12, _ =>
      obtain rfl := Option.some.inj ho
      exact gg_plain rfl (gstep_val (q_loadI rfl (hA.fact 11 (hA.dep 11 (by kernel_rfl) (by decide))) (hgr.cell H1.out)) rfl)
    | 13, _ =>
      obtain rfl := Option.some.inj ho
      exact gg_plain rfl (gstep_val (hsw_mul rfl (hA.fact 8 (hA.dep 8 (by kernel_rfl) (by decide))) (hA.fact 12 (hA.dep 12 (by kernel_rfl) (by decide))) (D4.out)) rfl)
    | 14, _ =>
      obtain rfl := Option.some.inj ho
      exact gg_plain rfl (gstep_val (hsw_add rfl (hA.fact 7 (hA.dep 7 (by kernel_rfl) (by decide))) (hA.fact 13 (hA.dep 13 (by kernel_rfl) (by decide))) (D5.out)) rfl)
    | 15, _ =>
      obtain rfl := Option.some.inj ho
      exact gg_plain rfl (gstep_val (q_move rfl (show ac.eval (.tmp 0) = .pointer (some ⟨p, 0, none⟩) from hA.other 0 (by decide))) rfl)
    | 16, _ =>
      obtain rfl := Option.some.inj ho
      exact gg_plain rfl (gstep_val (q_nil rfl (hA.fact 15 (hA.dep 15 (by kernel_rfl) (by decide)))) rfl)
    | 17, _ =>
      obtain rfl := Option.some.inj ho
      exact gg_plain rfl (gstep_val (hsw_fa_fair_Hashed_0 rfl (hA.fact 16 (hA.dep 16 (by kernel_rfl) (by decide)))) rfl)
    | 18, _ =>
      obtain rfl := Option.some.inj ho
      exact gg_plain rfl (gstep_val (hsw_loadS___queue_List rfl (hA.fact 17 (hA.dep 17 (by kernel_rfl) (by decide))) (hgr.cell H0.out)) rfl)
    | 19, _ =>
      obtain rfl := Option.some.inj ho
      exact gg_plain rfl (gstep_val (hsw_len___queue_List rfl (hA.fact 18 (hA.dep 18 (by kernel_rfl) (by decide)))) rfl)
    | 20, _ =>
      obtain rfl := Option.some.inj ho
      exact gg_plain rfl (gstep_val (hsw_rem rfl (hA.fact 14 (hA.dep 14 (by kernel_rfl) (by decide))) (hA.fact 19 (hA.dep 19 (by kernel_rfl) (by decide))) (HNZ.out) (D6.out)) rfl)
    | k + 21, hk => exact absurd (show k + 21 < 21 from hk) (by omega)
  · intro vs w5 hg5 hv
    have HGX := Lib.hid ((Gr.refl w).drew.trans hg5)
    have v25 : vs 20 = .int .i64 ((hashOf q flow : Int)) := hv 20 (by omega)
    clear hv hg5
    simp only [putN, List.drop_succ_cons, List.drop_zero, List.getElem?_cons_succ, List.getElem?_cons_zero]
    generalize vs 20 = z25 at *
    subst v25
    generalize vs 0 = z5 at *
    generalize vs 1 = z6 at *
    generalize vs 2 = z7 at *
    generalize vs 3 = z8 at *
    generalize vs 4 = z9 at *
    generalize vs 5 = z10 at *
    generalize vs 6 = z11 at *
    generalize vs 7 = z12 at *
    generalize vs 8 = z13 at *
    generalize vs 9 = z14 at *
    generalize vs 10 = z15 at *
    generalize vs 11 = z16 at *
    generalize vs 12 = z17 at *
    generalize vs 13 = z18 at *
    generalize vs 14 = z19 at *
    generalize vs 15 = z20 at *
    generalize vs 16 = z21 at *
    generalize vs 17 = z22 at *
    generalize vs 18 = z23 at *
    generalize vs 19 = z24 at *
    go_wp2
    go_ret
    exact ⟨rfl, HGX.out⟩
set_option maxRecDepth 100000 in
theorem hlen_any (p : Nat) (m : Int) (w : World) (h : w.cell? ⟨p, 4, none⟩ = some (.int .i64 m)) : Calls Tryd.prog 117 #[.pointer (some ⟨p, 0, none⟩)] w fun e w' => e = .returned (.int .i64 m) ∧ Gr w w' := by
  go_enter Tryd.func117, Tryd.ntmps117
  go_wp2
  go_ret
  exact ⟨rfl, Gr.refl _⟩
set_option maxRecDepth 100000 in
theorem hwhen_any (p : Nat) (m now : Int) (w : World) (h : w.cell? ⟨p, 4, none⟩ = some (.int .i64 m)) : Calls Tryd.prog 120 #[.pointer (some ⟨p, 0, none⟩), .int .i64 now] w fun e w' => e = .returned (.tuple #[.int .i64 now, .bool (decide (0 < m))]) ∧ Gr w w' := by
  go_enter Tryd.func120, Tryd.ntmps120
  go_upto_region 1 with fail
  go_quiet (fail)
  go_wp2
  all_goals
    exact bodyPost_ret (v := .tuple #[.int .i64 now, .bool (decide (0 < m))]) (by simp [results, Tryd.results120, go_sem]) rfl ⟨rfl, (Gr.refl _).drewN _⟩
set_option maxRecDepth 100000 in
set_option maxHeartbeats 4000000 in
theorem hbytes_any (p ob : Nat) (q : HasP) (hq : q.Ok) (tv : Value) (vs : Nat → Value) (ls : Nat → List Hel) (turn : List Int) (many : Int) (w : World) (h : HasC w p ob q tv vs ls turn many) (hb : ∀ k, k < q.lists → 0 ≤ sumLen (ls k) ∧ sumLen (ls k) ≤ 2000000) :
    Calls Tryd.prog 116 #[.pointer (some ⟨p, 0, none⟩)] w fun e w' => e = .returned (.int .i64 (sumTo (fun k => sumLen (ls k)) q.lists)) ∧ Gr w w' := by
  have HB := Lib.hid hb
  have HC := Lib.hid h
  have HQL := Lib.hid hq.lists
  have c0 := h.c0
  clear h hb
  go_enter Tryd.func116, Tryd.ntmps116
  go_wp2
  clear c0
  go_loopw [3, 10] (fun s3 s10 wr => ∃ (k : Nat), k ≤ q.lists ∧ s10 = .int .i64 (k : Int) ∧ s3 = .int .i64 (sumTo (fun k => sumLen (ls k)) k) ∧ (0 ≤ sumTo (fun k => sumLen (ls k)) k ∧ sumTo (fun k => sumLen (ls k)) k ≤ 2000000 * (k : Int)) ∧ Hid (Gr w wr)) (fun _ s _ => q.lists - (intOf s).toNat)
  case atStart => exact ⟨0, Nat.zero_le _, rfl, rfl, ⟨Int.le_refl _, by simp [sumTo]⟩, Gr.refl _⟩
  case round =>
    obtain ⟨k, hk, rfl, rfl, hsb, HG⟩ := hrel
    by_cases hlt : k < q.lists
    · have i0 : (0 : Int) ≤ (k : Int) := by omega
      have i1 : (k : Int) < (q.lists : Int) := by omega
      have HCR := Lib.hid (HC.out.gr HG.out)
      have c0 := HCR.out.c0
      have HBK := Lib.hid (HB.out k hlt)
      have HSB := Lib.hid hsb
      have HSE := Lib.hid (show sumTo (fun k => sumLen (ls k)) (k + 1) = sumTo (fun k => sumLen (ls k)) k + sumLen (ls k) from rfl)
      clear hsb
      generalize sumTo (fun k => sumLen (ls k)) k = s at *
      have HWK := Lib.hid (show wrap64 ((k : Int) + 1) = (k : Int) + 1 from by have h3 := HQL.out; unfold wrap64; omega)
      have HWR := Lib.hid (show wrap64 (s + sumLen (ls k)) = s + sumLen (ls k) from by have h1 := HSB.out; have h2 := HBK.out; have h3 := HQL.out; unfold wrap64; omega)
      go_wp2_with (go_at_call 74; refine (lbytes_any ob (k * 2) (vs k) (ls k) _ (HCR.out.lst k hlt)).mono ?_; rintro e w1 ⟨rfl, rfl⟩)
      rw [HWR.out, ← HSE.out, HWK.out]
      go_roundw
      case measure => simp [intOf]; omega
      case rel => exact ⟨k + 1, by omega, by go_num, rfl, (by have h1 := HSB.out; have h2 := HBK.out; rw [HSE.out]; omega), HG⟩
    · obtain rfl : k = q.lists := by omega
      have i1 : ¬ (q.lists : Int) < (q.lists : Int) := by omega
      clear hsb
      go_wp2
      go_ret
      exact ⟨rfl, HG.out⟩
end Go.Proofs.YtbpofdfehcbppaaDoor

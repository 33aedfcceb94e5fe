/-
  Queues the first of which goes first: append of any row; the program's methods. (Printed by genband.py.)
-/
import Derived.Test.YtbpofdfehcbppaaDoorBandA
import Derived.Test.YtbpofdfehcbppaaDoorPlayB
import Derived.Test.YtbpofdfehcbppaaDoorRegG
import Derived.Test.YtbpofdfehcbppaaDoorBoxd
import Derived.Test.YtbpofdfehcbppaaDoorRedA
import Derived.BigQuiet
import Derived.BigRegion
import Derived.Deep.RegionWith
import Derived.Deep.DeepCutAuto
import Derived.Deep.CutBlock
import Derived.Deep.LoopGhost
namespace Go.Proofs.YtbpofdfehcbppaaDoor
open Go.RowKit Go.Extern.Stop Go.Stop Go.Extern

theorem run_append_empty {P : Program} {w : World} (t ty e : TypeId) (i : TypeInfo) (ht : P.underlying t = some (.slice e)) (hi : P.info? e = some i) (base a : Option Addr) (n cap c : Nat) (hn : n ≤ cap) :
    (Builtin.append_ #[t, t] ty #[.slice base n cap, .slice a 0 c]).run P w = .ok (.slice base n cap) w := by
  cases a <;> cases base <;> simp [Builtin.append_, run_underlying ht, sizeOf, typeInfo, hi, Builtin.lenOf, Builtin.firstCells, hn, storeCells, loadCells, go_sem]
/-- append of any row. -/
theorem wpList_append_any {P : Program} {E : TypeId} {w : World} {v u : Value} {xs ys : List Hel} {ops : Array Oper} {rest : List Oper} {o : Oper} {a : Act} {Q : Exit → Act → World → Prop} (hgd : o.guard = none) (s x : Operand) (t : TypeId)
    (ho : o.op = .call { callee := .builtin .append, args := #[s, x], argTypes := #[t, t] }) (i : TypeInfo) (z : Value) (ht : P.underlying t = some (.slice E)) (hi : P.info? E = some i) (hz : i.zero = some z) (hsize : i.size = 6) (hby : i.bytes = 48) (hzs : z.cells.size = 6) (hKz : ∀ u ∈ z.cells.toList, isInt u)
    (hs : a.eval s = v) (h : RowH E w v xs) (hx : a.eval x = u) (hu : RowH E w u ys) (hn : xs.length + ys.length ≤ 1000000)
    (hK : ∀ v' w', RowH E w' v' (xs ++ ys) → w.grownBy w' v.ownBlock → (∀ g, v'.ownBlock = some g → v.ownBlock = some g ∨ w.heap.size ≤ g) → wpList P ops Q rest (a.put o.dst v') w') : wpList P ops Q (o :: rest) a w := by
  cases ys with
  | nil =>
    obtain ⟨ua, uc, rfl⟩ := hu.shape
    obtain ⟨va, vc, hv, hvc, _⟩ := h.any
    subst hv
    have hr := run_append_empty (P := P) (w := w) t o.type E i ht hi va ua xs.length vc uc hvc
    refine wpList_plain hgd fun _ hK' => ?_
    unfold Oper.wp
    simp [execOp, ho, resolve, invoke, builtin, hs, hx, hr, Result.andThen]
    exact hK' _ _ (hK _ _ (by rw [List.append_nil]; exact h) ⟨rfl, rfl, rfl, Nat.le_refl _, fun _ _ _ => rfl⟩ (fun g hg => .inl hg))
  | cons y ys =>
    rcases hu.2 with ⟨h1, h2⟩ | ⟨g, off, cap, cur, h1, h2⟩
    · simp at h2
    · have hall := RowH.all (by rw [h1] at hu; exact hu)
      rw [h1] at hx
      exact wpList_append_rowH hgd s x t ho i z ht hi hz hsize hby hzs hKz hs h ⟨g, off, none⟩ cap (y :: ys) hx (by simp) hall hn (fun v' w' k1 k2 k3 _ => hK v' w' k1 k2 k3)
section
variable {ev : Operand → Value} {o : Oper} {w : World} {x y : Operand} {u : Value}
theorem q_min {m n r : Int} (ho : o.op = .call { callee := .builtin .min, args := #[x, y], argTypes := #[3, 3] }) (h : ev x = .int .i64 m) (k : ev y = .int .i64 n) (hb : min m n = r) : (execOp ev o).run Tryd.prog w = .ok (.value (.int .i64 r)) w := by
  subst hb
  simp [execOp, ho, h, k, resolve, invoke, builtin, go_sem]
  omega
theorem q_idxP {b off n c j : Nat} (ho : o.op = .indexAddr 43 x y) (h : ev x = .slice (some ⟨b, off, none⟩) n c) (k : ev y = .int .i64 (j : Int)) (hj : j < n) : (execOp ev o).run Tryd.prog w = .ok (.value (.pointer (some ⟨b, off + j, none⟩))) w := by
  have h0 : (0 : Int) ≤ (j : Int) := by omega
  have h1 : (j : Int) < (n : Int) := by omega
  simp [execOp, ho, h, k, h0, h1, go_sem]
theorem q_idxR {b off n c j : Nat} (ho : o.op = .indexAddr 45 x y) (h : ev x = .slice (some ⟨b, off, none⟩) n c) (k : ev y = .int .i64 (j : Int)) (hj : j < n) : (execOp ev o).run Tryd.prog w = .ok (.value (.pointer (some ⟨b, off + j, none⟩))) w := by
  have h0 : (0 : Int) ≤ (j : Int) := by omega
  have h1 : (j : Int) < (n : Int) := by omega
  simp [execOp, ho, h, k, h0, h1, go_sem]
theorem q_loadQP {ad : Addr} {t : TypeId} {v : Value} (ho : o.op = .load 98 x) (h : ev x = .pointer (some ad)) (hc : w.cell? ad = some (.iface t v)) : (execOp ev o).run Tryd.prog w = .ok (.value (.iface t v)) w := by
  simp [execOp, ho, h, hc, go_sem]
theorem q_loadQR {ad : Addr} {t : TypeId} {v : Value} (ho : o.op = .load 100 x) (h : ev x = .pointer (some ad)) (hc : w.cell? ad = some (.iface t v)) : (execOp ev o).run Tryd.prog w = .ok (.value (.iface t v)) w := by
  simp [execOp, ho, h, hc, go_sem]
end
/-- In the midst of Take of several. -/
structure BTk {α : Type} {U : Mach α} {N0 : Nat} (E : TypeId) (k : Nat) (q : Nat → Value) (S : Nat → Side U N0 (Nat → Prop)) (mu : α → Nat) (p ob off cap : Nat) (w : World) (Fs0 : Nat → Nat → Prop) (m0 : Nat) (wr : World) (Fs : Nat → Nat → Prop) (l : List α) (n rb : Nat) (ls : Value) (lost : List Hel) : Prop where
  bd : BD k q S mu p ob off cap wr Fs l n
  res : HelRes wr rb .zero
  sav : Sav (BF k p ob Fs0) w wr
  new : ∀ g, BF k p ob Fs g → BF k p ob Fs0 g ∨ w.heap.size ≤ g
  rbb : (w.heap.size ≤ rb ∧ rb < wr.heap.size) ∧ ¬ BF k p ob Fs rb
  row : RowH E wr ls lost
  lown : ∀ g, ls.ownBlock = some g → w.heap.size ≤ g ∧ g ≠ rb ∧ ¬ BF k p ob Fs g
  mass : muL mu l + lost.length ≤ m0
  n0 : N0 ≤ w.heap.size
theorem set_mid {α : Type} {d r : List α} {a b : α} {i : Nat} (h : d.length = i) : (d ++ a :: r).set i b = (d ++ [b]) ++ r := by
  subst h
  induction d with
  | nil => rfl
  | cons c d ih => simp [ih]
theorem get_mid {α : Type} {d r : List α} {a : α} {i : Nat} (h : d.length = i) : (d ++ a :: r)[i]? = some a := by
  subst h
  simp
section
variable {α : Type} {U : Mach α} {N0 : Nat} {E : TypeId} {k : Nat} {q : Nat → Value} {S : Nat → Side U N0 (Nat → Prop)} {mu : α → Nat} {p ob off cap : Nat} {w wr w' : World} {Fs0 Fs : Nat → Nat → Prop} {F' : Nat → Prop} {m0 n rb i : Nat} {l : List α} {a a' : α} {ls : Value} {lost ys : List Hel}
theorem BTk.gr (hF : ∀ i b g, (S i).F b g ↔ b g) (h : BTk E k q S mu p ob off cap w Fs0 m0 wr Fs l n rb ls lost) (g : Gr wr w') : BTk E k q S mu p ob off cap w Fs0 m0 w' Fs l n rb ls lost :=
  ⟨h.bd.gr hF g, h.res.gr g, h.sav.then (.of_gr g), h.new, ⟨⟨h.rbb.1.1, Nat.lt_of_lt_of_le h.rbb.1.2 g.size⟩, h.rbb.2⟩, h.row.gr g, h.lown, h.mass, h.n0⟩
/-- One of them was asked; ys it threw away. -/
theorem BTk.step (hF : ∀ i b g, (S i).F b g ↔ b g) (h : BTk E k q S mu p ob off cap w Fs0 m0 wr Fs l n rb ls lost) (hi : l[i]? = some a) (m : (S i).Moved wr (Fs i) w' F' a' n) (hm : mu a' + ys.length ≤ mu a) :
    BTk E k q S mu p ob off cap w Fs0 (m0 - ys.length) w' (updF Fs i F') (l.set i a') n rb ls lost ∧ ys.length ≤ m0 := by
  obtain ⟨h1, h2, h3⟩ := h.bd.step hF hi m (by have := h.bd.mass; omega)
  have hr : ¬ BF k p ob (updF Fs i F') rb := fun e => (h3 rb e).elim h.rbb.2 (fun e => by have := h.rbb.1.2; omega)
  have e := muL_set mu l i a a' hi
  have e2 := h.mass
  refine ⟨⟨h1, h.res.sav h2 h.rbb.2, h.sav.trans h2 h.new, fun g hg => (h3 g hg).elim (h.new g) (fun e => .inr (Nat.le_trans h.sav.size e)), ⟨⟨h.rbb.1.1, Nat.lt_of_lt_of_le h.rbb.1.2 h2.size⟩, hr⟩, h.row.sav h2 (fun g hg => (h.lown g hg).2.2), fun g hg => ⟨(h.lown g hg).1, (h.lown g hg).2.1, fun e => (h3 g e).elim (h.lown g hg).2.2 (fun e => by have := h.row.lt hg; omega)⟩, by omega, h.n0⟩, by omega⟩
theorem BTk.app (hF : ∀ i b g, (S i).F b g ↔ b g) {m1 : Nat} {v4 : Value} (h : BTk E k q S mu p ob off cap w Fs0 m0 wr Fs l n rb ls lost) (hrow : RowH E w' v4 (lost ++ ys)) (hgr : wr.grownBy w' ls.ownBlock) (hown : ∀ g, v4.ownBlock = some g → ls.ownBlock = some g ∨ wr.heap.size ≤ g) (hm : m0 + ys.length ≤ m1) :
    BTk E k q S mu p ob off cap w Fs0 m1 w' Fs l n rb v4 (lost ++ ys) := by
  have hs : Sav (fun g => ls.ownBlock = some g) wr w' := .of_grown hgr fun _ h => h
  refine ⟨h.bd.sav hF hs (fun g hg => ⟨Nat.le_trans h.n0 (h.lown g hg).1, (h.lown g hg).2.2⟩), h.res.sav hs (fun e => (h.lown rb e).2.1 rfl), h.sav.trans hs (fun g e => .inr (h.lown g e).1), h.new, ⟨⟨h.rbb.1.1, Nat.lt_of_lt_of_le h.rbb.1.2 hs.size⟩, h.rbb.2⟩, hrow, fun g hg => ?_, by have := h.mass; rw [List.length_append]; omega, h.n0⟩
  rcases hown g hg with h1 | h1
  · exact h.lown g h1
  · exact ⟨Nat.le_trans h.sav.size h1, by have := h.rbb.1.2; omega, fun e => by have := h.bd.flt hF e; omega⟩
end
theorem takeL_cons {α : Type} (U : Mach α) (t : Int) (a : α) (r : List α) : takeL U t (a :: r) = if (U.take a t).2.2.2 = true then ((U.take a t).1 :: r, (U.take a t).2.1, (U.take a t).2.2.1, true)
    else ((U.take a t).1 :: (takeL U t r).1, (takeL U t r).2.1, (U.take a t).2.2.1 ++ (takeL U t r).2.2.1, (takeL U t r).2.2.2) := rfl
theorem whenL_cons {α : Type} (U : Mach α) (t : Int) (a : α) (r : List α) (at_ : Int) (sm : Bool) : whenL U t (a :: r) at_ sm = if (U.when_ a t).2.2 = true ∧ (sm = false ∨ (U.when_ a t).2.1 < at_) then ((U.when_ a t).1 :: (whenL U t r (U.when_ a t).2.1 true).1, (whenL U t r (U.when_ a t).2.1 true).2)
    else ((U.when_ a t).1 :: (whenL U t r at_ sm).1, (whenL U t r at_ sm).2) := rfl
/-- What Put, Take and When of several leave. -/
def BPutP {α : Type} {U : Mach α} {N0 : Nat} (E : TypeId) (k : Nat) (q : Nat → Value) (S : Nat → Side U N0 (Nat → Prop)) (mu : α → Nat) (p ob off cap : Nat) (w : World) (Fs : Nat → Nat → Prop) (n : Nat) (T : List α × List Hel) (e : Ending) (w' : World) : Prop :=
  ∃ r Fs', e = .returned r ∧ RowH E w' r T.2 ∧ BD k q S mu p ob off cap w' Fs' T.1 n ∧ Sav (BF k p ob Fs) w w' ∧ ∀ g, BF k p ob Fs' g → BF k p ob Fs g ∨ w.heap.size ≤ g
def BTakeP {α : Type} {U : Mach α} {N0 : Nat} (E : TypeId) (k : Nat) (q : Nat → Value) (S : Nat → Side U N0 (Nat → Prop)) (mu : α → Nat) (p ob off cap : Nat) (w : World) (Fs : Nat → Nat → Prop) (n : Nat) (T : List α × Hel × List Hel × Bool) (e : Ending) (w' : World) : Prop :=
  ∃ r Fs', e = .returned (.tuple #[T.2.1.val, r, .bool T.2.2.2]) ∧ RowH E w' r T.2.2.1 ∧ BD k q S mu p ob off cap w' Fs' T.1 n ∧ Sav (BF k p ob Fs) w w' ∧ ∀ g, BF k p ob Fs' g → BF k p ob Fs g ∨ w.heap.size ≤ g
def BWhenP {α : Type} {U : Mach α} {N0 : Nat} (k : Nat) (q : Nat → Value) (S : Nat → Side U N0 (Nat → Prop)) (mu : α → Nat) (p ob off cap : Nat) (w : World) (Fs : Nat → Nat → Prop) (n : Nat) (T : List α × Int × Bool) (e : Ending) (w' : World) : Prop :=
  ∃ Fs', e = .returned (.tuple #[.int .i64 T.2.1, .bool T.2.2]) ∧ BD k q S mu p ob off cap w' Fs' T.1 n ∧ Sav (BF k p ob Fs) w w' ∧ ∀ g, BF k p ob Fs' g → BF k p ob Fs g ∨ w.heap.size ≤ g
section
variable {ev : Operand → Value} {o : Oper} {w : World} {x y z : Operand} {u : Value}
theorem bp_fa_queue_Bands_0 {p o' : Nat} (ho : o.op = .fieldAddr 123 x 0) (h : ev x = .pointer (some ⟨p, o', none⟩)) : (execOp ev o).run Tryd.prog w = .ok (.value (.pointer (some ⟨p, o', none⟩))) w := by
  simp [execOp, ho, h, go_sem]
theorem bp_loadS___queue_Queue {ad : Addr} {a : Option Addr} {n c : Nat} (ho : o.op = .load 43 x) (h : ev x = .pointer (some ad)) (hc : w.cell? ad = some (.slice a n c)) : (execOp ev o).run Tryd.prog w = .ok (.value (.slice a n c)) w := by
  simp [execOp, ho, h, hc, go_sem]
theorem bp_fa_queue_Held_0 {p o' : Nat} (ho : o.op = .fieldAddr 139 x 0) (h : ev x = .pointer (some ⟨p, o', none⟩)) : (execOp ev o).run Tryd.prog w = .ok (.value (.pointer (some ⟨p, o', none⟩))) w := by
  simp [execOp, ho, h, go_sem]
theorem bp_fa_api_Item_3 {p o' : Nat} (ho : o.op = .fieldAddr 103 x 3) (h : ev x = .pointer (some ⟨p, o', none⟩)) : (execOp ev o).run Tryd.prog w = .ok (.value (.pointer (some ⟨p, o' + 3, none⟩))) w := by
  simp [execOp, ho, h, go_sem]
theorem bp_len___queue_Queue {a : Option Addr} {n c : Nat} (ho : o.op = .call { callee := .builtin .len, args := #[x], argTypes := #[43] }) (h : ev x = .slice a n c) : (execOp ev o).run Tryd.prog w = .ok (.value (.int .i64 (n : Int))) w := by
  simp [execOp, ho, h, resolve, invoke, builtin, Builtin.len_, go_sem]
theorem bp_sub {m n r : Int} (ho : o.op = .binOp .sub 3 x y 3) (h : ev x = .int .i64 m) (k : ev y = .int .i64 n) (hb : IntKind.i64.wrap (m - n) = r) : (execOp ev o).run Tryd.prog w = .ok (.value (.int .i64 r)) w := by
  subst hb
  simp [execOp, ho, h, k, go_sem]
end
set_option maxRecDepth 100000 in
set_option maxHeartbeats 4000000 in
theorem bput_any {α : Type} {U : Mach α} {N0 k : Nat} {q : Nat → Value} {S : Nat → Side U N0 (Nat → Prop)} {mu : α → Nat} (dfl : α) (hF : ∀ i b g, (S i).F b g ↔ b g) (hq : ∀ i, i < k → ∃ t v, q i = .iface t v) (hA : ∀ i, i < k → Acts (S i) 139 (q i)) (hU : ∀ i, i < k → More (S i) mu) (p ob off cap : Nat) (w : World) (Fs : Nat → Nat → Prop) (l : List α) (n : Nat) (now : Int) (x : Hel) (g : GoodPut now x n) (h : BD k q S mu p ob off cap w Fs l n) :
    Calls Tryd.prog 93 #[.pointer (some ⟨p, 0, none⟩), .int .i64 now, x.val] w (BPutP 139 k q S mu p ob off cap w Fs (n + 1) ((bands U dfl).put l now x)) := by
  have HB := Lib.hid h
  have HGP := Lib.hid g
  have HFEW := Lib.hid g.few
  have HPOS := Lib.hid h.pos
  have HMASS := Lib.hid h.mass
  obtain ⟨j, hj⟩ : ∃ j, j = bandOf l.length x := ⟨_, rfl⟩
  have HJ : Hid (min x.band ((k : Int) - 1) = (j : Int) ∧ j < k) := Lib.hid (by
    have h1 := g.band
    have h2 := h.pos
    rw [hj, h.len]
    unfold bandOf
    omega)
  obtain ⟨a, ha⟩ : ∃ a, l[j]? = some a := ⟨_, List.getElem?_eq_getElem (by rw [h.len]; exact HJ.out.2)⟩
  have HAJ := Lib.hid ha
  have HPUT := Lib.hid (show (bands U dfl).put l now x = (l.set j (U.put a now x).1, (U.put a now x).2) from by
    show (l.set (bandOf l.length x) (U.put (l.getD (bandOf l.length x) dfl) now x).1, (U.put (l.getD (bandOf l.length x) dfl) now x).2) = _
    rw [← hj, List.getD_eq_getElem?_getD, ha]
    rfl)
  obtain ⟨tq, vq, hqj⟩ := hq j HJ.out.2
  obtain ⟨fm, rv, hm, hc⟩ := (hA j HJ.out.2).put
  have HMT := Lib.hid ((hU j HJ.out.2).put (h.sub j a ha) g)
  rw [hqj] at hm
  have CK := Lib.hid (show IntKind.i64.wrap ((k : Int) - 1) = (k : Int) - 1 from by have := h.pos; rw [IntKind.wrap_i64]; omega)
  clear h g hj ha
  unfold Hel.val
  go_enter Tryd.func93, Tryd.ntmps93
  go_upto_region 1 with fail
  obtain ⟨w0, hw0⟩ : ∃ w0, w0 = w.alloc (.cells #[.int .i64 x.t, .int .i64 x.len, .int .i64 x.flow, .int .i64 x.band, .int .i64 x.mark, .int .i64 x.n] 139) := ⟨_, rfl⟩
  obtain ⟨xb, hxb⟩ : ∃ xb, xb = w.heap.size := ⟨_, rfl⟩
  have HX0 : Hid (HelAt w0 xb 0 x ∧ xb = w.heap.size) := Lib.hid (by rw [hw0]; exact ⟨held_new w x hxb, hxb⟩)
  have HG0 : Hid (Gr w w0) := Lib.hid (by rw [hw0]; exact (Gr.refl _).alloc _)
  have HB0 := Lib.hid (HB.out.gr hF HG0.out)
  have HEL := Lib.hid (show w0.cell? ⟨ob, off + j, none⟩ = some (.iface tq vq) from by rw [← hqj]; exact HB0.out.el j HJ.out.2)
  rw [← hw0, ← hxb]
  clear hw0 hxb
  clear hqj
  refine wp_region_gg (n := 18) [Fg.eq (.pointer (some ⟨p, 0, none⟩)), Fg.eq (.pointer (some ⟨p, 0, none⟩)), Fg.eq (.pointer (some ⟨p, 0, none⟩)), Fg.eq (.slice (some ⟨ob, off, none⟩) k cap), Fg.eq (.pointer (some ⟨xb, 0, none⟩)), Fg.eq (.pointer (some ⟨xb, 3, none⟩)), Fg.eq (.int .i64 x.band), Fg.eq (.pointer (some ⟨p, 0, none⟩)), Fg.eq (.pointer (some ⟨p, 0, none⟩)), Fg.eq (.pointer (some ⟨p, 0, none⟩)), Fg.eq (.slice (some ⟨ob, off, none⟩) k cap), Fg.eq (.int .i64 (k : Int)), Fg.eq (.int .i64 ((k : Int) - 1)), Fg.eq (.int .i64 (j : Int)), Fg.eq (.pointer (some ⟨ob, off + j, none⟩)), Fg.eq (.iface tq vq), Fg.eq (.int .i64 now), Fg.eq (x.val)] [7, 8, 9, 10, 11, 12, 13, 14, 15, 16, 17, 18, 19, 20, 21, 22, 23, 24] (by kernel_rfl) (by kernel_rfl) (by kernel_rfl) ?_ ?_
  · intro L i o' ac w1 hi ho hA
    have hgr : Gr w0 w1 := (Gr.refl w0).drew.trans hA.gr
    match i, hi with
    | 0, _ =>
      obtain rfl := Option.some.inj ho
      exact gg_plain rfl (gstep_val (q_move rfl (show ac.eval (.tmp 0) = .pointer (some ⟨p, 0, none⟩) from hA.other 0 (by decide))) rfl)
    | 1, _ =>
      obtain rfl := Option.some.inj ho
      exact gg_plain rfl (gstep_val (q_nil rfl (hA.fact 0 (hA.dep 0 (by kernel_rfl) (by decide)))) rfl)
    | 2, _ =>
      obtain rfl := Option.some.inj ho
      exact gg_plain rfl (gstep_val (bp_fa_queue_Bands_0 rfl (hA.fact 1 (hA.dep 1 (by kernel_rfl) (by decide)))) rfl)
    | 3, _ =>
      obtain rfl := Option.some.inj ho
      exact gg_plain rfl (gstep_val (bp_loadS___queue_Queue rfl (hA.fact 2 (hA.dep 2 (by kernel_rfl) (by decide))) ((hgr.cell HB0.out.cell))) rfl)
    | 4, _ =>
      obtain rfl := Option.some.inj ho
      exact gg_plain rfl (gstep_val (bp_fa_queue_Held_0 rfl (show ac.eval (.tmp 5) = .pointer (some ⟨xb, 0, none⟩) from hA.other 5 (by decide))) rfl)
    | 5, _ =>
      obtain rfl := Option.some.inj ho
      exact gg_plain rfl (gstep_val (bp_fa_api_Item_3 rfl (hA.fact 4 (hA.dep 4 (by kernel_rfl) (by decide)))) rfl)
    | 6, _ =>
      obtain rfl := Option.some.inj ho
      exact gg_plain rfl (gstep_val (q_loadI rfl (hA.fact 5 (hA.dep 5 (by kernel_rfl) (by decide))) (hgr.cell HX0.out.1.c3)) rfl)
    | 7, _ =>
      obtain rfl := Option.some.inj ho
      exact gg_plain rfl (gstep_val (q_move rfl (show ac.eval (.tmp 0) = .pointer (some ⟨p, 0, none⟩) from hA.other 0 (by decide))) rfl)
    | 8, _ =>
      obtain rfl := Option.some.inj ho
      exact gg_plain rfl (gstep_val (q_nil rfl (hA.fact 7 (hA.dep 7 (by kernel_rfl) (by decide)))) rfl)
    | 9, _ =>
      obtain rfl := Option.some.inj ho
      exact gg_plain rfl (gstep_val (bp_fa_queue_Bands_0 rfl (hA.fact 8 (hA.dep 8 (by kernel_rfl) (by decide)))) rfl)
    | 10, _ =>
      obtain rfl := Option.some.inj ho
      exact gg_plain rfl (gstep_val (bp_loadS___queue_Queue rfl (hA.fact 9 (hA.dep 9 (by kernel_rfl) (by decide))) ((hgr.cell HB0.out.cell))) rfl)
    | 11, _ =>
      obtain rfl := Option.some.inj ho
      exact gg_plain rfl (gstep_val (bp_len___queue_Queue rfl (hA.fact 10 (hA.dep 10 (by kernel_rfl) (by decide)))) rfl)
    | 12, _ =>
      obtain rfl := Option.some.inj ho
      exact gg_plain rfl (gstep_val (bp_sub rfl (hA.fact 11 (hA.dep 11 (by kernel_rfl) (by decide))) rfl (CK.out)) rfl)
    | 13, _ =>
      obtain rfl := Option.some.inj ho
      exact gg_plain rfl (gstep_val (q_min rfl (hA.fact 6 (hA.dep 6 (by kernel_rfl) (by decide))) (hA.fact 12 (hA.dep 12 (by kernel_rfl) (by decide))) HJ.out.1) rfl)
    | 14, _ =>
      obtain rfl := Option.some.inj ho
      exact gg_plain rfl (gstep_val (q_idxP rfl (hA.fact 3 (hA.dep 3 (by kernel_rfl) (by decide))) (show ac.eval (.tmp 20) = .int .i64 (j : Int) from (hA.fact 13 (hA.dep 13 (by kernel_rfl) (by decide)))) HJ.out.2) rfl)
    | 15, _ =>
      obtain rfl := Option.some.inj ho
      exact gg_plain rfl (gstep_val (q_loadQP rfl (show ac.eval (.tmp 21) = .pointer (some ⟨ob, off + j, none⟩) from (hA.fact 14 (hA.dep 14 (by kernel_rfl) (by decide)))) (hgr.cell HEL.out)) rfl)
    | 16, _ =>
      obtain rfl := Option.some.inj ho
      exact gg_plain rfl (gstep_val (q_move rfl (show ac.eval (.tmp 1) = .int .i64 now from hA.other 1 (by decide))) rfl)
    | 17, _ =>
      obtain rfl := Option.some.inj ho
      exact gg_plain rfl (gstep_val (q_loadH rfl (show ac.eval (.tmp 5) = .pointer (some ⟨xb, 0, none⟩) from hA.other 5 (by decide)) (HX0.out.1.gr hgr)) rfl)
    | k + 18, hk => exact absurd (show k + 18 < 18 from hk) (by omega)
  · intro vs w5 hg5 hv
    have HGX := Lib.hid ((Gr.refl w0).drew.trans hg5)
    have r22 : (vs 15) = .iface tq vq := hv 15 (by omega)
    have v23 : vs 16 = .int .i64 now := hv 16 (by omega)
    have v24 : vs 17 = x.val := hv 17 (by omega)
    clear hv hg5
    simp only [putN, List.drop_succ_cons, List.drop_zero, List.getElem?_cons_succ, List.getElem?_cons_zero]
    generalize vs 15 = z22 at *
    generalize vs 16 = z23 at *
    subst v23
    generalize vs 17 = z24 at *
    subst v24
    generalize vs 0 = z7 at *
    generalize vs 1 = z8 at *
    generalize vs 2 = z9 at *
    generalize vs 3 = z10 at *
    generalize vs 4 = z11 at *
    generalize vs 5 = z12 at *
    generalize vs 6 = z13 at *
    generalize vs 7 = z14 at *
    generalize vs 8 = z15 at *
    generalize vs 9 = z16 at *
    generalize vs 10 = z17 at *
    generalize vs 11 = z18 at *
    generalize vs 12 = z19 at *
    generalize vs 13 = z20 at *
    generalize vs 14 = z21 at *
    subst r22
    have HBX := Lib.hid ((HB0.out.gr hF HGX.out).more hU HFEW.out)
    have HPC := Lib.hid (hc w5 (Fs j) a n now x ((HB0.out.gr hF HGX.out).sub j a HAJ.out) HGP.out)
    unfold Hel.val at HPC ⊢
    clear hc
    refine wpList_invoke hm rfl _ _ _ rfl (by simp [go_sem]) (ys := [.int .i64 now, .agg #[.int .i64 x.t, .int .i64 x.len, .int .i64 x.flow, .int .i64 x.band, .int .i64 x.mark, .int .i64 x.n]]) (by simp [go_sem]) HPC.out ?_
    rintro e w1 ⟨v1, F', rfl, hrow, hmv⟩
    have HK1 := Lib.hid (HBX.out.step hF HAJ.out hmv (by have h1 := HMT.out; have h2 := HMASS.out; omega))
    have HL1 := Lib.hid hrow
    clear hrow hmv
    refine ⟨_, rfl, ?_⟩
    go_wp2
    go_ret
    rw [HPUT.out]
    exact ⟨_, _, rfl, HL1.out, HK1.out.1, (Sav.of_gr (HG0.out.trans HGX.out)).then HK1.out.2.1, fun g hg => (HK1.out.2.2 g hg).imp id (Nat.le_trans (HG0.out.trans HGX.out).size)⟩
set_option maxRecDepth 100000 in
set_option maxHeartbeats 4000000 in
theorem btake_any {α : Type} {U : Mach α} {N0 k : Nat} {q : Nat → Value} {S : Nat → Side U N0 (Nat → Prop)} {mu : α → Nat} (hF : ∀ i b g, (S i).F b g ↔ b g) (hq : ∀ i, i < k → ∃ t v, q i = .iface t v) (hA : ∀ i, i < k → Acts (S i) 139 (q i)) (hU : ∀ i, i < k → More (S i) mu) (p ob off cap : Nat) (w : World) (hN : N0 ≤ w.heap.size) (Fs : Nat → Nat → Prop) (l : List α) (n : Nat) (now : Int) (hnow : Now now) (h : BD k q S mu p ob off cap w Fs l n) :
    Calls Tryd.prog 94 #[.pointer (some ⟨p, 0, none⟩), .int .i64 now] w (BTakeP 139 k q S mu p ob off cap w Fs n (takeL U now l)) := by
  have HB := Lib.hid h
  have HN := Lib.hid hN
  have HFF := Lib.hid hF
  have HNOW := Lib.hid hnow
  obtain ⟨i0, hi0, hz0, hz1, hz2⟩ := info_parts heldInfo
  obtain ⟨T, hT⟩ : ∃ T, T = takeL U now l := ⟨_, rfl⟩
  rw [← hT]
  have HT := Lib.hid hT
  have hkc := h.pos
  have HM := Lib.hid h.mass
  have HM2 := Lib.hid h.n
  clear hT h hN hnow
  go_enter Tryd.func94, Tryd.ntmps94
  go_upto_region 1 with fail
  obtain ⟨w0, hw0⟩ : ∃ w0, w0 = w.alloc (.cells #[.int .i64 0, .int .i64 0, .int .i64 0, .int .i64 0, .int .i64 0, .int .i64 0] 139) := ⟨_, rfl⟩
  obtain ⟨rb, hrb⟩ : ∃ rb, rb = w.heap.size := ⟨_, rfl⟩
  have HK0 : Hid (BTk 139 k q S mu p ob off cap w Fs (muL mu l) w0 Fs l n rb (.slice none 0 0) []) := Lib.hid (by
    have hg : Gr w w0 := by rw [hw0]; exact (Gr.refl _).alloc _
    exact ⟨HB.out.gr hF hg, by rw [hw0]; exact helRes_new w .zero hrb, .of_gr hg, fun _ => .inl, ⟨⟨by omega, by rw [hw0]; simp; omega⟩, fun e => by have := HB.out.flt hF e; omega⟩, RowH.nil _ _, (fun g hg => by cases hg), by simp, HN.out⟩)
  rw [← hw0, ← hrb]
  clear hw0 hrb
  have c0 := HK0.out.bd.cell
  go_wp2
  clear c0
  go_loopw [5, 17] (fun s5 s17 wr => ∃ (i : Nat) (d r : List α) (Fs' : Nat → Nat → Prop) (lost : List Hel), s17 = .int .i64 (i : Int) ∧ d.length = i ∧ i ≤ k ∧ Hid (T = (d ++ (takeL U now r).1, (takeL U now r).2.1, lost ++ (takeL U now r).2.2.1, (takeL U now r).2.2.2)) ∧ Hid (BTk 139 k q S mu p ob off cap w Fs (muL mu l) wr Fs' (d ++ r) n rb s5 lost)) (fun _ s _ => k - (intOf s).toNat)
  case atStart => exact ⟨0, [], l, Fs, [], rfl, rfl, Nat.zero_le _, Lib.hid (by rw [HT.out]; simp), HK0⟩
  case round =>
    clear HK0
    obtain ⟨i, d, r, Fs', lost, rfl, hd, hik, HEQ, HK⟩ := hrel
    have HD := Lib.hid hd
    clear hd
    by_cases hlt : i < k
    · have i0' : (0 : Int) ≤ (i : Int) := by omega
      have i1' : (i : Int) < (k : Int) := by omega
      cases r with
      | nil =>
        exfalso
        have h1 := HK.out.bd.len
        have h2 := HD.out
        simp at h1
        omega
      | cons a r' =>
        have HAI := Lib.hid (get_mid (r := r') (a := a) HD.out)
        obtain ⟨tq, vq, hqi⟩ := hq i hlt
        have el := HK.out.bd.el i hlt
        rw [hqi] at el
        obtain ⟨fm, rv, hm, hc⟩ := (hA i hlt).take
        rw [hqi] at hm
        have HPC := Lib.hid (hc wr (Fs' i) a n now (HK.out.bd.sub i a HAI.out) HNOW.out)
        have HMT := Lib.hid ((hU i hlt).take (HK.out.bd.sub i a HAI.out) HNOW.out)
        have HTL := Lib.hid (takeL_cons U now a r')
        clear hc hqi
        generalize U.take a now = ta at *
        obtain ⟨a', x, ys, okb⟩ := ta
        simp only [] at HPC HMT HTL
        unfold Hel.val at HPC
        go_upto_region 5 with ((with_reducible refine wpList_here "Take" ?_); refine wpList_invoke hm rfl _ _ _ rfl rfl (ys := [.int .i64 now]) rfl HPC.out ?_; rintro e w1 ⟨v1, F', rfl, hrow, hmv⟩; have HK1 := Lib.hid (HK.out.step (ys := ys) hF HAI.out hmv HMT.out); have HL1 := Lib.hid hrow; clear hrow hmv; refine ⟨_, rfl, ?_⟩)
        obtain ⟨w2, hw2⟩ : ∃ w2, w2 = w1.alloc (.cells #[.int .i64 x.t, .int .i64 x.len, .int .i64 x.flow, .int .i64 x.band, .int .i64 x.mark, .int .i64 x.n] 139) := ⟨_, rfl⟩
        obtain ⟨yb, hyb⟩ : ∃ yb, yb = w1.heap.size := ⟨_, rfl⟩
        have hg2 : Gr w1 w2 := by rw [hw2]; exact (Gr.refl _).alloc _
        have HY2 : Hid (HelAt w2 yb 0 x) := Lib.hid (by rw [hw2]; exact held_new w1 x hyb)
        have HK2 := Lib.hid (HK1.out.1.gr hF hg2)
        have HL2 := Lib.hid (HL1.out.gr hg2)
        have HYS := Lib.hid HK1.out.2
        have HYB := Lib.hid (show rb < yb from by have := HK1.out.1.rbb.1.2; omega)
        have HYL := Lib.hid (show yb < w2.heap.size from cell_lt HY2.out.c0)
        have HYR : Hid (∀ g, u5.ownBlock = some g → g ≠ yb) := Lib.hid (fun g hg e => by have := HK1.out.1.row.lt hg; omega)
        rw [← hw2, ← hyb]
        clear hw2 hyb hg2 el
        go_upto_region 6 with (at_builtin; refine wpList_append_any rfl _ _ _ (by rfl) i0 Hel.zero.val Tryd.underlying31 hi0 hz0 hz1 hz2 rfl ?c1 (by rfl) HK2.out.row (by rfl) HL2.out ?c2 ?_; (case c1 => (intro u hu; exact (cells_int Hel.zero u (by simpa [Hel.val, Value.cells, Hel.cells] using hu)).2)); (case c2 => (have h1 := HK2.out.mass; have h2 := HYS.out; have h3 := HM.out; have h4 := HM2.out; omega)); intro v4 w4 hrow hgr hown; have HK4 := Lib.hid (HK2.out.app hF (m1 := muL mu l) hrow hgr hown (by have := HYS.out; omega)); have HY4 := Lib.hid (HY2.out.sav (B := fun g => u5.ownBlock = some g) (.of_grown hgr fun _ h => h) (fun e => HYR.out yb e rfl)); clear hrow hgr hown)
        cases okb with
        | true =>
          have HT2 := Lib.hid (show T = (d ++ (a' :: r'), x, lost ++ ys, true) from by rw [HEQ.out, HTL.out, if_pos rfl])
          obtain ⟨⟨r0, r1, r2, r3, r4, r5⟩, s0, s1, s2, s3, s4, s5⟩ := HK4.out.res
          obtain ⟨x0, x1, x2, x3, x4, x5⟩ := HY4.out
          go_wp2
          obtain ⟨w9, hw9⟩ : ∃ w9, w9 = ((((((w4.setCell ⟨rb, 0, none⟩ (.int .i64 x.t)).setCell ⟨rb, 1, none⟩ (.int .i64 x.len)).setCell ⟨rb, 2, none⟩ (.int .i64 x.flow)).setCell ⟨rb, 3, none⟩ (.int .i64 x.band)).setCell ⟨rb, 4, none⟩ (.int .i64 x.mark)).setCell ⟨rb, 5, none⟩ (.int .i64 x.n)) := ⟨_, rfl⟩
          have HR9 := Lib.hid (show HelRes w9 rb x ∧ Sav (fun q => q = rb) w4 w9 from by rw [hw9]; exact hel_set6 HK4.out.res x)
          rw [← hw9]
          clear hw9 r0 r1 r2 r3 r4 r5 s0 s1 s2 s3 s4 s5
          obtain ⟨⟨q0, q1, q2, q3, q4, q5⟩, _⟩ := HR9.out.1
          refine bodyPost_ret (v := .tuple #[.agg #[.int .i64 x.t, .int .i64 x.len, .int .i64 x.flow, .int .i64 x.band, .int .i64 x.mark, .int .i64 x.n], v4, .bool true]) (by simp [results, Tryd.results94, go_sem, q0, q1, q2, q3, q4, q5]) rfl ?_
          rw [HT2.out]
          refine ⟨_, _, rfl, HK4.out.row.sav HR9.out.2 (fun g hg => (HK4.out.lown g hg).2.1), ?_, HK4.out.sav.trans HR9.out.2 (fun g e => .inr (by rw [e]; exact HK4.out.rbb.1.1)), HK4.out.new⟩
          have hbd := HK4.out.bd.sav hF HR9.out.2 (fun g e => ⟨by have h1 := HK4.out.rbb.1.1; have h2 := HN.out; omega, by rw [e]; exact HK4.out.rbb.2⟩)
          rw [set_mid HD.out, List.append_assoc] at hbd
          exact hbd
        | false =>
          go_wp2
          go_roundw
          case measure => simp [intOf]; omega
          case rel => exact ⟨i + 1, d ++ [a'], r', updF Fs' i F', lost ++ ys, by go_num, by have := HD.out; simp; omega, by omega, Lib.hid (by rw [HEQ.out, HTL.out, if_neg (by intro e; cases e)]; simp), Lib.hid (by have := HK4.out; rw [set_mid HD.out] at this; exact this)⟩
    · have hrn : r = [] := by
        have h1 := HK.out.bd.len
        have h2 := HD.out
        simp at h1
        exact List.eq_nil_of_length_eq_zero (by omega)
      subst hrn
      have HT2 := Lib.hid (show T = (d ++ [], .zero, lost, false) from by rw [HEQ.out]; simp [takeL])
      have hnlt : ¬ (i : Int) < (k : Int) := by omega
      obtain ⟨⟨r0, r1, r2, r3, r4, r5⟩, s0, s1, s2, s3, s4, s5⟩ := HK.out.res
      go_wp2
      obtain ⟨w9, hw9⟩ : ∃ w9, w9 = ((((((wr.setCell ⟨rb, 0, none⟩ (.int .i64 0)).setCell ⟨rb, 1, none⟩ (.int .i64 0)).setCell ⟨rb, 2, none⟩ (.int .i64 0)).setCell ⟨rb, 3, none⟩ (.int .i64 0)).setCell ⟨rb, 4, none⟩ (.int .i64 0)).setCell ⟨rb, 5, none⟩ (.int .i64 0)) := ⟨_, rfl⟩
      have HR9 := Lib.hid (show HelRes w9 rb Hel.zero ∧ Sav (fun q => q = rb) wr w9 from by rw [hw9]; exact hel_set6 HK.out.res Hel.zero)
      rw [← hw9]
      clear hw9 r0 r1 r2 r3 r4 r5 s0 s1 s2 s3 s4 s5
      obtain ⟨⟨q0, q1, q2, q3, q4, q5⟩, _⟩ := HR9.out.1
      refine bodyPost_ret (v := .tuple #[.agg #[.int .i64 Hel.zero.t, .int .i64 Hel.zero.len, .int .i64 Hel.zero.flow, .int .i64 Hel.zero.band, .int .i64 Hel.zero.mark, .int .i64 Hel.zero.n], u5, .bool false]) (by simp [results, Tryd.results94, go_sem, q0, q1, q2, q3, q4, q5]) rfl ?_
      rw [HT2.out]
      refine ⟨_, _, rfl, HK.out.row.sav HR9.out.2 (fun g hg => (HK.out.lown g hg).2.1), ?_, HK.out.sav.trans HR9.out.2 (fun g e => .inr (by rw [e]; exact HK.out.rbb.1.1)), HK.out.new⟩
      have hbd := HK.out.bd.sav hF HR9.out.2 (fun g e => ⟨by have h1 := HK.out.rbb.1.1; have h2 := HN.out; omega, by rw [e]; exact HK.out.rbb.2⟩)
      exact hbd
set_option maxRecDepth 100000 in
set_option maxHeartbeats 4000000 in
theorem bwhen_any {α : Type} {U : Mach α} {N0 k : Nat} {q : Nat → Value} {S : Nat → Side U N0 (Nat → Prop)} {mu : α → Nat} (hF : ∀ i b g, (S i).F b g ↔ b g) (hq : ∀ i, i < k → ∃ t v, q i = .iface t v) (hA : ∀ i, i < k → Acts (S i) 139 (q i)) (hU : ∀ i, i < k → More (S i) mu) (p ob off cap : Nat) (w : World) (Fs : Nat → Nat → Prop) (l : List α) (n : Nat) (now : Int) (hnow : Now now) (h : BD k q S mu p ob off cap w Fs l n) :
    Calls Tryd.prog 95 #[.pointer (some ⟨p, 0, none⟩), .int .i64 now] w (BWhenP k q S mu p ob off cap w Fs n (whenL U now l 0 false)) := by
  have HB := Lib.hid h
  have HFF := Lib.hid hF
  have HNOW := Lib.hid hnow
  obtain ⟨T, hT⟩ : ∃ T, T = whenL U now l 0 false := ⟨_, rfl⟩
  rw [← hT]
  have HT := Lib.hid hT
  have hkc := h.pos
  have c0 := h.cell
  clear hT h hnow
  go_enter Tryd.func95, Tryd.ntmps95
  go_wp2
  clear c0
  go_loopw [6, 7, 17] (fun s6 s7 s17 wr => ∃ (i : Nat) (d r : List α) (Fs' : Nat → Nat → Prop) (best : Int) (sm : Bool), s17 = .int .i64 (i : Int) ∧ s6 = .int .i64 best ∧ s7 = .bool sm ∧ d.length = i ∧ i ≤ k ∧ Hid (T = (d ++ (whenL U now r best sm).1, (whenL U now r best sm).2)) ∧ Hid (BD k q S mu p ob off cap wr Fs' (d ++ r) n ∧ Sav (BF k p ob Fs) w wr ∧ ∀ g, BF k p ob Fs' g → BF k p ob Fs g ∨ w.heap.size ≤ g)) (fun _ _ s _ => k - (intOf s).toNat)
  case atStart => exact ⟨0, [], l, Fs, 0, false, rfl, rfl, rfl, rfl, Nat.zero_le _, Lib.hid (by rw [HT.out]; simp), Lib.hid ⟨HB.out, .refl _ _, fun _ => .inl⟩⟩
  case round =>
    obtain ⟨i, d, r, Fs', best, sm, rfl, rfl, rfl, hd, hik, HEQ, HK⟩ := hrel
    have HD := Lib.hid hd
    clear hd
    by_cases hlt : i < k
    · have i0' : (0 : Int) ≤ (i : Int) := by omega
      have i1' : (i : Int) < (k : Int) := by omega
      cases r with
      | nil =>
        exfalso
        have h1 := HK.out.1.len
        have h2 := HD.out
        simp at h1
        omega
      | cons a r' =>
        have HAI := Lib.hid (get_mid (r := r') (a := a) HD.out)
        obtain ⟨tq, vq, hqi⟩ := hq i hlt
        have el := HK.out.1.el i hlt
        rw [hqi] at el
        obtain ⟨fm, rv, hm, hc⟩ := (hA i hlt).when_
        rw [hqi] at hm
        have HPC := Lib.hid (hc wr (Fs' i) a n now (HK.out.1.sub i a HAI.out) HNOW.out)
        have HMT := Lib.hid ((hU i hlt).when_ (HK.out.1.sub i a HAI.out) HNOW.out)
        have HTL := Lib.hid (whenL_cons U now a r' best sm)
        clear hc hqi
        generalize U.when_ a now = ta at *
        obtain ⟨a', t, okb⟩ := ta
        simp only [] at HPC HMT HTL
        go_upto_region 6 with ((with_reducible refine wpList_here "When" ?_); refine wpList_invoke hm rfl _ _ _ rfl rfl (ys := [.int .i64 now]) rfl HPC.out ?_; rintro e w1 ⟨F', rfl, hmv⟩; have HK1 := Lib.hid (HK.out.1.step hF HAI.out hmv (by have := HMT.out; have := HK.out.1.mass; omega)); clear hmv; refine ⟨_, rfl, ?_⟩)
        have HK2 : Hid (BD k q S mu p ob off cap w1 (updF Fs' i F') ((d ++ [a']) ++ r') n ∧ Sav (BF k p ob Fs) w w1 ∧ ∀ g, BF k p ob (updF Fs' i F') g → BF k p ob Fs g ∨ w.heap.size ≤ g) := Lib.hid (by
          have h1 := HK1.out.1
          rw [set_mid HD.out] at h1
          exact ⟨h1, HK.out.2.1.trans HK1.out.2.1 HK.out.2.2, fun g hg => (HK1.out.2.2 g hg).elim (HK.out.2.2 g) (fun e => .inr (Nat.le_trans HK.out.2.1.size e))⟩)
        have HLN := Lib.hid (show (d ++ [a']).length = i + 1 from by have := HD.out; simp; omega)
        clear HK1 HMT HPC el
        cases okb with
        | false =>
          go_wp2
          go_roundw
          case measure => simp [intOf]; omega
          case rel => exact ⟨i + 1, d ++ [a'], r', updF Fs' i F', best, sm, by go_num, rfl, rfl, HLN.out, by omega, Lib.hid (by rw [HEQ.out, HTL.out, if_neg (fun e => by cases e.1)]; simp), HK2⟩
        | true =>
          cases sm with
          | false =>
            go_wp2
            go_roundw
            case measure => simp [intOf]; omega
            case rel => exact ⟨i + 1, d ++ [a'], r', updF Fs' i F', t, true, by go_num, rfl, rfl, HLN.out, by omega, Lib.hid (by rw [HEQ.out, HTL.out, if_pos ⟨rfl, .inl rfl⟩]; simp), HK2⟩
          | true =>
            by_cases htb : t < best
            · have HTB := Lib.hid htb
              go_wp2
              go_roundw
              case measure => simp [intOf]; omega
              case rel => exact ⟨i + 1, d ++ [a'], r', updF Fs' i F', t, true, by go_num, rfl, rfl, HLN.out, by omega, Lib.hid (by rw [HEQ.out, HTL.out, if_pos ⟨rfl, .inr HTB.out⟩]; simp), HK2⟩
            · have HTB := Lib.hid htb
              go_wp2
              go_roundw
              case measure => simp [intOf]; omega
              case rel => exact ⟨i + 1, d ++ [a'], r', updF Fs' i F', best, true, by go_num, rfl, rfl, HLN.out, by omega, Lib.hid (by rw [HEQ.out, HTL.out, if_neg (fun e => e.2.elim (fun e => by cases e) HTB.out)]; simp), HK2⟩
    · have hrn : r = [] := by
        have h1 := HK.out.1.len
        have h2 := HD.out
        simp at h1
        exact List.eq_nil_of_length_eq_zero (by omega)
      subst hrn
      have HT2 := Lib.hid (show T = (d ++ [], best, sm) from by rw [HEQ.out]; simp [whenL])
      have hnlt : ¬ (i : Int) < (k : Int) := by omega
      go_wp2
      go_ret2
      rw [HT2.out]
      exact ⟨_, rfl, HK.out⟩
set_option maxRecDepth 100000 in
set_option maxHeartbeats 4000000 in
theorem blen_any {α : Type} {U : Mach α} {N0 k : Nat} {q : Nat → Value} {S : Nat → Side U N0 (Nat → Prop)} {mu : α → Nat} (hF : ∀ i b g, (S i).F b g ↔ b g) (hq : ∀ i, i < k → ∃ t v, q i = .iface t v) (hA : ∀ i, i < k → PSide (S i) (q i)) (hU : ∀ i, i < k → More (S i) mu) (p ob off cap : Nat) (w : World) (Fs : Nat → Nat → Prop) (l : List α) (n : Nat) (h : BD k q S mu p ob off cap w Fs l n) :
    Calls Tryd.prog 92 #[.pointer (some ⟨p, 0, none⟩)] w fun e w' => e = .returned (.int .i64 ((l.flatMap U.all).length : Int)) ∧ Gr w w' := by
  have HB := Lib.hid h
  have HFF := Lib.hid hF
  have hkc := h.pos
  have c0 := h.cell
  have HBND : Hid (∀ d r, l = d ++ r → 0 ≤ ((d.flatMap U.all).length : Int) ∧ ((d.flatMap U.all).length : Int) ≤ 200) := Lib.hid (by
    intro d r e
    have hm := muL_all U mu l (fun a ha => by
      obtain ⟨i, hi, rfl⟩ := List.mem_iff_getElem.1 ha
      exact ((hU i (by rw [← h.len]; exact hi)).few (h.sub i _ (List.getElem?_eq_getElem hi))).1)
    have hm2 := h.mass
    have hm3 := h.n
    rw [e] at hm2
    have hl : Lens (l.flatMap U.all) := fun x hx => by
      obtain ⟨a, ha, hxa⟩ := List.mem_flatMap.1 hx
      obtain ⟨i, hi, rfl⟩ := List.mem_iff_getElem.1 ha
      exact ((hA i (by rw [← h.len]; exact hi)).few (h.sub i _ (List.getElem?_eq_getElem hi))).2 x hxa
    rw [e, List.flatMap_append] at hl hm
    rw [List.length_append] at hm
    omega)
  clear h
  go_enter Tryd.func92, Tryd.ntmps92
  go_wp2
  clear c0
  go_loopw [3, 11] (fun s3 s11 wr => ∃ (i : Nat) (d r : List α), s11 = .int .i64 (i : Int) ∧ s3 = .int .i64 ((d.flatMap U.all).length : Int) ∧ d.length = i ∧ i ≤ k ∧ Hid (l = d ++ r) ∧ Hid (Gr w wr)) (fun _ s _ => k - (intOf s).toNat)
  case atStart => exact ⟨0, [], l, rfl, rfl, rfl, Nat.zero_le _, Lib.hid rfl, Lib.hid (Gr.refl _)⟩
  case round =>
    obtain ⟨i, d, r, rfl, rfl, hd, hik, HEQ, HG⟩ := hrel
    have HD := Lib.hid hd
    clear hd
    by_cases hlt : i < k
    · have i0' : (0 : Int) ≤ (i : Int) := by omega
      have i1' : (i : Int) < (k : Int) := by omega
      cases r with
      | nil =>
        exfalso
        have h1 := HB.out.len
        have h2 := HD.out
        rw [HEQ.out] at h1
        simp at h1
        omega
      | cons a r' =>
        have HAI := Lib.hid (show l[i]? = some a from by rw [HEQ.out]; exact get_mid HD.out)
        obtain ⟨tq, vq, hqi⟩ := hq i hlt
        have HBR := Lib.hid (HB.out.gr hF HG.out)
        have el := HBR.out.el i hlt
        rw [hqi] at el
        obtain ⟨fm, rv, hm, hc⟩ := (hA i hlt).len
        rw [hqi] at hm
        have HPC := Lib.hid (hc wr (Fs i) a n (HBR.out.sub i a HAI.out))
        have HB1 := Lib.hid (HBND.out d (a :: r') HEQ.out)
        have HB2 := Lib.hid (HBND.out (d ++ [a]) r' (by rw [HEQ.out]; simp))
        have HSP := Lib.hid (show (((d ++ [a]).flatMap U.all).length : Int) = ((d.flatMap U.all).length : Int) + ((U.all a).length : Int) from by rw [List.flatMap_append, List.length_append]; simp)
        have HWR := Lib.hid (show wrap64 (((d.flatMap U.all).length : Int) + ((U.all a).length : Int)) = (((d ++ [a]).flatMap U.all).length : Int) from by
          have h1 := HB2.out
          rw [← HSP.out]
          unfold wrap64
          omega)
        clear hc hqi
        generalize ((d.flatMap U.all).length : Int) = sd at *
        generalize ((U.all a).length : Int) = sa at *
        go_wp2_with ((with_reducible refine wpList_here "Len" ?_); refine wpList_invoke hm rfl _ _ _ rfl rfl (ys := []) rfl HPC.out ?_; rintro e w1 ⟨rfl, hg1⟩; have HG1 := Lib.hid (HG.out.trans hg1); clear hg1; refine ⟨_, rfl, ?_⟩)
        rw [HWR.out]
        go_roundw
        case measure => simp [intOf]; omega
        case rel => exact ⟨i + 1, d ++ [a], r', by go_num, rfl, by have := HD.out; simp; omega, by omega, Lib.hid (by rw [HEQ.out]; simp), HG1⟩
    · have hrn : r = [] := by
        have h1 := HB.out.len
        have h2 := HD.out
        rw [HEQ.out] at h1
        simp at h1
        exact List.eq_nil_of_length_eq_zero (by omega)
      subst hrn
      have hnlt : ¬ (i : Int) < (k : Int) := by omega
      have HLD := Lib.hid (show l = d from by rw [HEQ.out]; simp)
      go_wp2
      go_ret
      rw [HLD.out]
      exact ⟨rfl, HG.out⟩
set_option maxRecDepth 100000 in
set_option maxHeartbeats 4000000 in
theorem bbytes_any {α : Type} {U : Mach α} {N0 k : Nat} {q : Nat → Value} {S : Nat → Side U N0 (Nat → Prop)} {mu : α → Nat} (hF : ∀ i b g, (S i).F b g ↔ b g) (hq : ∀ i, i < k → ∃ t v, q i = .iface t v) (hA : ∀ i, i < k → PSide (S i) (q i)) (hU : ∀ i, i < k → More (S i) mu) (p ob off cap : Nat) (w : World) (Fs : Nat → Nat → Prop) (l : List α) (n : Nat) (h : BD k q S mu p ob off cap w Fs l n) :
    Calls Tryd.prog 91 #[.pointer (some ⟨p, 0, none⟩)] w fun e w' => e = .returned (.int .i64 (sumLen (l.flatMap U.all))) ∧ Gr w w' := by
  have HB := Lib.hid h
  have HFF := Lib.hid hF
  have hkc := h.pos
  have c0 := h.cell
  have HBND : Hid (∀ d r, l = d ++ r → 0 ≤ sumLen (d.flatMap U.all) ∧ sumLen (d.flatMap U.all) ≤ 2000000) := Lib.hid (by
    intro d r e
    have hm := muL_all U mu l (fun a ha => by
      obtain ⟨i, hi, rfl⟩ := List.mem_iff_getElem.1 ha
      exact ((hU i (by rw [← h.len]; exact hi)).few (h.sub i _ (List.getElem?_eq_getElem hi))).1)
    have hm2 := h.mass
    have hm3 := h.n
    rw [e] at hm2
    have hl : Lens (l.flatMap U.all) := fun x hx => by
      obtain ⟨a, ha, hxa⟩ := List.mem_flatMap.1 hx
      obtain ⟨i, hi, rfl⟩ := List.mem_iff_getElem.1 ha
      exact ((hA i (by rw [← h.len]; exact hi)).few (h.sub i _ (List.getElem?_eq_getElem hi))).2 x hxa
    rw [e, List.flatMap_append] at hl hm
    rw [List.length_append] at hm
    exact (by have h1 := Lens.le (xs := d.flatMap U.all) (fun x hx => hl x (List.mem_append_left _ hx)) (n := 200) (by omega); omega))
  clear h
  go_enter Tryd.func91, Tryd.ntmps91
  go_wp2
  clear c0
  go_loopw [3, 11] (fun s3 s11 wr => ∃ (i : Nat) (d r : List α), s11 = .int .i64 (i : Int) ∧ s3 = .int .i64 (sumLen (d.flatMap U.all)) ∧ d.length = i ∧ i ≤ k ∧ Hid (l = d ++ r) ∧ Hid (Gr w wr)) (fun _ s _ => k - (intOf s).toNat)
  case atStart => exact ⟨0, [], l, rfl, rfl, rfl, Nat.zero_le _, Lib.hid rfl, Lib.hid (Gr.refl _)⟩
  case round =>
    obtain ⟨i, d, r, rfl, rfl, hd, hik, HEQ, HG⟩ := hrel
    have HD := Lib.hid hd
    clear hd
    by_cases hlt : i < k
    · have i0' : (0 : Int) ≤ (i : Int) := by omega
      have i1' : (i : Int) < (k : Int) := by omega
      cases r with
      | nil =>
        exfalso
        have h1 := HB.out.len
        have h2 := HD.out
        rw [HEQ.out] at h1
        simp at h1
        omega
      | cons a r' =>
        have HAI := Lib.hid (show l[i]? = some a from by rw [HEQ.out]; exact get_mid HD.out)
        obtain ⟨tq, vq, hqi⟩ := hq i hlt
        have HBR := Lib.hid (HB.out.gr hF HG.out)
        have el := HBR.out.el i hlt
        rw [hqi] at el
        obtain ⟨fm, rv, hm, hc⟩ := (hA i hlt).bytes
        rw [hqi] at hm
        have HPC := Lib.hid (hc wr (Fs i) a n (HBR.out.sub i a HAI.out))
        have HB1 := Lib.hid (HBND.out d (a :: r') HEQ.out)
        have HB2 := Lib.hid (HBND.out (d ++ [a]) r' (by rw [HEQ.out]; simp))
        have HSP := Lib.hid (show (sumLen ((d ++ [a]).flatMap U.all)) = (sumLen (d.flatMap U.all)) + sumLen (U.all a) from by rw [List.flatMap_append, sumLen_app]; simp)
        have HWR := Lib.hid (show wrap64 ((sumLen (d.flatMap U.all)) + sumLen (U.all a)) = (sumLen ((d ++ [a]).flatMap U.all)) from by
          have h1 := HB2.out
          rw [← HSP.out]
          unfold wrap64
          omega)
        clear hc hqi
        generalize (sumLen (d.flatMap U.all)) = sd at *
        generalize sumLen (U.all a) = sa at *
        go_wp2_with ((with_reducible refine wpList_here "Bytes" ?_); refine wpList_invoke hm rfl _ _ _ rfl rfl (ys := []) rfl HPC.out ?_; rintro e w1 ⟨rfl, hg1⟩; have HG1 := Lib.hid (HG.out.trans hg1); clear hg1; refine ⟨_, rfl, ?_⟩)
        rw [HWR.out]
        go_roundw
        case measure => simp [intOf]; omega
        case rel => exact ⟨i + 1, d ++ [a], r', by go_num, rfl, by have := HD.out; simp; omega, by omega, Lib.hid (by rw [HEQ.out]; simp), HG1⟩
    · have hrn : r = [] := by
        have h1 := HB.out.len
        have h2 := HD.out
        rw [HEQ.out] at h1
        simp at h1
        exact List.eq_nil_of_length_eq_zero (by omega)
      subst hrn
      have hnlt : ¬ (i : Int) < (k : Int) := by omega
      have HLD := Lib.hid (show l = d from by rw [HEQ.out]; simp)
      go_wp2
      go_ret
      rw [HLD.out]
      exact ⟨rfl, HG.out⟩
/-- Several queues, as a side of a play. -/
def bSide {α : Type} {U : Mach α} (N0 k : Nat) (q : Nat → Value) (S : Nat → Side U N0 (Nat → Prop)) (mu : α → Nat) (dfl : α) (p : Nat) (hF : ∀ i b g, (S i).F b g ↔ b g) : Side (bands U dfl) N0 (Nat → Prop) where
  I w F l n := ∃ ob off cap Fs, BD k q S mu p ob off cap w Fs l n ∧ ∀ g, F g ↔ BF k p ob Fs g
  F b g := b g
  lo {w F l n g} h hg := by obtain ⟨ob, off, cap, Fs, h1, h2⟩ := h; exact h1.flo hF ((h2 g).1 hg)
  lt {w F l n g} h hg := by obtain ⟨ob, off, cap, Fs, h1, h2⟩ := h; exact h1.flt hF ((h2 g).1 hg)
  sav {w w' F l n B} h k hB := by obtain ⟨ob, off, cap, Fs, h1, h2⟩ := h; exact ⟨ob, off, cap, Fs, h1.sav hF k (fun g hg => ⟨(hB g hg).1, fun e => (hB g hg).2 ((h2 g).2 e)⟩), h2⟩
theorem bSide_moved {α : Type} {U : Mach α} {N0 k : Nat} {q : Nat → Value} {S : Nat → Side U N0 (Nat → Prop)} {mu : α → Nat} {dfl : α} {p : Nat} {hF : ∀ i b g, (S i).F b g ↔ b g} {w w' : World} {F : Nat → Prop} {ob off cap : Nat} {Fs Fs' : Nat → Nat → Prop} {l' : List α} {n' : Nat} (h2 : ∀ g, F g ↔ BF k p ob Fs g)
    (h : BD k q S mu p ob off cap w' Fs' l' n') (s : Sav (BF k p ob Fs) w w') (n : ∀ g, BF k p ob Fs' g → BF k p ob Fs g ∨ w.heap.size ≤ g) : (bSide N0 k q S mu dfl p hF).Moved w F w' (BF k p ob Fs') l' n' :=
  ⟨⟨ob, off, cap, Fs', h, fun _ => Iff.rfl⟩, s.mono fun g hg => (h2 g).2 hg, fun g hg => (n g hg).imp (h2 g).2 id⟩
theorem bSide_more {α : Type} {U : Mach α} {N0 k : Nat} {q : Nat → Value} {S : Nat → Side U N0 (Nat → Prop)} {mu : α → Nat} (dfl : α) (p : Nat) (hF : ∀ i b g, (S i).F b g ↔ b g) (hU : ∀ i, i < k → More (S i) mu) : More (bSide N0 k q S mu dfl p hF) (muL mu) where
  up {w F l n} h hn := by obtain ⟨ob, off, cap, Fs, h1, h2⟩ := h; exact ⟨ob, off, cap, Fs, h1.more hU hn, h2⟩
  few {w F l n} h := by
    obtain ⟨ob, off, cap, Fs, h1, h2⟩ := h
    exact ⟨muL_all U mu l (fun a ha => by
      obtain ⟨i, hi, rfl⟩ := List.mem_iff_getElem.1 ha
      exact ((hU i (by rw [← h1.len]; exact hi)).few (h1.sub i _ (List.getElem?_eq_getElem hi))).1), h1.mass⟩
  put {w F l n t x} h g := by
    obtain ⟨ob, off, cap, Fs, h1, h2⟩ := h
    obtain ⟨j, hj⟩ : ∃ j, j = bandOf l.length x := ⟨_, rfl⟩
    have hjk : j < k := by rw [hj, h1.len]; unfold bandOf; have := h1.pos; omega
    have hjl : j < l.length := by rw [h1.len]; exact hjk
    obtain ⟨a, ha⟩ : ∃ a, l[j]? = some a := ⟨_, List.getElem?_eq_getElem hjl⟩
    have hp : (bands U dfl).put l t x = (l.set j (U.put a t x).1, (U.put a t x).2) := by
      show (l.set (bandOf l.length x) (U.put (l.getD (bandOf l.length x) dfl) t x).1, (U.put (l.getD (bandOf l.length x) dfl) t x).2) = _
      rw [← hj, List.getD_eq_getElem?_getD, ha]
      rfl
    rw [hp]
    have e1 := (hU j hjk).put (h1.sub j a ha) g
    have e2 := muL_set mu l j a (U.put a t x).1 ha
    simp only
    omega
  take {w F l n t} h ht := by
    obtain ⟨ob, off, cap, Fs, h1, h2⟩ := h
    exact takeL_mu U mu t l (fun a ha => by
      obtain ⟨i, hi, rfl⟩ := List.mem_iff_getElem.1 ha
      exact (hU i (by rw [← h1.len]; exact hi)).take (h1.sub i _ (List.getElem?_eq_getElem hi)) ht)
  when_ {w F l n t} h ht := by
    obtain ⟨ob, off, cap, Fs, h1, h2⟩ := h
    exact whenL_mu U mu t l (fun a ha => by
      obtain ⟨i, hi, rfl⟩ := List.mem_iff_getElem.1 ha
      exact (hU i (by rw [← h1.len]; exact hi)).when_ (h1.sub i _ (List.getElem?_eq_getElem hi)) ht) 0 false
theorem bSide_acts {α : Type} {U : Mach α} {N0 k : Nat} {q : Nat → Value} {S : Nat → Side U N0 (Nat → Prop)} {mu : α → Nat} (dfl : α) (p : Nat) (hF : ∀ i b g, (S i).F b g ↔ b g) (hq : ∀ i, i < k → ∃ t v, q i = .iface t v) (hA : ∀ i, i < k → Acts (S i) 139 (q i)) (hU : ∀ i, i < k → More (S i) mu) :
    Acts (bSide N0 k q S mu dfl p hF) 139 (.iface 49 (.pointer (some ⟨p, 0, none⟩))) where
  put := ⟨_, _, (fun args w => by kernel_rfl : Meth _ "Put" 93 (.pointer (some ⟨p, 0, none⟩))), fun w F l n now x h g => by
    obtain ⟨ob, off, cap, Fs, h1, h2⟩ := h
    exact (bput_any dfl hF hq hA hU p ob off cap w Fs l n now x g h1).mono fun e w' ⟨r, Fs', k1, k2, k3, k4, k5⟩ => ⟨r, _, k1, k2, bSide_moved h2 k3 k4 k5⟩⟩
  take := ⟨_, _, (fun args w => by kernel_rfl : Meth _ "Take" 94 (.pointer (some ⟨p, 0, none⟩))), fun w F l n now h g => by
    obtain ⟨ob, off, cap, Fs, h1, h2⟩ := h
    exact (btake_any hF hq hA hU p ob off cap w (Nat.le_trans h1.lo.1 (Nat.le_of_lt h1.lt.1)) Fs l n now g h1).mono fun e w' ⟨r, Fs', k1, k2, k3, k4, k5⟩ => ⟨r, _, k1, k2, bSide_moved h2 k3 k4 k5⟩⟩
  when_ := ⟨_, _, (fun args w => by kernel_rfl : Meth _ "When" 95 (.pointer (some ⟨p, 0, none⟩))), fun w F l n now h g => by
    obtain ⟨ob, off, cap, Fs, h1, h2⟩ := h
    exact (bwhen_any hF hq hA hU p ob off cap w Fs l n now g h1).mono fun e w' ⟨Fs', k1, k3, k4, k5⟩ => ⟨_, k1, bSide_moved h2 k3 k4 k5⟩⟩
  few {w F l n} h := by
    have hm := ((bSide_more (q := q) dfl p hF hU).few h)
    obtain ⟨ob, off, cap, Fs, h1, h2⟩ := h
    have hn := h1.n
    refine ⟨by have h3 : ((bands U dfl).all l).length ≤ muL mu l := hm.1; have h4 := hm.2; omega, fun x hx => ?_⟩
    obtain ⟨a, ha, hxa⟩ := List.mem_flatMap.1 hx
    obtain ⟨i, hi, rfl⟩ := List.mem_iff_getElem.1 ha
    exact ((hA i (by rw [← h1.len]; exact hi)).few (h1.sub i _ (List.getElem?_eq_getElem hi))).2 x hxa
  fewPut {w F l n now x} h g := by
    have hm := (bSide_more (q := q) dfl p hF hU).put h g
    have hm2 := (bSide_more (q := q) dfl p hF hU).few h
    have := g.few
    omega
  fewTake {w F l n now} h g := by
    have hm := (bSide_more (q := q) dfl p hF hU).take h g
    have hm2 := (bSide_more (q := q) dfl p hF hU).few h
    obtain ⟨ob, off, cap, Fs, h1, h2⟩ := h
    have := h1.n
    omega
theorem bSide_p {α : Type} {U : Mach α} {N0 k : Nat} {q : Nat → Value} {S : Nat → Side U N0 (Nat → Prop)} {mu : α → Nat} (dfl : α) (p : Nat) (hF : ∀ i b g, (S i).F b g ↔ b g) (hq : ∀ i, i < k → ∃ t v, q i = .iface t v) (hA : ∀ i, i < k → PSide (S i) (q i)) (hU : ∀ i, i < k → More (S i) mu) :
    PSide (bSide N0 k q S mu dfl p hF) (.iface 49 (.pointer (some ⟨p, 0, none⟩))) where
  toActs := bSide_acts dfl p hF hq (fun i hi => (hA i hi).toActs) hU
  len := ⟨_, _, (fun args w => by kernel_rfl : Meth _ "Len" 92 (.pointer (some ⟨p, 0, none⟩))), fun w F l n h => by
    obtain ⟨ob, off, cap, Fs, h1, h2⟩ := h
    exact blen_any hF hq hA hU p ob off cap w Fs l n h1⟩
  bytes := ⟨_, _, (fun args w => by kernel_rfl : Meth _ "Bytes" 91 (.pointer (some ⟨p, 0, none⟩))), fun w F l n h => by
    obtain ⟨ob, off, cap, Fs, h1, h2⟩ := h
    exact bbytes_any hF hq hA hU p ob off cap w Fs l n h1⟩
end Go.Proofs.YtbpofdfehcbppaaDoor

/-
  The document's cells in memory.
-/
import Derived.Test.YtfdmmfjheiiiiaaDoorSmF
import Derived.LaidEqlPtr
namespace Go.Proofs.YtfdmmfjheiiiiaaDoor
open Go.RowKit

def isPt (v : Value) : Prop := ∃ g, v = Value.pointer g
def ptL (bp : Nat → Nat) (m : Nat) : List Value := (List.range m).map fun i => .pointer (some ⟨bp i, 0, none⟩)
theorem ptL_get (bp : Nat → Nat) {m i : Nat} (h : i < m) : (ptL bp m)[i]? = some (.pointer (some ⟨bp i, 0, none⟩)) := by simp [ptL, h]
theorem ptL_snoc (bp : Nat → Nat) (m p : Nat) : ptL bp m ++ [.pointer (some ⟨p, 0, none⟩)] = ptL (fun i => if i = m then p else bp i) (m + 1) := by
  unfold ptL
  rw [List.range_succ, List.map_append]
  congr 1
  · exact List.map_congr_left fun i hi => by
      have := List.mem_range.1 hi
      show _ = Value.pointer (some ⟨if i = m then p else bp i, 0, none⟩)
      rw [if_neg (by omega)]
  · simp
/-- Cell c, through at h, lies at block b. -/
structure CelAt (w : World) (b : Nat) (c : Cel) (h : Int) : Prop where
  c0 : w.cell? ⟨b, 0, none⟩ = some (.int .i64 (c.fl : Int))
  c1 : w.cell? ⟨b, 1, none⟩ = some (.int .i64 (c.at_ : Int))
  c2 : w.cell? ⟨b, 2, none⟩ = some (.int .i64 c.due)
  c3 : w.cell? ⟨b, 3, none⟩ = some (.int .i64 h)
  f3 : w.frozen? ⟨b, 3, none⟩ = false
  kd : Kind 54 w b
section
variable {w w' : World} {b : Nat} {c : Cel} {h : Int} {B : Nat → Prop}
theorem CelAt.lt (k : CelAt w b c h) : b < w.heap.size := cell_lt k.c0
theorem CelAt.sav (k : CelAt w b c h) (s : Sav B w w') (hb : ¬ B b) : CelAt w' b c h := ⟨s.cell k.c0 hb, s.cell k.c1 hb, s.cell k.c2 hb, s.cell k.c3 hb, s.frozen (p := ⟨b, 3, none⟩) k.lt k.f3 hb, ⟨k.kd.choose, (s.block b k.lt hb).trans k.kd.choose_spec⟩⟩
theorem CelAt.gr (k : CelAt w b c h) (g : Gr w w') : CelAt w' b c h := k.sav (B := fun _ => False) (.of_gr g) id
theorem CelAt.set (k : CelAt w b c h) (x : Int) : CelAt (w.setCell ⟨b, 3, none⟩ (.int .i64 x)) b c x := by
  have ho : ∀ j, j ≠ 3 → (w.setCell ⟨b, 3, none⟩ (.int .i64 x)).cell? ⟨b, j, none⟩ = w.cell? ⟨b, j, none⟩ := fun j hj => World.cell?_setCell_other _ _ _ _ (fun e => hj (by injection e with _ e2; exact e2.symm))
  exact ⟨(ho 0 (by decide)).trans k.c0, (ho 1 (by decide)).trans k.c1, (ho 2 (by decide)).trans k.c2, World.cell?_setCell_same _ _ _ k.c3, by simpa using k.f3, k.kd.set _ _ _⟩
end
/-- v lists the cells L (their blocks: cp), through at thr; all laid at base or behind. -/
structure Cells (w : World) (base : Nat) (v : Value) (cp : Nat → Nat) (L : List Cel) (thr : Nat → Int) : Prop where
  row : Row 52 1 isPt w v L.length (ptL cp L.length)
  at_ : ∀ q, q < L.length → CelAt w (cp q) (L.getD q .zero) (thr q)
  inj : ∀ q r, q < L.length → r < L.length → cp q = cp r → q = r
  ro : ∀ g, v.ownBlock = some g → base ≤ g ∧ ∀ q, q < L.length → cp q ≠ g
  lo : ∀ q, q < L.length → base ≤ cp q
section
variable {w w' : World} {base : Nat} {v v' : Value} {cp : Nat → Nat} {L : List Cel} {thr : Nat → Int} {B : Nat → Prop}
theorem Cells.sav (h : Cells w base v cp L thr) (s : Sav B w w') (hv : ∀ g, v.ownBlock = some g → ¬ B g) (hc : ∀ q, q < L.length → ¬ B (cp q)) : Cells w' base v cp L thr :=
  ⟨h.row.sav s hv, fun q hq => (h.at_ q hq).sav s (hc q hq), h.inj, h.ro, h.lo⟩
theorem Cells.gr (h : Cells w base v cp L thr) (g : Gr w w') : Cells w' base v cp L thr := h.sav (B := fun _ => False) (.of_gr g) (fun _ _ => id) (fun _ _ => id)
theorem Cells.nil (w : World) (base : Nat) (cp : Nat → Nat) (thr : Nat → Int) : Cells w base (.slice none 0 0) cp [] thr :=
  ⟨Row.nil _ _ _ _, fun q hq => absurd hq (by simp), fun q r hq => absurd hq (by simp), fun g e => by simp [Value.ownBlock] at e, fun q hq => absurd hq (by simp)⟩
/-- one is through -/
theorem Cells.thru (h : Cells w base v cp L thr) {q : Nat} (hq : q < L.length) (x : Int) : Cells (w.setCell ⟨cp q, 3, none⟩ (.int .i64 x)) base v cp L (upd thr q x) := by
  have s : Sav (fun g => g = cp q) w (w.setCell ⟨cp q, 3, none⟩ (.int .i64 x)) := .set (cp q) 3 _
  refine ⟨h.row.sav s (fun g e e2 => (h.ro g e).2 q hq e2.symm), fun r hr => ?_, h.inj, h.ro, h.lo⟩
  by_cases e : r = q
  · subst e
    rw [upd_at]
    exact (h.at_ r hr).set x
  · rw [upd_ne _ _ e]
    exact (h.at_ r hr).sav s (fun e2 => e (h.inj r q hr hq e2))
/-- one more, whose block is new -/
theorem Cells.more (h : Cells w base v cp L thr) {p : Nat} {c : Cel} (hp : ∀ g, v.ownBlock = some g → p ≠ g) (hpb : base ≤ p) (hpn : ∀ q, q < L.length → cp q ≠ p) (hb : base ≤ w.heap.size) (hc : CelAt w p c (-1)) (ht : thr L.length = -1) (hr : Row 52 1 isPt w' v' (L.length + 1) (ptL cp L.length ++ [.pointer (some ⟨p, 0, none⟩)])) (hg : Sav (fun g => v.ownBlock = some g) w w') (ho : ∀ g, v'.ownBlock = some g → v.ownBlock = some g ∨ w.heap.size ≤ g) :
    Cells w' base v' (fun i => if i = L.length then p else cp i) (L ++ [c]) thr := by
  have hl : ∀ q, q < L.length → cp q < w.heap.size := fun q hq => (h.at_ q hq).lt
  rw [ptL_snoc] at hr
  have e1 : (L ++ [c]).length = L.length + 1 := by simp
  refine ⟨by rw [e1]; exact hr, fun q hq => ?_, fun q r hq hr' e => ?_, fun g e => ?_, fun q hq => ?_⟩
  · rw [e1] at hq
    by_cases e : q = L.length
    · subst e
      rw [if_pos rfl, show (L ++ [c]).getD L.length .zero = c by simp, ht]
      exact hc.sav hg (fun e2 => hp p e2 rfl)
    · rw [if_neg e, show (L ++ [c]).getD q .zero = L.getD q .zero by simp [List.getElem?_append_left (show q < L.length by omega)]]
      exact (h.at_ q (by omega)).sav hg (fun e2 => (h.ro _ e2).2 q (by omega) rfl)
  · rw [e1] at hq hr'
    by_cases a : q = L.length
    · by_cases b : r = L.length
      · omega
      · simp only [if_pos a, if_neg b] at e
        exact absurd e.symm (hpn r (by omega))
    · by_cases b : r = L.length
      · simp only [if_neg a, if_pos b] at e
        exact absurd e (hpn q (by omega))
      · simp only [if_neg a, if_neg b] at e
        exact h.inj q r (by omega) (by omega) e
  · refine ⟨?_, fun q hq => ?_⟩
    · rcases ho g e with k | k
      · exact (h.ro g k).1
      · omega
    · rw [e1] at hq
      by_cases a : q = L.length
      · rw [if_pos a]
        rcases ho g e with k | k
        · exact hp g k
        · have := hc.lt; omega
      · rw [if_neg a]
        rcases ho g e with k | k
        · exact (h.ro g k).2 q (by omega)
        · have := hl q (by omega); omega
  · rw [e1] at hq
    show base ≤ (if q = L.length then p else cp q)
    by_cases a : q = L.length
    · rw [if_pos a]; exact hpb
    · rw [if_neg a]; exact h.lo q (by omega)
end
/-- A row of pointers is no list of numbers. -/
theorem pt_ints {E : TypeId} {w : World} {v : Value} {n : Nat} {xs : List Value} {a : Option Addr} {k c : Nat} {ys : List Int} (h : Row E 1 isPt w v n xs) (hr : Ints w (.slice a k c) ys) (h0 : 0 < ys.length) : ∀ g, (Value.slice a k c).ownBlock = some g → v.ownBlock ≠ some g := by
  intro g e e2
  rcases hr with ⟨_, _, _, h1⟩ | ⟨b, off, cap, h1, _, _, h4⟩
  · subst h1; simp at h0
  · injection h1 with h2
    subst h2
    injection e with e3
    subst e3
    rcases h.2 with ⟨h5, _⟩ | ⟨g', off', cap', cur, h5, h6, _, _, _, h7, _⟩
    · subst h5; simp [Value.ownBlock] at e2
    · subst h5
      injection e2 with e4
      subst e4
      have h8 := h4 0 h0
      have h9 : cur[off + 0]? = some (.int .i64 (ys.getD 0 0)) := by simpa [World.cell?, h6] using h8
      obtain ⟨z, hz⟩ := h7 _ _ h9
      cases hz
theorem info_celS : (Tryd.prog.info? 54).map (fun i => (i.zero, i.size, i.bytes)) = some (some (.agg #[.int .i64 0, .int .i64 0, .int .i64 0, .int .i64 0]), 4, 32) := by kernel_rfl
theorem eqP_same (w : World) (b : Nat) : (binOp .eql 52 (.pointer (some ⟨b, 0, none⟩)) (.pointer (some ⟨b, 0, none⟩))).run Tryd.prog w = .ok (.bool true) w := by
  obtain ⟨j, hj, _, _, _⟩ := info_parts info_celS
  exact run_eql_ptr_same w ⟨b, 0, none⟩ Tryd.underlying52 hj
theorem eqP_other {w : World} {b c : Nat} (hb : Kind 54 w b) (hc : Kind 54 w c) (h : b ≠ c) : (binOp .eql 52 (.pointer (some ⟨b, 0, none⟩)) (.pointer (some ⟨c, 0, none⟩))).run Tryd.prog w = .ok (.bool false) w := by
  obtain ⟨j, hj, _, hs, _⟩ := info_parts info_celS
  exact run_eql_ptr_other w (a := ⟨b, 0, none⟩) (b := ⟨c, 0, none⟩) Tryd.underlying52 hj (by rw [hs]; decide) (fun e => h (by injection e)) hb.choose_spec hc.choose_spec
theorem q_eqP {ev : Operand → Value} {o : Oper} {w : World} {x y : Operand} {b c : Nat} {r : Bool} (ho : o.op = .binOp .eql 52 x y 52) (hx : ev x = .pointer (some ⟨b, 0, none⟩)) (hy : ev y = .pointer (some ⟨c, 0, none⟩))
    (hr : (binOp .eql 52 (.pointer (some ⟨b, 0, none⟩)) (.pointer (some ⟨c, 0, none⟩))).run Tryd.prog w = .ok (.bool r) w) : (execOp ev o).run Tryd.prog w = .ok (.value (.bool r)) w := by
  simp [execOp, ho, hx, hy, hr, go_sem]
theorem wpList_eqP {w : World} {ops : Array Oper} {rest : List Oper} {o : Oper} {a : Act} {Q : Exit → Act → World → Prop} (hgd : o.guard = none) (x y : Operand) (ho : o.op = .binOp .eql 52 x y 52) (b c : Nat) (hx : a.eval x = .pointer (some ⟨b, 0, none⟩)) (hy : a.eval y = .pointer (some ⟨c, 0, none⟩)) (r : Bool)
    (hr : (binOp .eql 52 (.pointer (some ⟨b, 0, none⟩)) (.pointer (some ⟨c, 0, none⟩))).run Tryd.prog w = .ok (.bool r) w) (hK : wpList Tryd.prog ops Q rest (a.put o.dst (.bool r)) w) : wpList Tryd.prog ops Q (o :: rest) a w := by
  refine wpList_plain hgd fun K' hK' => ?_
  unfold Oper.wp
  rw [q_eqP ho hx hy hr]
  exact hK' _ _ hK
end Go.Proofs.YtfdmmfjheiiiiaaDoor

/-
  Two lists of rows that grow in one region: what holds meanwhile, and what comes of it.
-/
import Derived.Test.YtfdmmfjheiiiiaaDoorSmG
import Derived.Test.YtfdmmfjheiiiiaaDoorSmJ
import Derived.Test.YtfdmmfjheiiiiaaDoorRegL
namespace Go.Proofs.YtfdmmfjheiiiiaaDoor
open Go.RowKit

section
variable {w w' : World} {g n base i : Nat} {vs : Nat → Value} {xs : Nat → List Int} {B : Nat → Prop} {v' : Value} {ys : List Int}
/-- The row at i is another one now. -/
theorem lists_put (h : Lists w g n vs xs base) (hi : i < n) (hb : base ≤ w.heap.size) (hr : IntRow w' v' ys) (k : Sav B w w') (hB : ∀ j b, j < n → j ≠ i → (vs j).ownBlock = some b → ¬ B b) (ho : ∀ b, v'.ownBlock = some b → (vs i).ownBlock = some b ∨ w.heap.size ≤ b)
    (hc : ∀ j, j < n → w'.cell? ⟨g, j, none⟩ = some (updA vs i v' j)) (hf : ∀ j, j < n → w'.frozen? ⟨g, j, none⟩ = false) : Lists w' g n (updA vs i v') (updA xs i ys) base := by
  have hl : ∀ j, j < n → ∀ b, (vs j).ownBlock = some b → b < w.heap.size := fun j hj b e => Row.lt (h.row j hj) e
  refine ⟨hc, hf, fun j hj => ?_, fun j b hj e => ?_, fun j l b hj hl' hne e => ?_, h.gb⟩
  · by_cases e : j = i
    · subst e
      rw [updA_at, updA_at]
      exact hr
    · rw [updA_ne _ _ e, updA_ne _ _ e]
      exact Row.sav (h.row j hj) k (fun b e2 => hB j b hj e e2)
  · by_cases e2 : j = i
    · subst e2
      rw [updA_at] at e
      rcases ho b e with h1 | h1
      · exact h.own j b hj h1
      · omega
    · rw [updA_ne _ _ e2] at e
      exact h.own j b hj e
  · by_cases e2 : j = i
    · subst e2
      rw [updA_at] at e
      rw [updA_ne _ _ (fun e3 => hne e3.symm)]
      rcases ho b e with h1 | h1
      · exact h.inj j l b hj hl' hne h1
      · intro e4
        have := hl l hl' b e4
        omega
    · rw [updA_ne _ _ e2] at e
      by_cases e3 : l = i
      · subst e3
        rw [updA_at]
        intro e4
        rcases ho b e4 with h1 | h1
        · exact h.inj j l b hj hl' hne e h1
        · have := hl j hj b e
          omega
      · rw [updA_ne _ _ e3]
        exact h.inj j l b hj hl' hne e
end
theorem gather_len (L : List Cel) (f : Nat → Int) (i : Nat) : ∀ q, (gather L f i q).length ≤ q
  | 0 => Nat.le_refl _
  | q + 1 => by
    have := gather_len L f i q
    rw [gather]
    split
    · simp; omega
    · omega
theorem gather_upd (L : List Cel) (f : Nat → Int) (q : Nat) : (fun i => gather L f i (q + 1)) = updA (fun i => gather L f i q) (L.getD q .zero).fl (gather L f (L.getD q .zero).fl q ++ [f q]) := by
  funext i
  by_cases e : i = (L.getD q .zero).fl
  · subst e
    rw [updA_at, gather, if_pos rfl]
  · rw [updA_ne _ _ e, gather, if_neg (fun h => e h.symm)]
theorem PlanP.Has.fl_lt {P : PlanP} {L : List Cel} (h : P.Has L) {q : Nat} (hq : q < L.length) : (L.getD q .zero).fl < P.n := by
  rw [h.len] at hq
  obtain ⟨i, k, h1, h2, rfl⟩ := P.off_split hq
  rw [h.fl i k h1 h2]
  exact h1
section
variable {P : Program} {ops : Array Oper} {n : Nat} {fs : List Fv} {I : Bool → World → Prop} {c : Nat} {a0 : Act} {L : Nat → Prop} {i : Nat} {o : Oper} {a : Act} {w w' : World} {Q : Exit → Act → World → Prop} {u : Value}
/-- An operation that writes, but keeps what the others left. -/
theorem lstep_keep (hA : LAt ops n fs I c a0 L i a w) (hic : i ≠ c) (hr : (execOp a.eval o).run P w = .ok (.value u) w') (hI : ∀ b, I b w → I b w') (hk : ∀ f, f i = got o u → (∀ j, L j → f j = valOf ops a j) → (fvAt fs i).p f w') (hkeep : ∀ j, L j → (fvAt fs j).p (valOf ops a) w → (fvAt fs j).p (valOf ops a) w') : Oper.wp P o a w (LPost ops fs I c L i o a w) Q := by
  unfold Oper.wp
  rw [hr]
  exact ⟨u, rfl, ⟨fun h => hI _ (hA.yes (h.resolve_left hic)), fun h => hI _ (hA.no (fun h2 => h (.inr h2)))⟩, hk, hkeep⟩
/-- The store that turns it. -/
theorem lstep_setc (_ : LAt ops n fs I c a0 L i a w) (hic : i = c) (hd : o.dst = none) (hr : (execOp a.eval o).run P w = .ok .skip w') (hI : I true w') (hk : ∀ f, (∀ j, L j → f j = valOf ops a j) → (fvAt fs i).p f w') (hkeep : ∀ j, L j → (fvAt fs j).p (valOf ops a) w → (fvAt fs j).p (valOf ops a) w') : Oper.wp P o a w (LPost ops fs I c L i o a w) Q := by
  unfold Oper.wp
  rw [hr]
  exact ⟨undef, by rw [hd], ⟨fun _ => hI, fun h => absurd (.inl hic) h⟩, fun f _ hL => hk f hL, hkeep⟩
end
/-- A row of its own, apart from operation j's. -/
def Fv.apart (i j n0 : Nat) (v : Value) (ys : List Int) : Fv :=
  ⟨[i, j], fun f w => IntRow w (f i) ys ∧ (∀ g, (f i).ownBlock = some g → v.ownBlock = some g ∨ n0 ≤ g) ∧ ∀ g, (f i).ownBlock = some g → (f j).ownBlock ≠ some g,
    fun f g w h ⟨h1, h2, h3⟩ => by rw [← h i (by simp), ← h j (by simp)]; exact ⟨h1, h2, h3⟩, fun _ _ _ ⟨h1, h2, h3⟩ k => ⟨h1.gr k, h2, h3⟩⟩
/-- The cells of a block, one of which holds what operation j left. -/
def Fv.cells (j g n i : Nat) (vs : Nat → Value) : Fv :=
  ⟨[j], fun f w => ∀ l, l < n → w.cell? ⟨g, l, none⟩ = some (updA vs i (f j) l) ∧ w.frozen? ⟨g, l, none⟩ = false,
    fun f f' w h k => by rw [← h j (by simp)]; exact k, fun _ _ _ h k l hl => ⟨k.cell (h l hl).1, by rw [k.frozen (p := ⟨g, l, none⟩) (cell_lt (h l hl).1)]; exact (h l hl).2⟩⟩
/-- In the midst: what may have been written; both old rows stand. -/
structure TwoRow (wr : World) (v1 v2 : Value) (xs ys : List Int) (g : Nat) (b : Bool) (u : World) : Prop where
  sav : Sav (fun q => v1.ownBlock = some q ∨ v2.ownBlock = some q ∨ (b = true ∧ q = g)) wr u
  r1 : IntRow u v1 xs
  r2 : IntRow u v2 ys
section
variable {wr u u' : World} {v1 v2 : Value} {xs ys : List Int} {g : Nat} {b : Bool}
theorem TwoRow.gr (h : TwoRow wr v1 v2 xs ys g b u) (k : Gr u u') : TwoRow wr v1 v2 xs ys g b u' := ⟨h.sav.then (.of_gr k), h.r1.gr k, h.r2.gr k⟩
theorem TwoRow.app1 (h : TwoRow wr v1 v2 xs ys g b u) (ha : ∀ q, v1.ownBlock = some q → v2.ownBlock ≠ some q) (k : Sav (fun q => v1.ownBlock = some q) u u') (hr : IntRow u' v1 xs) : TwoRow wr v1 v2 xs ys g b u' :=
  ⟨h.sav.then (k.mono fun _ hq => .inl hq), hr, Row.sav h.r2 k fun q e e2 => ha q e2 e⟩
theorem TwoRow.app2 (h : TwoRow wr v1 v2 xs ys g b u) (ha : ∀ q, v1.ownBlock = some q → v2.ownBlock ≠ some q) (k : Sav (fun q => v2.ownBlock = some q) u u') (hr : IntRow u' v2 ys) : TwoRow wr v1 v2 xs ys g b u' :=
  ⟨h.sav.then (k.mono fun _ hq => .inr (.inl hq)), Row.sav h.r1 k fun q e e2 => ha q e e2, hr⟩
theorem TwoRow.set (h : TwoRow wr v1 v2 xs ys g false u) (h1 : v1.ownBlock ≠ some g) (h2 : v2.ownBlock ≠ some g) (i : Nat) (v : Value) : TwoRow wr v1 v2 xs ys g true (u.setCell ⟨g, i, none⟩ v) := by
  have k : Sav (fun q => q = g) u (u.setCell ⟨g, i, none⟩ v) := .set g i v
  exact ⟨(h.sav.mono fun q hq => hq.imp id (fun e => e.imp id (fun e => absurd e.1 (by decide)))).then (k.mono fun q hq => .inr (.inr ⟨rfl, hq⟩)), Row.sav h.r1 k fun q e e2 => h1 (by rw [e, e2]), Row.sav h.r2 k fun q e e2 => h2 (by rw [e, e2])⟩
end
section
variable {ev : Operand → Value} {o : Oper} {w : World} {x y : Operand}
theorem sr_store {ad : Addr} {v v0 : Value} {a : Option Addr} {m c : Nat} (ho : o.op = .store 28 x y) (h : ev x = .pointer (some ad)) (k : ev y = v) (hv : v = .slice a m c) (hc : w.cell? ad = some v0) (hf : w.frozen? ad = false) : (execOp ev o).run Tryd.prog w = .ok .skip (w.setCell ad v) := by
  subst hv
  simp [execOp, ho, h, k, hc, hf, go_sem]
theorem sr_fa_millraceref_cell_0 {p o' : Nat} (ho : o.op = .fieldAddr 54 x 0) (h : ev x = .pointer (some ⟨p, o', none⟩)) : (execOp ev o).run Tryd.prog w = .ok (.value (.pointer (some ⟨p, o', none⟩))) w := by
  simp [execOp, ho, h, go_sem]
theorem sr_fa_millraceref_cell_2 {p o' : Nat} (ho : o.op = .fieldAddr 54 x 2) (h : ev x = .pointer (some ⟨p, o', none⟩)) : (execOp ev o).run Tryd.prog w = .ok (.value (.pointer (some ⟨p, o' + 2, none⟩))) w := by
  simp [execOp, ho, h, go_sem]
theorem sr_fa_millraceref_cell_3 {p o' : Nat} (ho : o.op = .fieldAddr 54 x 3) (h : ev x = .pointer (some ⟨p, o', none⟩)) : (execOp ev o).run Tryd.prog w = .ok (.value (.pointer (some ⟨p, o' + 3, none⟩))) w := by
  simp [execOp, ho, h, go_sem]
end
end Go.Proofs.YtfdmmfjheiiiiaaDoor

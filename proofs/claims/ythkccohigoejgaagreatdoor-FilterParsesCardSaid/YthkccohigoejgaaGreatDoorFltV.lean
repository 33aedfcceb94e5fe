/-
  A filter as the program has it; the reader of words; its take and fail, walked.
-/
import Derived.Test.YthkccohigoejgaaGreatDoorFltE
import Derived.Test.YthkccohigoejgaaGreatDoorRowN
import Derived.BigQuiet
namespace Go.Proofs.YthkccohigoejgaaGreatDoor
open Go Go.RowKit

def isStr (v : Value) : Prop := ∃ x, v = Value.string x
def isIf (v : Value) : Prop := v = .nilIface ∨ ∃ t x, v = .iface t x
/-- v is a slice that holds the filters vs. -/
def IfRow (w : World) (v : Value) (vs : List Value) : Prop := Row 29 1 isIf w v vs.length vs
/-- v is the filter f; S has all its blocks. -/
def FltV (S : Nat → Prop) : Nat → World → Value → Flt → Prop
  | 0, _, _, _ => False
  | d + 1, w, v, f => match f with
    | .any => v = .iface 65 (.agg #[])
    | .test i lo hi => v = .iface 85 (.agg #[.int .i64 (i : Int), .int .i64 lo, .int .i64 hi, .bool false]) ∧ i < 5 ∧ (0 ≤ lo ∧ lo ≤ 1000000000) ∧ (0 ≤ hi ∧ hi ≤ 1000000000)
    | .has i lo => v = .iface 85 (.agg #[.int .i64 (i : Int), .int .i64 lo, .int .i64 lo, .bool true]) ∧ i < 5 ∧ (0 ≤ lo ∧ lo ≤ 1000000000)
    | .not g => ∃ u, v = .iface 67 (.agg #[u]) ∧ FltV S d w u g
    | .many l o => ∃ s vs, v = .iface 83 (.agg #[s, .bool o]) ∧ IfRow w s vs ∧ (∀ g, s.ownBlock = some g → S g) ∧ vs.length = l.length ∧ 0 < l.length ∧ l.length ≤ 2001 ∧ ∀ i, i < l.length → FltV S d w (vs.getD i .nilIface) (l.getD i .any)
theorem FltV.same {S : Nat → Prop} : ∀ {d : Nat} {w w' : World} {v : Value} {f : Flt}, FltV S d w v f → (∀ g, S g → w'.heap[g]? = w.heap[g]?) → FltV S d w' v f
  | 0, _, _, _, _, h, _ => h.elim
  | d + 1, w, w', v, f, h, hk => by
    cases f with
    | any => exact h
    | test i lo hi => exact h
    | has i lo => exact h
    | not g =>
      obtain ⟨u, h1, h2⟩ := h
      exact ⟨u, h1, h2.same hk⟩
    | many l o =>
      obtain ⟨s, vs, h1, h2, h3, h4, h5, h6, h7⟩ := h
      exact ⟨s, vs, h1, Row.same h2 fun g hg => hk g (h3 g hg), h3, h4, h5, h6, fun i hi => (h7 i hi).same hk⟩
theorem FltV.mono {S S' : Nat → Prop} (hS : ∀ g, S g → S' g) : ∀ {d : Nat} {w : World} {v : Value} {f : Flt}, FltV S d w v f → FltV S' d w v f
  | 0, _, _, _, h => h.elim
  | d + 1, w, v, f, h => by
    cases f with
    | any => exact h
    | test i lo hi => exact h
    | has i lo => exact h
    | not g =>
      obtain ⟨u, h1, h2⟩ := h
      exact ⟨u, h1, h2.mono hS⟩
    | many l o =>
      obtain ⟨s, vs, h1, h2, h3, h4, h5, h6, h7⟩ := h
      exact ⟨s, vs, h1, h2, fun g hg => hS g (h3 g hg), h4, h5, h6, fun i hi => (h7 i hi).mono hS⟩
/-- A filter is an interface value that is not nil. -/
theorem FltV.iface {S : Nat → Prop} : ∀ {d : Nat} {w : World} {v : Value} {f : Flt}, FltV S d w v f → ∃ t x, v = .iface t x
  | 0, _, _, _, h => h.elim
  | d + 1, w, v, f, h => by
    cases f with
    | any => exact ⟨_, _, h⟩
    | test i lo hi => exact ⟨_, _, h.1⟩
    | has i lo => exact ⟨_, _, h.1⟩
    | not g => obtain ⟨u, h1, _⟩ := h; exact ⟨_, _, h1⟩
    | many l o => obtain ⟨s, vs, h1, _⟩ := h; exact ⟨_, _, h1⟩

def tok0 : Tok := (⟨#[]⟩, 0)
/-- The reader, at the word k of L; all its blocks are older than m. -/
structure Rd (w0 w : World) (r m : Nat) (L : List Tok) (k : Nat) (e : Int) : Prop where
  ws : ∃ a c, w.cell? ⟨r, 0, none⟩ = some (.slice a L.length c) ∧ (0 < L.length → ∃ b o, a = some ⟨b, o, none⟩ ∧ b ≠ r ∧ b < m ∧ ∀ i, i < L.length → w.cell? ⟨b, o + i, none⟩ = some (.string (L.getD i tok0).1))
  ps : ∃ a c, w.cell? ⟨r, 1, none⟩ = some (.slice a L.length c) ∧ (0 < L.length → ∃ b o, a = some ⟨b, o, none⟩ ∧ b ≠ r ∧ b < m ∧ ∀ i, i < L.length → w.cell? ⟨b, o + i, none⟩ = some (.int .i64 (L.getD i tok0).2))
  c2 : w.cell? ⟨r, 2, none⟩ = some (.int .i64 (k : Int))
  c3 : w.cell? ⟨r, 3, none⟩ = some (.int .i64 e)
  fz : w.frozen? ⟨r, 2, none⟩ = false
  hk : k ≤ L.length
  hl : L.length ≤ 2001
  sz : ∀ t ∈ L, t.1.size ≤ 2001
  rm : r < m
  ms : m ≤ w.heap.size
  gr : Gr w0 w
  fr : w0.heap.size ≤ r
theorem Rd.old {w0 w w' : World} {r m k : Nat} {L : List Tok} {e : Int} (h : Rd w0 w r m L k e) (hb : ∀ q, q < m → w'.heap[q]? = w.heap[q]?) (hs : w.heap.size ≤ w'.heap.size) (g : Gr w0 w') : Rd w0 w' r m L k e := by
  have hc : ∀ {b o : Nat} {v : Value}, b < m → w.cell? ⟨b, o, none⟩ = some v → w'.cell? ⟨b, o, none⟩ = some v := fun {b o v} hm hc => by
    unfold World.cell? at hc ⊢
    rw [hb b hm]
    exact hc
  obtain ⟨a, c, h1, h2⟩ := h.ws
  obtain ⟨a', c', h3, h4⟩ := h.ps
  refine ⟨⟨a, c, hc h.rm h1, fun h0 => ?_⟩, ⟨a', c', hc h.rm h3, fun h0 => ?_⟩, hc h.rm h.c2, hc h.rm h.c3, ?_, h.hk, h.hl, h.sz, h.rm, Nat.le_trans h.ms hs, g, h.fr⟩
  · obtain ⟨b, o, e1, e2, e3, e4⟩ := h2 h0
    exact ⟨b, o, e1, e2, e3, fun i hi => hc e3 (e4 i hi)⟩
  · obtain ⟨b, o, e1, e2, e3, e4⟩ := h4 h0
    exact ⟨b, o, e1, e2, e3, fun i hi => hc e3 (e4 i hi)⟩
  · have := h.fz
    unfold World.frozen? at this ⊢
    rw [hb r h.rm]
    exact this
theorem Rd.gr' {w0 w w' : World} {r m k : Nat} {L : List Tok} {e : Int} (h : Rd w0 w r m L k e) (g : Gr w w') : Rd w0 w' r m L k e :=
  h.old (fun _ hq => g.block (Nat.lt_of_lt_of_le hq h.ms)) g.size (h.gr.trans g)
theorem Rd.move {w0 w : World} {r m k : Nat} {L : List Tok} {e : Int} (h : Rd w0 w r m L k e) (hk : k < L.length) {x : Int} (hx : x = (k : Int) + 1) : Rd w0 (w.setCell ⟨r, 2, none⟩ (.int .i64 x)) r m L (k + 1) e := by
  have hc : ∀ {b o : Nat} {v : Value}, (b, o) ≠ (r, 2) → w.cell? ⟨b, o, none⟩ = some v → (w.setCell ⟨r, 2, none⟩ (.int .i64 x)).cell? ⟨b, o, none⟩ = some v := fun {b o v} hm hc => by
    rw [World.cell?_setCell_other _ _ _ _ (fun e => hm (by injection e with e1 e2; rw [e1, e2]))]
    exact hc
  obtain ⟨a, c, h1, h2⟩ := h.ws
  obtain ⟨a', c', h3, h4⟩ := h.ps
  refine ⟨⟨a, c, hc (by simp) h1, fun h0 => ?_⟩, ⟨a', c', hc (by simp) h3, fun h0 => ?_⟩, ?_, hc (by simp) h.c3, ?_, hk, h.hl, h.sz, h.rm, ?_, h.gr.setCell h.fr _, h.fr⟩
  · obtain ⟨b, o, e1, e2, e3, e4⟩ := h2 h0
    exact ⟨b, o, e1, e2, e3, fun i hi => hc (fun e => e2 (Prod.mk.inj e).1) (e4 i hi)⟩
  · obtain ⟨b, o, e1, e2, e3, e4⟩ := h4 h0
    exact ⟨b, o, e1, e2, e3, fun i hi => hc (fun e => e2 (Prod.mk.inj e).1) (e4 i hi)⟩
  · rw [World.cell?_setCell_same _ _ _ h.c2, hx]; rfl
  · simpa using h.fz
  · simpa using h.ms
theorem Rd.drop {w0 w : World} {r m k : Nat} {L : List Tok} {e : Int} (_ : Rd w0 w r m L k e) (hk : k < L.length) : L.drop k = L.getD k tok0 :: L.drop (k + 1) := by
  rw [List.drop_eq_getElem_cons hk, List.getD_eq_getElem?_getD, List.getElem?_eq_getElem hk]
  rfl
theorem Rd.mem {w0 w : World} {r m k : Nat} {L : List Tok} {e : Int} (h : Rd w0 w r m L k e) (hk : k < L.length) : (L.getD k tok0).1.size ≤ 2001 := by
  refine h.sz _ ?_
  rw [List.getD_eq_getElem?_getD, List.getElem?_eq_getElem hk]
  exact List.getElem_mem hk
end Go.Proofs.YthkccohigoejgaaGreatDoor

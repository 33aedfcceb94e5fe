/-
  Books in memory: the program's, the reference's; what their steps keep of each other.
-/
import Derived.Test.YticifnegoacopaaGreatDoorBokM
import Derived.Test.YticifnegoacopaaGreatDoorBokU
import Derived.Test.YticifnegoacopaaGreatDoorRowN
import Derived.Lib.AppendStr
namespace Go.Proofs.YticifnegoacopaaGreatDoor
open Go Go.RowKit

/-- Kept: all but block p, what is bad and no older than n0. -/
structure Kp (bad : Obj → Prop) (n0 p : Nat) (w w' : World) : Prop where
  os : w'.os = w.os
  tape : w'.tape = w.tape
  output : w'.output = w.output
  size : w.heap.size ≤ w'.heap.size
  block : ∀ k o, w.heap[k]? = some o → k ≠ p → (k < n0 ∨ ¬ bad o) → w'.heap[k]? = some o
section
variable {bad : Obj → Prop} {n0 p : Nat} {u w w' w'' : World}
theorem Kp.trans (h : Kp bad n0 p w w') (k : Kp bad n0 p w' w'') : Kp bad n0 p w w'' :=
  ⟨k.os.trans h.os, k.tape.trans h.tape, k.output.trans h.output, Nat.le_trans h.size k.size, fun q o h1 h2 h3 => k.block q o (h.block q o h1 h2 h3) h2 h3⟩
theorem Kp.of_gr (h : Gr w w') : Kp bad n0 p w w' := ⟨h.os, h.tape, h.output, h.size, fun q o h1 _ _ => (h.block (Array.getElem?_eq_some_iff.1 h1).1).trans h1⟩
theorem Kp.refl (w : World) : Kp bad n0 p w w := Kp.of_gr (Gr.refl w)
theorem Kp.gr (h : Kp bad n0 p w w') (g : Gr u w) (hn : u.heap.size ≤ n0) (hp : n0 ≤ p) : Gr u w' :=
  ⟨h.os.trans g.os, h.tape.trans g.tape, h.output.trans g.output, Nat.le_trans g.size h.size, fun q hq => by
    have h1 : w.heap[q]? = u.heap[q]? := g.block hq
    have h2 : u.heap[q]? = some u.heap[q] := Array.getElem?_eq_getElem hq
    rw [h2] at h1 ⊢
    exact h.block q _ h1 (by omega) (.inl (by omega))⟩
theorem Kp.set (w : World) (o : Nat) (v : Value) : Kp bad n0 p w (w.setCell ⟨p, o, none⟩ v) :=
  ⟨rfl, rfl, rfl, Nat.le_of_eq (by simp), fun q o h1 h2 _ => (Below.heap_setCell w ⟨p, _, none⟩ v q h2).trans h1⟩
/-- What only turned a bad block, or made new ones. -/
theorem Kp.grown {row : Option Nat} (h : w.grownBy w' row) (hb : ∀ g, row = some g → n0 ≤ g ∧ (g = p ∨ ∀ o, w.heap[g]? = some o → bad o)) : Kp bad n0 p w w' :=
  ⟨h.os, h.tape, h.output, h.size, fun q o h1 h2 h3 => (h.block q (Array.getElem?_eq_some_iff.1 h1).1 fun e => by
    obtain ⟨h4, h5⟩ := hb q (by rw [e])
    rcases h5 with h5 | h5
    · exact h2 h5
    · rcases h3 with h3 | h3
      · omega
      · exact h3 (h5 o h1)).trans h1⟩
end
def badB : Obj → Prop
  | .cells _ T _ => T = 5
  | .map _ _ => True
  | _ => False
def badR : Obj → Prop
  | .cells _ T _ => T = 61
  | _ => False
theorem jfrom_size {L : List Ent} (h : ∀ e, e ∈ L → e.1.size ≤ 12 ∧ Bd e.2) : ∀ k, k + L.length ≤ 1000 → (jfrom k L).size ≤ L.length * 100 := by
  induction L with
  | nil => intro k _; simp [jfrom]; rfl
  | cons e L ih =>
    intro k hk
    rw [List.length_cons] at hk
    have h1 := ih (fun x hx => h x (List.mem_cons_of_mem _ hx)) (k + 1) (by omega)
    have h2 := h e (by simp)
    have z1 := txt_size (k := (k : Int)) (by unfold Bd; omega)
    have z2 := txt_size h2.2
    have z3 := txt_size (chk_size (chkTo_bd (body k e) (body k e).size))
    have e3 : kSp.size = 1 := rfl
    have e4 : kNl.size = 1 := rfl
    have hb : (body k e).size ≤ 56 := by
      unfold body
      simp only [ByteArray.size_append, e3]
      omega
    have hj : (jline (k : Int) e).size ≤ 100 := by
      unfold jline
      simp only [ByteArray.size_append, e3, e4]
      omega
    simp only [jfrom, ByteArray.size_append, List.length_cons]
    omega
/-- Entries that a book may have. -/
def EntOk (L : List Ent) : Prop := L.length ≤ 500 ∧ ∀ e, e ∈ L → e.1.size ≤ 12 ∧ 1 ≤ e.2 ∧ e.2 ≤ 1000000
theorem EntOk.nil : EntOk [] := ⟨by simp, fun e h => by cases h⟩
theorem EntOk.size {L : List Ent} (h : EntOk L) : (journal L).size ≤ 50000 := by
  have h1 := h.1
  have := jfrom_size (L := L) (fun e he => ⟨(h.2 e he).1, by have := h.2 e he; unfold Bd; omega⟩) 0 (by omega)
  unfold journal
  omega
theorem nameOk_size {s : ByteArray} (h : nameOk s = true) : s.size ≤ 12 := by
  unfold nameOk at h
  simp only [Bool.and_eq_true, decide_eq_true_eq] at h
  omega
theorem addC_zero {L : List Ent} {s : ByteArray} {n : Int} (h : addC L s n = 0) : nameOk s = true ∧ 1 ≤ n ∧ n ≤ 1000000 ∧ L.length < 500 := by
  unfold addC at h
  split at h
  · cases h
  · split at h
    · cases h
    · split at h
      · cases h
      · rename_i h1 h2 h3
        refine ⟨by simpa using h1, by omega, by omega, by omega⟩
theorem EntOk.snoc {L : List Ent} {s : ByteArray} {n : Int} (h : EntOk L) (ha : addC L s n = 0) : EntOk (L ++ [(s, n)]) := by
  obtain ⟨h1, h2, h3, h4⟩ := addC_zero ha
  refine ⟨by rw [List.length_append, List.length_singleton]; omega, fun e he => ?_⟩
  rcases List.mem_append.1 he with he | he
  · exact h.2 e he
  · rw [List.mem_singleton] at he
    subst he
    exact ⟨nameOk_size h1, h2, h3⟩
theorem EntOk.get {L : List Ent} (h : EntOk L) (s : ByteArray) : 0 ≤ getN L s ∧ getN L s ≤ 500000000 := by
  have h1 := h.1
  have := getN_bd (L := L) (fun e he => by have := h.2 e he; omega) s
  have : (L.length : Int) * 1000000 ≤ 500 * 1000000 := by omega
  omega
/-- Block p is the program's book with the entries L, the first s bytes of whose journal are sure. -/
structure BokAt (w : World) (n0 p : Nat) (L : List Ent) (s : Nat) (mv dv : Value) : Prop where
  blk : w.heap[p]? = some (.cells #[mv, .int .i64 (L.length : Int), dv, .int .i64 (s : Int)] 28 (0, 0))
  low : n0 ≤ p
  old : n0 ≤ w.heap.size
  data : w.ownsRow n0 5 1 dv (journal L).size (Lib.strCells (journal L))
  map : (mv = .map none ∧ L = []) ∨ ∃ b, mv = .map (some b) ∧ n0 ≤ b ∧ MapS w b L
  ok : EntOk L
  sure : s ≤ (journal L).size
def Bok (w : World) (n0 p : Nat) (L : List Ent) (s : Nat) : Prop := ∃ mv dv, BokAt w n0 p L s mv dv
def eflat (L : List Ent) : List Value := L.flatMap fun e => [.string e.1, .int .i64 e.2]
theorem eflat_len (L : List Ent) : (eflat L).length = L.length * 2 := by
  induction L with
  | nil => rfl
  | cons e L ih =>
    simp only [eflat, List.flatMap_cons, List.length_append, List.length_cons, List.length_nil] at ih ⊢
    omega
theorem eflat_snoc (L : List Ent) (e : Ent) : eflat (L ++ [e]) = eflat L ++ [.string e.1, .int .i64 e.2] := by simp [eflat]
theorem eflat_at : ∀ {L : List Ent} {i : Nat} {e : Ent}, L[i]? = some e → (eflat L)[i * 2]? = some (.string e.1) ∧ (eflat L)[i * 2 + 1]? = some (.int .i64 e.2)
  | e' :: L, 0, e, h => by
    obtain rfl := Option.some.inj h
    exact ⟨rfl, rfl⟩
  | e' :: L, i + 1, e, h => by
    have := eflat_at (L := L) (i := i) (e := e) (by simpa using h)
    rw [show (i + 1) * 2 = i * 2 + 1 + 1 from by omega]
    simpa [eflat] using this
/-- Block r is the reference's book with the entries L. -/
structure RBokAt (w : World) (n0 r : Nat) (L : List Ent) (v : Value) : Prop where
  blk : w.heap[r]? = some (.cells #[v] 32 (0, 0))
  low : n0 ≤ r
  old : n0 ≤ w.heap.size
  row : Row 61 2 (fun _ => True) w v L.length (eflat L)
  own : ∀ g, v.ownBlock = some g → n0 ≤ g
  ok : EntOk L
def RBok (w : World) (n0 r : Nat) (L : List Ent) : Prop := ∃ v, RBokAt w n0 r L v
section
variable {w w' : World} {n0 p r s : Nat} {L M : List Ent} {mv dv v : Value}
theorem ownsRow_same {base n : Nat} {E : TypeId} {k : Nat} {xs : List Value} (h : w.ownsRow base E k v n xs) (hk : ∀ g, v.ownBlock = some g → w'.heap[g]? = w.heap[g]?) : w'.ownsRow base E k v n xs := by
  refine ⟨h.1, ?_⟩
  rcases h.2 with h0 | ⟨g, cap, cur, rfl, h1, hh, rest⟩
  · exact .inl h0
  · exact .inr ⟨g, cap, cur, rfl, h1, (hk g rfl).trans hh, rest⟩
theorem BokAt.gr (h : BokAt w n0 p L s mv dv) (k : Gr w w') : BokAt w' n0 p L s mv dv := by
  refine ⟨(k.block (Array.getElem?_eq_some_iff.1 h.blk).1).trans h.blk, h.low, Nat.le_trans h.old k.size, ownsRow_same h.data fun g hg => ?_, h.map.imp id ?_, h.ok, h.sure⟩
  · rcases h.data.2 with ⟨e, _⟩ | ⟨g', _, _, e, _, hh, _⟩
    · rw [e] at hg; cases hg
    · rw [e] at hg
      obtain rfl := Option.some.inj hg
      exact k.block (Array.getElem?_eq_some_iff.1 hh).1
  · rintro ⟨b, e, hb, hm⟩
    exact ⟨b, e, hb, hm.block (k.block hm.lt)⟩
/-- The reference's steps keep it. -/
theorem BokAt.keep (h : BokAt w n0 p L s mv dv) (hr : RBokAt w n0 r M v) (k : Kp badR n0 r w w') : BokAt w' n0 p L s mv dv := by
  have hrb := hr.blk
  have hpr : p ≠ r := fun e => by
    have := h.blk
    rw [e, hrb] at this
    injection this with e1
    injection e1 with _ e2
    exact absurd e2 (by decide)
  refine ⟨k.block p _ h.blk hpr (.inr fun hb => absurd (show (28 : TypeId) = 61 from hb) (by decide)), h.low, Nat.le_trans h.old k.size, ownsRow_same h.data fun g hg => ?_, h.map.imp id ?_, h.ok, h.sure⟩
  · rcases h.data.2 with ⟨e, _⟩ | ⟨g', _, cur, e, _, hh, _⟩
    · rw [e] at hg; cases hg
    · rw [e] at hg
      obtain rfl := Option.some.inj hg
      rw [hh]
      refine k.block _ _ hh (fun e => ?_) (.inr fun hb => absurd (show (5 : TypeId) = 61 from hb) (by decide))
      rw [show g' = r from e, hrb] at hh
      injection hh with e1
      injection e1 with _ e2
      exact absurd e2 (by decide)
  · rintro ⟨b, e, hb, hm⟩
    obtain ⟨es, clock, h1⟩ := hm.isMap
    refine ⟨b, e, hb, hm.block ?_⟩
    rw [h1]
    refine k.block b _ h1 (fun e => ?_) (.inr fun hb => hb)
    rw [e, hrb] at h1
    cases h1
theorem RBokAt.gr (h : RBokAt w n0 r L v) (k : Gr w w') : RBokAt w' n0 r L v :=
  ⟨(k.block (Array.getElem?_eq_some_iff.1 h.blk).1).trans h.blk, h.low, Nat.le_trans h.old k.size, Row.gr h.row k, h.own, h.ok⟩
/-- The program's steps keep it. -/
theorem RBokAt.keep (h : RBokAt w n0 r L v) (hp : BokAt w n0 p M s mv dv) (k : Kp badB n0 p w w') : RBokAt w' n0 r L v := by
  have hpb := hp.blk
  have hpr : r ≠ p := fun e => by
    have := h.blk
    rw [e, hpb] at this
    injection this with e1
    injection e1 with _ e2
    exact absurd e2 (by decide)
  refine ⟨k.block r _ h.blk hpr (.inr fun hb => absurd (show (32 : TypeId) = 5 from hb) (by decide)), h.low, Nat.le_trans h.old k.size, Row.same h.row fun g hg => ?_, h.own, h.ok⟩
  rcases h.row.2 with ⟨e, _⟩ | ⟨g', _, _, cur, e, hh, _⟩
  · rw [e] at hg; cases hg
  · rw [e] at hg
    obtain rfl := Option.some.inj hg
    rw [hh]
    refine k.block _ _ hh (fun e => ?_) (.inr fun hb => absurd (show (61 : TypeId) = 5 from hb) (by decide))
    rw [show g' = p from e, hpb] at hh
    injection hh with e1
    injection e1 with _ e2
    exact absurd e2 (by decide)
end
end Go.Proofs.YticifnegoacopaaGreatDoor

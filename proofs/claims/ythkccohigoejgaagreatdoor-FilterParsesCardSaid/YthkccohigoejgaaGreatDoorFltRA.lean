/-
  The reference's parser: what it has; here, fail, is, walked.
-/
import Derived.Test.YthkccohigoejgaaGreatDoorFltY
import Derived.BigGuardPart
namespace Go.Proofs.YthkccohigoejgaaGreatDoor
open Go Go.RowKit

/-- The parser at the words L, with the fault c at pl; all its blocks are older than m. -/
structure RP (w0 w : World) (p m : Nat) (L : List Tok) (e c pl : Int) : Prop where
  ls : ∃ a k, w.cell? ⟨p, 0, none⟩ = some (.slice a L.length k) ∧ L.length ≤ k ∧ k ≤ 9223372036854775807 ∧ (0 < L.length → ∃ b o, a = some ⟨b, o, none⟩ ∧ b ≠ p ∧ b < m ∧ ∀ i, i < L.length → w.cell? ⟨b, o + i * 2, none⟩ = some (.string (L.getD i tok0).1) ∧ w.cell? ⟨b, o + i * 2 + 1, none⟩ = some (.int .i64 (L.getD i tok0).2))
  c1 : w.cell? ⟨p, 1, none⟩ = some (.int .i64 e)
  c2 : w.cell? ⟨p, 2, none⟩ = some (.int .i64 c)
  c3 : w.cell? ⟨p, 3, none⟩ = some (.int .i64 pl)
  fz : ∀ j, w.frozen? ⟨p, j, none⟩ = false
  hl : L.length ≤ 2001
  sz : ∀ t ∈ L, t.1.size ≤ 2001
  rm : p < m
  ms : m ≤ w.heap.size
  gr : Gr w0 w
  fr : w0.heap.size ≤ p
  okp : c = 0 → pl = -1
theorem RP.old {w0 w w' : World} {p m : Nat} {L : List Tok} {e c pl : Int} (h : RP w0 w p m L e c pl) (hb : ∀ q, q < m → w'.heap[q]? = w.heap[q]?) (hs : w.heap.size ≤ w'.heap.size) (g : Gr w0 w') : RP w0 w' p m L e c pl := by
  have hc : ∀ {b o : Nat} {v : Value}, b < m → w.cell? ⟨b, o, none⟩ = some v → w'.cell? ⟨b, o, none⟩ = some v := fun {b o v} hm hc => by
    unfold World.cell? at hc ⊢
    rw [hb b hm]
    exact hc
  obtain ⟨a, k, h1, h2, h3, h4⟩ := h.ls
  refine ⟨⟨a, k, hc h.rm h1, h2, h3, fun h0 => ?_⟩, hc h.rm h.c1, hc h.rm h.c2, hc h.rm h.c3, fun j => ?_, h.hl, h.sz, h.rm, Nat.le_trans h.ms hs, g, h.fr, h.okp⟩
  · obtain ⟨b, o, e1, e2, e3, e4⟩ := h4 h0
    exact ⟨b, o, e1, e2, e3, fun i hi => ⟨hc e3 (e4 i hi).1, hc e3 (e4 i hi).2⟩⟩
  · have := h.fz j
    unfold World.frozen? at this ⊢
    rw [hb p h.rm]
    exact this
theorem RP.gr' {w0 w w' : World} {p m : Nat} {L : List Tok} {e c pl : Int} (h : RP w0 w p m L e c pl) (g : Gr w w') : RP w0 w' p m L e c pl :=
  h.old (fun _ hq => g.block (Nat.lt_of_lt_of_le hq h.ms)) g.size (h.gr.trans g)
/-- A fault is told. -/
theorem RP.fault {w0 w : World} {p m : Nat} {L : List Tok} {e c pl : Int} (h : RP w0 w p m L e c pl) (c' pl' : Int) (hok : c' = 0 → pl' = -1) : RP w0 ((w.setCell ⟨p, 2, none⟩ (.int .i64 c')).setCell ⟨p, 3, none⟩ (.int .i64 pl')) p m L e c' pl' := by
  have hc : ∀ {b o : Nat} {v : Value}, (b ≠ p ∨ (o ≠ 2 ∧ o ≠ 3)) → w.cell? ⟨b, o, none⟩ = some v → ((w.setCell ⟨p, 2, none⟩ (.int .i64 c')).setCell ⟨p, 3, none⟩ (.int .i64 pl')).cell? ⟨b, o, none⟩ = some v := fun {b o v} hm hc => by
    rw [World.cell?_setCell_other _ _ _ _ (fun e => by injection e with e1 e2; subst e1; subst e2; exact hm.elim (fun h => h rfl) (fun h => h.2 rfl)), World.cell?_setCell_other _ _ _ _ (fun e => by injection e with e1 e2; subst e1; subst e2; exact hm.elim (fun h => h rfl) (fun h => h.1 rfl))]
    exact hc
  obtain ⟨a, k, h1, h2, h3, h4⟩ := h.ls
  refine ⟨⟨a, k, hc (.inr (by decide)) h1, h2, h3, fun h0 => ?_⟩, hc (.inr (by decide)) h.c1, ?_, ?_, fun j => by simpa using h.fz j, h.hl, h.sz, h.rm, by simpa using h.ms, (h.gr.setCell h.fr _).setCell h.fr _, h.fr, hok⟩
  · obtain ⟨b, o, e1, e2, e3, e4⟩ := h4 h0
    exact ⟨b, o, e1, e2, e3, fun i hi => ⟨hc (.inl e2) (e4 i hi).1, hc (.inl e2) (e4 i hi).2⟩⟩
  · rw [World.cell?_setCell_other _ _ _ _ (by simp), World.cell?_setCell_same _ _ _ h.c2]
  · rw [World.cell?_setCell_same _ _ _ (u := .int .i64 pl)]
    rw [World.cell?_setCell_other _ _ _ _ (by simp)]; exact h.c3
/-- The first word is gone. -/
theorem RP.tail {w0 w : World} {p m : Nat} {L : List Tok} {x : Tok} {e c pl : Int} (h : RP w0 w p m (x :: L) e c pl) {v : Value} (hv : ∃ a k, v = .slice a L.length k ∧ L.length ≤ k ∧ k ≤ 9223372036854775807 ∧ (0 < L.length → ∃ b o, a = some ⟨b, o, none⟩ ∧ b ≠ p ∧ b < m ∧ ∀ i, i < L.length → w.cell? ⟨b, o + i * 2, none⟩ = some (.string (L.getD i tok0).1) ∧ w.cell? ⟨b, o + i * 2 + 1, none⟩ = some (.int .i64 (L.getD i tok0).2))) : RP w0 (w.setCell ⟨p, 0, none⟩ v) p m L e c pl := by
  obtain ⟨a, k, rfl, h2, h3, h4⟩ := hv
  obtain ⟨a0, k0, h1, _⟩ := h.ls
  have hc : ∀ {b o : Nat} {u : Value}, (b ≠ p ∨ o ≠ 0) → w.cell? ⟨b, o, none⟩ = some u → (w.setCell ⟨p, 0, none⟩ (.slice a L.length k)).cell? ⟨b, o, none⟩ = some u := fun {b o u} hm hc => by
    rw [World.cell?_setCell_other _ _ _ _ (fun e => by injection e with e1 e2; subst e1; subst e2; exact hm.elim (fun h => h rfl) (fun h => h rfl))]
    exact hc
  refine ⟨⟨a, k, World.cell?_setCell_same _ _ _ h1, h2, h3, fun h0 => ?_⟩, hc (.inr (by decide)) h.c1, hc (.inr (by decide)) h.c2, hc (.inr (by decide)) h.c3, fun j => by simpa using h.fz j, by have := h.hl; simp at this; omega, fun t ht => h.sz t (List.mem_cons_of_mem _ ht), h.rm, by simpa using h.ms, h.gr.setCell h.fr _, h.fr, h.okp⟩
  obtain ⟨b, o, e1, e2, e3, e4⟩ := h4 h0
  exact ⟨b, o, e1, e2, e3, fun i hi => ⟨hc (.inl e2) (e4 i hi).1, hc (.inl e2) (e4 i hi).2⟩⟩
/-- l[1:], as the model has it. -/
theorem RP.cut1 {w0 w : World} {p m : Nat} {L : List Tok} {x : Tok} {e c pl : Int} (h : RP w0 w p m (x :: L) e c pl) : ∃ b o k, w.cell? ⟨p, 0, none⟩ = some (.slice (some ⟨b, o, none⟩) (L.length + 1) k) ∧ w.cell? ⟨b, o, none⟩ = some (.string x.1) ∧ w.cell? ⟨b, o + 1, none⟩ = some (.int .i64 x.2) ∧ b ≠ p ∧ L.length + 1 ≤ k ∧ k ≤ 9223372036854775807 ∧
    ∀ v, v = .slice (some (if k = 1 then ⟨b, o, none⟩ else ⟨b, o + 2, none⟩)) L.length (k - 1) → RP w0 (w.setCell ⟨p, 0, none⟩ v) p m L e c pl := by
  obtain ⟨a, k, h1, h2, h3, h4⟩ := h.ls
  obtain ⟨b, o, rfl, e2, e3, e4⟩ := h4 (by simp)
  have z := e4 0 (by simp)
  refine ⟨b, o, k, h1, by simpa using z.1, by simpa using z.2, e2, h2, h3, ?_⟩
  rintro v rfl
  refine h.tail ⟨_, _, rfl, by simp at h2; omega, by omega, fun h0 => ?_⟩
  rw [if_neg (by simp at h2; omega)]
  refine ⟨b, o + 2, rfl, e2, e3, fun i hi => ?_⟩
  have z2 := e4 (i + 1) (by simp; omega)
  rw [show o + 2 + i * 2 = o + (i + 1) * 2 from by omega]
  exact z2

set_option maxRecDepth 100000 in
set_option maxHeartbeats 2000000 in
theorem here_any {w0 w : World} {p m : Nat} {L : List Tok} {e c pl : Int} (h : RP w0 w p m L e c pl) :
    Calls Tryz.prog 20 #[.pointer (some ⟨p, 0, none⟩)] w fun E w' => E = .returned (.int .i64 (placeOf e L)) ∧ w = w' := by
  have g1 := h.c1
  have hl := h.hl
  cases L with
  | nil =>
    obtain ⟨a, k, g0, _⟩ := h.ls
    clear h
    simp only [List.length_nil] at g0
    go_enter Tryz.func20, Tryz.ntmps20
    go_wp2
    go_ret
    exact ⟨rfl, rfl⟩
  | cons x L =>
    obtain ⟨b, o, k, g0, g2, g3, _, _, _, _⟩ := h.cut1
    clear h
    simp only [List.length_cons] at hl
    obtain ⟨n, hn⟩ : ∃ n, n = L.length := ⟨_, rfl⟩
    rw [← hn] at g0 hl
    have n0 : (0 : Int) ≤ (n : Int) := by omega
    have n1 : (n : Int) ≤ 2000 := by omega
    clear hn
    obtain ⟨x1, x2⟩ := x
    simp only at g2 g3
    go_enter Tryz.func20, Tryz.ntmps20
    go_wp2
    go_ret
    exact ⟨rfl, rfl⟩
set_option maxRecDepth 100000 in
set_option maxHeartbeats 2000000 in
theorem rfail_ok {w0 w : World} {p m : Nat} {L : List Tok} {e pl : Int} (h : RP w0 w p m L e 0 pl) (c : Int) (hc : c ≠ 0 := by decide) :
    Calls Tryz.prog 11 #[.pointer (some ⟨p, 0, none⟩), .int .i64 c] w fun E w' => E = .returned (.tuple #[]) ∧ RP w0 w' p m L e c (placeOf e L) ∧ Sav (fun q => q = p) w w' := by
  have HR := Lib.hid h
  have g2 := h.c2
  have g3 := h.c3
  have f2 := h.fz 2
  have f3 := h.fz 3
  clear h
  go_enter Tryz.func11, Tryz.ntmps11
  go_wp2_with (go_at_call 20; refine (here_any HR.out).mono ?_; rintro E w1 ⟨rfl, rfl⟩)
  go_end0
  exact ⟨rfl, HR.out.fault _ _ (fun e => absurd e hc), (Sav.set p 2 _).then (Sav.set p 3 _)⟩
set_option maxRecDepth 100000 in
set_option maxHeartbeats 2000000 in
theorem rfail_err {w0 w : World} {p m : Nat} {L : List Tok} {e c0 pl : Int} (h : RP w0 w p m L e c0 pl) (hc : c0 ≠ 0) (c : Int) :
    Calls Tryz.prog 11 #[.pointer (some ⟨p, 0, none⟩), .int .i64 c] w fun E w' => E = .returned (.tuple #[]) ∧ w = w' := by
  have g2 := h.c2
  clear h
  go_enter Tryz.func11, Tryz.ntmps11
  go_wp2
  go_end0
  exact ⟨rfl, rfl⟩
end Go.Proofs.YthkccohigoejgaaGreatDoor

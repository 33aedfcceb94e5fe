/-
  The program's Red: its cells, Mean, draw. (Printed by genred.py.)
-/
import Derived.Test.YtbpofdfehcbppaaDoorRedA
import Derived.Test.YtbpofdfehcbppaaDoorFifoB
import Derived.Test.YtbpofdfehcbppaaDoorApp
import Derived.BigQuiet
namespace Go.Proofs.YtbpofdfehcbppaaDoor
open Go.RowKit Go.Extern.Stop Go.Stop Go.Extern

theorem Ints.sav {w w' : World} {v : Value} {xs : List Int} {B : Nat → Prop} (h : Ints w v xs) (k : Sav B w w') (hv : ∀ g, v.ownBlock = some g → ¬ B g) : Ints w' v xs := by
  rcases h with h | ⟨b, off, cap, h1, h2, h3, h4⟩
  · exact .inl h
  · exact .inr ⟨b, off, cap, h1, h2, h3, fun i hi => k.cell (h4 i hi) (hv b (by rw [h1]; rfl))⟩
theorem FifoAt.setc {w : World} {p : Nat} {v : Value} {l : List Hel} {P R : Int} {head : Bool} (h : FifoAt w p v l P R head) (o : Nat) (u : Value) (ho : 5 ≤ o) : FifoAt (w.setCell ⟨p, o, none⟩ u) p v l P R head := by
  have hn : ∀ i, i < 5 → (⟨p, o, none⟩ : Addr) ≠ ⟨p, i, none⟩ := fun i hi e => by injection e with _ e2; omega
  exact ⟨⟨cell_so h.l.c0 (hn _ (by omega)), cell_so h.l.c1 (hn _ (by omega)), by simpa using h.l.f0, by simpa using h.l.f1, h.l.row.sav (.set p o u) (fun g hg e => h.l.ne (by rw [hg, e]))⟩, cell_so h.c2 (hn _ (by omega)), cell_so h.c3 (hn _ (by omega)), cell_so h.c4 (hn _ (by omega))⟩
/-- A Red of the program's at p. -/
structure RedAt (w : World) (p : Nat) (v tv : Value) (q : RedP) (l : List Hel) (m c : Int) (used : Nat) : Prop where
  f : FifoAt w p v l q.P q.R false
  s0 : w.cell? ⟨p, 5, none⟩ = some (.int .i64 q.low)
  s1 : w.cell? ⟨p, 6, none⟩ = some (.int .i64 q.high)
  s2 : w.cell? ⟨p, 7, none⟩ = some (.int .i64 q.often)
  s3 : w.cell? ⟨p, 8, none⟩ = some (.int .i64 (q.slow : Int))
  s4 : w.cell? ⟨p, 9, none⟩ = some (.bool q.mark)
  t : w.cell? ⟨p, 10, none⟩ = some (tv)
  tf : w.frozen? ⟨p, 10, none⟩ = false
  m : w.cell? ⟨p, 11, none⟩ = some (.int .i64 m)
  mf : w.frozen? ⟨p, 11, none⟩ = false
  c : w.cell? ⟨p, 12, none⟩ = some (.int .i64 c)
  cf : w.frozen? ⟨p, 12, none⟩ = false
  tape : Ints w tv (q.tape.drop used)
  ap : ∀ g, tv.ownBlock = some g → g ≠ p ∧ v.ownBlock ≠ some g ∧ g < w.heap.size

section
variable {w w' : World} {p : Nat} {v v' tv tv' : Value} {q : RedP} {l l' : List Hel} {m m' c c' : Int} {used used' : Nat} {B : Nat → Prop}
theorem RedAt.lt (h : RedAt w p v tv q l m c used) : p < w.heap.size := cell_lt h.m
theorem RedAt.sav (h : RedAt w p v tv q l m c used) (k : Sav B w w') (hp : ¬ B p) (hv : ∀ g, v.ownBlock = some g → ¬ B g) (ht : ∀ g, tv.ownBlock = some g → ¬ B g) : RedAt w' p v tv q l m c used :=
  have lt := h.lt
  ⟨h.f.sav k hp hv, k.cell h.s0 hp, k.cell h.s1 hp, k.cell h.s2 hp, k.cell h.s3 hp, k.cell h.s4 hp, k.cell h.t hp, k.frozen (p := ⟨p, 10, none⟩) lt h.tf hp, k.cell h.m hp, k.frozen (p := ⟨p, 11, none⟩) lt h.mf hp, k.cell h.c hp, k.frozen (p := ⟨p, 12, none⟩) lt h.cf hp, h.tape.sav k ht, fun g hg => ⟨(h.ap g hg).1, (h.ap g hg).2.1, Nat.lt_of_lt_of_le (h.ap g hg).2.2 k.size⟩⟩
theorem RedAt.gr (h : RedAt w p v tv q l m c used) (k : Gr w w') : RedAt w' p v tv q l m c used := h.sav (B := fun _ => False) (.of_gr k) id (fun _ _ => id) (fun _ _ => id)
theorem RedAt.set_t (h : RedAt w p v tv q l m c used) (ht : Ints w tv' (q.tape.drop used')) (ho : ∀ g, tv'.ownBlock = some g → tv.ownBlock = some g) : RedAt (w.setCell ⟨p, 10, none⟩ (tv')) p v tv' q l m c used' :=
  ⟨h.f.setc 10 _ (by decide), cell_so h.s0 (by simp), cell_so h.s1 (by simp), cell_so h.s2 (by simp), cell_so h.s3 (by simp), cell_so h.s4 (by simp), cell_ss h.t, by simpa using h.tf, cell_so h.m (by simp), by simpa using h.mf, cell_so h.c (by simp), by simpa using h.cf, ht.sav (.set p 10 _) (fun g hg e => (h.ap g (ho g hg)).1 e), fun g hg => ⟨(h.ap g (ho g hg)).1, (h.ap g (ho g hg)).2.1, by simpa using (h.ap g (ho g hg)).2.2⟩⟩
theorem RedAt.set_m (h : RedAt w p v tv q l m c used) (m' : Int) : RedAt (w.setCell ⟨p, 11, none⟩ (.int .i64 m')) p v tv q l m' c used :=
  ⟨h.f.setc 11 _ (by decide), cell_so h.s0 (by simp), cell_so h.s1 (by simp), cell_so h.s2 (by simp), cell_so h.s3 (by simp), cell_so h.s4 (by simp), cell_so h.t (by simp), by simpa using h.tf, cell_ss h.m, by simpa using h.mf, cell_so h.c (by simp), by simpa using h.cf, h.tape.sav (.set p 11 _) (fun g hg e => (h.ap g hg).1 e), fun g hg => ⟨(h.ap g hg).1, (h.ap g hg).2.1, by simpa using (h.ap g hg).2.2⟩⟩
theorem RedAt.set_c (h : RedAt w p v tv q l m c used) (c' : Int) : RedAt (w.setCell ⟨p, 12, none⟩ (.int .i64 c')) p v tv q l m c' used :=
  ⟨h.f.setc 12 _ (by decide), cell_so h.s0 (by simp), cell_so h.s1 (by simp), cell_so h.s2 (by simp), cell_so h.s3 (by simp), cell_so h.s4 (by simp), cell_so h.t (by simp), by simpa using h.tf, cell_so h.m (by simp), by simpa using h.mf, cell_ss h.c, by simpa using h.cf, h.tape.sav (.set p 12 _) (fun g hg e => (h.ap g hg).1 e), fun g hg => ⟨(h.ap g hg).1, (h.ap g hg).2.1, by simpa using (h.ap g hg).2.2⟩⟩
/-- The Fifo in it was moved. -/
theorem RedAt.fifo (h : RedAt w p v tv q l m c used) (d : FifoDid w w' p v v' l' q.P q.R false) : RedAt w' p v' tv q l' m c used :=
  ⟨d.at_, (d.sav.cell 5 (by decide) (by decide)).trans h.s0, (d.sav.cell 6 (by decide) (by decide)).trans h.s1, (d.sav.cell 7 (by decide) (by decide)).trans h.s2, (d.sav.cell 8 (by decide) (by decide)).trans h.s3, (d.sav.cell 9 (by decide) (by decide)).trans h.s4, (d.sav.cell 10 (by decide) (by decide)).trans h.t, (d.sav.frozen 10).trans h.tf, (d.sav.cell 11 (by decide) (by decide)).trans h.m, (d.sav.frozen 11).trans h.mf, (d.sav.cell 12 (by decide) (by decide)).trans h.c, (d.sav.frozen 12).trans h.cf, h.tape.sav d.sav.sav (fun g hg e => e.elim (h.ap g hg).1 (h.ap g hg).2.1), fun g hg => ⟨(h.ap g hg).1, fun e => (d.own g e).elim (h.ap g hg).2.1 (fun h1 => by have := (h.ap g hg).2.2; omega), Nat.lt_of_lt_of_le (h.ap g hg).2.2 d.sav.sav.size⟩⟩
end
set_option maxRecDepth 100000 in
theorem redmean_any (p : Nat) (m : Int) (k : Nat) (w : World) (c11 : w.cell? ⟨p, 11, none⟩ = some (.int .i64 m)) (c8 : w.cell? ⟨p, 8, none⟩ = some (.int .i64 (k : Int))) (hk : k ≤ 10) :
    Calls Tryd.prog 17 #[.pointer (some ⟨p, 0, none⟩)] w fun e w' => e = .returned (.int .i64 (mean k m)) ∧ Gr w w' := by
  have k0 : (0 : Int) ≤ (k : Int) := by omega
  have k1 : (k : Int) ≤ 10 := by omega
  go_enter Tryd.func17, Tryd.ntmps17
  go_upto_region 1 with fail
  go_quiet (fail)
  go_wp2
  go_ret
  exact ⟨rfl, (Gr.refl _).drewN _⟩
theorem tick_u (z : Int) : wrap64 ((IntKind.u64.wrap z).tmod 1000) = tick z := by
  have h1 := tick_in z
  have h0 : 0 ≤ IntKind.u64.wrap z := by rw [IntKind.wrap_u64]; omega
  rw [Int.tmod_eq_emod_of_nonneg h0, IntKind.wrap_u64]
  unfold tick at *
  unfold wrap64
  omega
set_option maxRecDepth 100000 in
theorem redraw_nil (p : Nat) (tv : Value) (w : World) (c10 : w.cell? ⟨p, 10, none⟩ = some tv) (ht : Ints w tv []) : Calls Tryd.prog 97 #[.pointer (some ⟨p, 0, none⟩)] w fun e w' => e = .returned (.int .i64 0) ∧ Gr w w' := by
  obtain ⟨a, cap, rfl⟩ := ints_shape ht
  rw [List.length_nil] at c10
  clear ht
  go_enter Tryd.func97, Tryd.ntmps97
  go_wp2
  go_ret
  exact ⟨rfl, Gr.refl _⟩
set_option maxRecDepth 100000 in
theorem redraw_cons (p : Nat) (tv : Value) (z : Int) (zs : List Int) (w : World) (c10 : w.cell? ⟨p, 10, none⟩ = some tv) (f10 : w.frozen? ⟨p, 10, none⟩ = false) (ht : Ints w tv (z :: zs)) (hn : zs.length ≤ 1000) : Calls Tryd.prog 97 #[.pointer (some ⟨p, 0, none⟩)] w fun e w' => e = .returned (.int .i64 (tick z)) ∧ ∃ tv', w' = w.setCell ⟨p, 10, none⟩ tv' ∧ Ints w tv' zs ∧ ∀ g, tv'.ownBlock = some g → tv.ownBlock = some g := by
  obtain ⟨b, off, cap, rfl, h1, h2, HC⟩ := ints_cap ht (by simp)
  have y0 := HC.out 0 (by simp)
  rw [Nat.add_zero, List.getD_cons_zero] at y0
  have HT := Lib.hid (fun i (hi : i < zs.length) => (by have := HC.out (i + 1) (by simp; omega); simpa [Nat.add_assoc, Nat.add_comm 1 i] using this : w.cell? ⟨b, off + (i + 1), none⟩ = some (.int .i64 (zs.getD i 0))))
  have HTU := Lib.hid (tick_u z)
  rw [List.length_cons] at *
  have HN := Lib.hid hn
  clear ht HC hn
  go_enter Tryd.func97, Tryd.ntmps97
  go_wp2
  · go_ret
    rw [HTU.out]
    have hz : zs = [] := List.eq_nil_of_length_eq_zero (by omega)
    subst hz
    exact ⟨rfl, _, rfl, .inl ⟨_, _, rfl, rfl⟩, fun g hg => hg⟩
  · go_ret
    rw [HTU.out]
    refine ⟨rfl, _, rfl, ?_, fun g hg => hg⟩
    rcases Nat.eq_zero_or_pos zs.length with h0 | h0
    · have hz : zs = [] := List.eq_nil_of_length_eq_zero h0
      subst hz
      exact .inl ⟨_, _, rfl, rfl⟩
    · exact .inr ⟨b, off + 1, cap - 1, rfl, h0, ⟨by omega, by omega⟩, fun i hi => by have := HT.out i hi; rwa [show off + 1 + i = off + (i + 1) from by omega]⟩
set_option maxRecDepth 100000 in
theorem redraw_any {w : World} {p : Nat} {v tv : Value} {q : RedP} {l : List Hel} {m c : Int} {used : Nat} (h : RedAt w p v tv q l m c used) (ht : q.tape.length ≤ 1000) :
    Calls Tryd.prog 97 #[.pointer (some ⟨p, 0, none⟩)] w fun e w' => e = .returned (.int .i64 (q.draw used)) ∧ ∃ tv', RedAt w' p v tv' q l m c (used + 1) ∧ Sav (fun g => g = p) w w' ∧ ∀ g, tv'.ownBlock = some g → tv.ownBlock = some g := by
  by_cases hu : used < q.tape.length
  · have hd : q.draw used = tick (q.tape.getD used 0) := by unfold RedP.draw; rw [if_pos hu]
    have hc : q.tape.drop used = q.tape.getD used 0 :: q.tape.drop (used + 1) := by
      rw [List.drop_eq_getElem_cons hu, List.getD_eq_getElem?_getD, List.getElem?_eq_getElem hu]; rfl
    rw [hd]
    refine (redraw_cons p tv (q.tape.getD used 0) (q.tape.drop (used + 1)) w h.t h.tf (by rw [← hc]; exact h.tape) (by rw [List.length_drop]; omega)).mono ?_
    rintro e w' ⟨h1, tv', rfl, h2, h3⟩
    exact ⟨h1, tv', h.set_t h2 h3, .set p 10 _, h3⟩
  · have hd : q.draw used = 0 := by unfold RedP.draw; rw [if_neg hu]
    have hn : ∀ k, used ≤ k → q.tape.drop k = [] := fun k hk => List.drop_eq_nil_of_le (by omega)
    have hta := h.tape
    rw [hn used (Nat.le_refl _)] at hta
    rw [hd]
    refine (redraw_nil p tv w h.t hta).mono ?_
    rintro e w' ⟨h1, h2⟩
    have hr := h.gr h2
    exact ⟨h1, tv, ⟨hr.f, hr.s0, hr.s1, hr.s2, hr.s3, hr.s4, hr.t, hr.tf, hr.m, hr.mf, hr.c, hr.cf, by rw [hn _ (Nat.le_succ _)]; exact hta.gr h2, hr.ap⟩, .of_gr h2, fun _ => id⟩
end Go.Proofs.YtbpofdfehcbppaaDoor

/-
  The reference's Red: its cells, Mean. (Printed by genrred.py.)
-/
import Derived.Test.YtbpofdfehcbppaaDoorRedA
import Derived.Test.YtbpofdfehcbppaaDoorRedB
import Derived.Test.YtbpofdfehcbppaaDoorFifoR
import Derived.Test.YtbpofdfehcbppaaDoorApp
import Derived.BigQuiet
namespace Go.Proofs.YtbpofdfehcbppaaDoor
open Go.RowKit Go.Extern.Stop Go.Stop Go.Extern

theorem RFifoAt.setc {w : World} {p : Nat} {v : Value} {l : List Hel} {P R : Int} {head : Bool} (h : RFifoAt w p v l P R head) (o : Nat) (u : Value) (ho : 4 ≤ o) : RFifoAt (w.setCell ⟨p, o, none⟩ u) p v l P R head := by
  have hn : ∀ i, i < 4 → (⟨p, o, none⟩ : Addr) ≠ ⟨p, i, none⟩ := fun i hi e => by injection e with _ e2; omega
  exact ⟨cell_so h.c0 (hn _ (by omega)), cell_so h.c1 (hn _ (by omega)), cell_so h.c2 (hn _ (by omega)), cell_so h.l.c (hn _ (by omega)), by simpa using h.l.f, h.l.row.sav (.set p o u) (fun g hg e => h.l.ne (by rw [hg, e]))⟩
theorem Ints.sav2 {w w' : World} {v : Value} {xs : List Int} {B : Nat → Prop} (h : Ints w v xs) (k : Sav B w w') (hv : ∀ g, xs ≠ [] → v.ownBlock = some g → ¬ B g) : Ints w' v xs := by
  rcases h with h | ⟨b, off, cap, h1, h2, h3, h4⟩
  · exact .inl h
  · exact .inr ⟨b, off, cap, h1, h2, h3, fun i hi => k.cell (h4 i hi) (hv b (fun e => by rw [e] at h2; cases h2) (by rw [h1]; rfl))⟩
/-- A Red of the reference's at p. -/
structure RRedAt (w : World) (p : Nat) (v tv : Value) (q : RedP) (l : List Hel) (m c : Int) (used : Nat) : Prop where
  f : RFifoAt w p v l q.P q.R false
  s0 : w.cell? ⟨p, 4, none⟩ = some (.int .i64 q.low)
  s1 : w.cell? ⟨p, 5, none⟩ = some (.int .i64 q.high)
  s2 : w.cell? ⟨p, 6, none⟩ = some (.int .i64 q.often)
  s3 : w.cell? ⟨p, 7, none⟩ = some (.int .i64 (q.slow : Int))
  s4 : w.cell? ⟨p, 8, none⟩ = some (.bool q.mark)
  t : w.cell? ⟨p, 9, none⟩ = some (tv)
  m : w.cell? ⟨p, 10, none⟩ = some (.int .i64 m)
  mf : w.frozen? ⟨p, 10, none⟩ = false
  c : w.cell? ⟨p, 11, none⟩ = some (.int .i64 c)
  cf : w.frozen? ⟨p, 11, none⟩ = false
  u : w.cell? ⟨p, 12, none⟩ = some (.int .i64 (used : Int))
  uf : w.frozen? ⟨p, 12, none⟩ = false
  tape : Ints w tv q.tape
  ap : ∀ g, q.tape ≠ [] → tv.ownBlock = some g → g ≠ p ∧ v.ownBlock ≠ some g ∧ g < w.heap.size

section
variable {w w' : World} {p : Nat} {v v' tv : Value} {q : RedP} {l l' : List Hel} {m m' c c' : Int} {used u' : Nat} {B : Nat → Prop}
theorem RRedAt.lt (h : RRedAt w p v tv q l m c used) : p < w.heap.size := cell_lt h.m
theorem RRedAt.sav (h : RRedAt w p v tv q l m c used) (k : Sav B w w') (hp : ¬ B p) (hv : ∀ g, v.ownBlock = some g → ¬ B g) (ht : ∀ g, q.tape ≠ [] → tv.ownBlock = some g → ¬ B g) : RRedAt w' p v tv q l m c used :=
  have lt := h.lt
  ⟨h.f.sav k hp hv, k.cell h.s0 hp, k.cell h.s1 hp, k.cell h.s2 hp, k.cell h.s3 hp, k.cell h.s4 hp, k.cell h.t hp, k.cell h.m hp, k.frozen (p := ⟨p, 10, none⟩) lt h.mf hp, k.cell h.c hp, k.frozen (p := ⟨p, 11, none⟩) lt h.cf hp, k.cell h.u hp, k.frozen (p := ⟨p, 12, none⟩) lt h.uf hp, h.tape.sav2 k ht, fun g h0 hg => ⟨(h.ap g h0 hg).1, (h.ap g h0 hg).2.1, Nat.lt_of_lt_of_le (h.ap g h0 hg).2.2 k.size⟩⟩
theorem RRedAt.gr (h : RRedAt w p v tv q l m c used) (k : Gr w w') : RRedAt w' p v tv q l m c used := h.sav (B := fun _ => False) (.of_gr k) id (fun _ _ => id) (fun _ _ _ => id)
theorem RRedAt.set_m (h : RRedAt w p v tv q l m c used) (m' : Int) : RRedAt (w.setCell ⟨p, 10, none⟩ (.int .i64 m')) p v tv q l m' c used :=
  ⟨h.f.setc 10 _ (by decide), cell_so h.s0 (by simp), cell_so h.s1 (by simp), cell_so h.s2 (by simp), cell_so h.s3 (by simp), cell_so h.s4 (by simp), cell_so h.t (by simp), cell_ss h.m, by simpa using h.mf, cell_so h.c (by simp), by simpa using h.cf, cell_so h.u (by simp), by simpa using h.uf, h.tape.sav2 (.set p 10 _) (fun g h0 hg e => (h.ap g h0 hg).1 e), fun g h0 hg => ⟨(h.ap g h0 hg).1, (h.ap g h0 hg).2.1, by simpa using (h.ap g h0 hg).2.2⟩⟩
theorem RRedAt.set_c (h : RRedAt w p v tv q l m c used) (c' : Int) : RRedAt (w.setCell ⟨p, 11, none⟩ (.int .i64 c')) p v tv q l m c' used :=
  ⟨h.f.setc 11 _ (by decide), cell_so h.s0 (by simp), cell_so h.s1 (by simp), cell_so h.s2 (by simp), cell_so h.s3 (by simp), cell_so h.s4 (by simp), cell_so h.t (by simp), cell_so h.m (by simp), by simpa using h.mf, cell_ss h.c, by simpa using h.cf, cell_so h.u (by simp), by simpa using h.uf, h.tape.sav2 (.set p 11 _) (fun g h0 hg e => (h.ap g h0 hg).1 e), fun g h0 hg => ⟨(h.ap g h0 hg).1, (h.ap g h0 hg).2.1, by simpa using (h.ap g h0 hg).2.2⟩⟩
theorem RRedAt.set_u (h : RRedAt w p v tv q l m c used) (u' : Nat) : RRedAt (w.setCell ⟨p, 12, none⟩ (.int .i64 (u' : Int))) p v tv q l m c u' :=
  ⟨h.f.setc 12 _ (by decide), cell_so h.s0 (by simp), cell_so h.s1 (by simp), cell_so h.s2 (by simp), cell_so h.s3 (by simp), cell_so h.s4 (by simp), cell_so h.t (by simp), cell_so h.m (by simp), by simpa using h.mf, cell_so h.c (by simp), by simpa using h.cf, cell_ss h.u, by simpa using h.uf, h.tape.sav2 (.set p 12 _) (fun g h0 hg e => (h.ap g h0 hg).1 e), fun g h0 hg => ⟨(h.ap g h0 hg).1, (h.ap g h0 hg).2.1, by simpa using (h.ap g h0 hg).2.2⟩⟩
theorem RRedAt.fifo (h : RRedAt w p v tv q l m c used) (d : RDid w w' p 3 v v' l') : RRedAt w' p v' tv q l' m c used :=
  ⟨h.f.then d, (d.sav.cell 4 (by decide)).trans h.s0, (d.sav.cell 5 (by decide)).trans h.s1, (d.sav.cell 6 (by decide)).trans h.s2, (d.sav.cell 7 (by decide)).trans h.s3, (d.sav.cell 8 (by decide)).trans h.s4, (d.sav.cell 9 (by decide)).trans h.t, (d.sav.cell 10 (by decide)).trans h.m, (d.sav.frozen 10).trans h.mf, (d.sav.cell 11 (by decide)).trans h.c, (d.sav.frozen 11).trans h.cf, (d.sav.cell 12 (by decide)).trans h.u, (d.sav.frozen 12).trans h.uf, h.tape.sav2 d.sav.sav (fun g h0 hg e => e.elim (h.ap g h0 hg).1 (h.ap g h0 hg).2.1), fun g h0 hg => ⟨(h.ap g h0 hg).1, fun e => (d.own g e).elim (h.ap g h0 hg).2.1 (fun h1 => by have := (h.ap g h0 hg).2.2; omega), Nat.lt_of_lt_of_le (h.ap g h0 hg).2.2 d.sav.sav.size⟩⟩
end
set_option maxRecDepth 100000 in
set_option maxHeartbeats 4000000 in
theorem rredmean_any (p : Nat) (m : Int) (k : Nat) (w : World) (c10 : w.cell? ⟨p, 10, none⟩ = some (.int .i64 m)) (c7 : w.cell? ⟨p, 7, none⟩ = some (.int .i64 (k : Int))) (hk : k ≤ 10) (hm : 0 ≤ m) (hm2 : m ≤ (2 : Int) ^ k * 2000001) :
    Calls Tryd.prog 18 #[.pointer (some ⟨p, 0, none⟩)] w fun e w' => e = .returned (.int .i64 (mean k m)) ∧ Gr w w' := by
  have HK := Lib.hid hk
  have HD := Lib.hid (show m.tdiv ((2 : Int) ^ k) = mean k m from Int.tdiv_eq_ediv_of_nonneg hm)
  have HW := Lib.hid (show wrap64 (mean k m) = mean k m from by have := mean_in hm hm2; unfold wrap64; omega)
  clear hk hm hm2
  go_enter Tryd.func18, Tryd.ntmps18
  go_wp2
  go_loopw [3, 9] (fun s3 s9 wr => ∃ (j : Nat), j ≤ k ∧ s9 = .int .i64 (j : Int) ∧ s3 = .int .i64 ((2 : Int) ^ j) ∧ wr = w) (fun _ i _ => k - (intOf i).toNat)
  case atStart => exact ⟨0, Nat.zero_le _, rfl, rfl, rfl⟩
  case round =>
    obtain ⟨j, hj, rfl, rfl, rfl⟩ := hrel
    by_cases hjl : j < k
    · have j0 : (0 : Int) ≤ (j : Int) := by omega
      have j1 : (j : Int) < (k : Int) := by omega
      have HP2 := Lib.hid (show wrap64 ((2 : Int) ^ j * 2) = (2 : Int) ^ (j + 1) from by
        have h1 := pow2 (j + 1)
        have h2 := pow2_le (k := j + 1) (by have := HK.out; omega)
        have h3 : (2 : Int) ^ (j + 1) = 2 ^ j * 2 := Int.pow_succ 2 j
        rw [← h3]
        unfold wrap64
        generalize (2 : Int) ^ (j + 1) = N at *
        omega)
      go_wp2
      rw [show wrap64 ((j : Int) + 1) = ((j + 1 : Nat) : Int) from by have := HK.out; unfold wrap64; omega, HP2.out]
      go_roundw
      case measure => simp [intOf]; omega
      case rel => exact ⟨j + 1, by omega, rfl, rfl, trivial⟩
    · obtain rfl : j = k := by omega
      have hn0 : ¬ (2 : Int) ^ j = 0 := by have := pow2 j; omega
      go_wp2
      rw [HD.out, HW.out]
      go_ret
      exact ⟨rfl, Gr.refl _⟩
end Go.Proofs.YtbpofdfehcbppaaDoor

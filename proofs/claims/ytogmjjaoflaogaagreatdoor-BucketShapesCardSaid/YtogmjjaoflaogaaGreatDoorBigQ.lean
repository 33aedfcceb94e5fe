/-
  millracebig.Rat: den, norm, SetFrac.
-/
import Derived.Test.YtogmjjaoflaogaaGreatDoorBigP
import Derived.Deep.RegionHeld3
namespace Go.Proofs.YtogmjjaoflaogaaGreatDoor
open Go.RowKit

/-- The Rat at block p is a / d, in lowest terms. -/
structure RatAt (w : World) (p : Nat) (a : Int) (d : Nat) : Prop where
  num : IntAt w p 0 a
  den : IntAt w p 2 (d : Int)
  pos : 0 < d
  cop : Nat.gcd a.natAbs d = 1
theorem RatAt.gr {w w' : World} {p : Nat} {a : Int} {d : Nat} (h : RatAt w p a d) (k : Gr w w') : RatAt w' p a d := ⟨h.num.gr k, h.den.gr k, h.pos, h.cop⟩

set_option maxRecDepth 100000 in
set_option maxHeartbeats 4000000 in
theorem den_any (p : Nat) (a : Int) (d : Nat) (w : World) (h : RatAt w p a d) :
    Calls Tryz.prog 47 #[.pointer (some ⟨p, 0, none⟩)] w fun e w' => e = .returned (.pointer (some ⟨p, 2, none⟩)) ∧ w = w' := by
  obtain ⟨_, s, n, c, c1, hN⟩ := h.den.open
  have hp := hN.pos (by have := h.pos; omega)
  obtain ⟨_, _, _, e1, hn, _⟩ := hN.shape
  simp at e1
  have b2 : ((n : Int) == 0) = false := by simp; omega
  have b3 : (n : Int) ≤ 1000000 := by omega
  clear hN h e1
  go_enter Tryz.func47, Tryz.ntmps47
  go_wp2
  go_ret
  exact ⟨rfl, rfl⟩

/-- What norm bears. -/
structure NormOk (A d : Nat) : Prop where
  pos : 0 < d
  den : LtB d 2
  num : LtB A 40
theorem NormOk.div {A d g : Nat} (h : NormOk A d) (h0 : 0 < g) (hg : g ≤ d) : DivOk A g := ⟨h0, .inr (.inr ⟨by have := h.den.lt; omega, h.num.lt⟩)⟩
theorem NormOk.below {A d g : Nat} (h : NormOk A d) (h0 : 0 < g) : DivOk d g := ⟨h0, .inr (.inl h.den.lt)⟩
theorem signed_ediv {a : Int} {g : Nat} (hg : g ∣ a.natAbs) (h0 : 0 < g) : (a / (g : Int)).natAbs = a.natAbs / g ∧ (decide (a / (g : Int) < 0) = decide (a < 0)) := by
  obtain ⟨k, hk⟩ := hg
  have h1 : a.natAbs / g = k := by rw [hk, Nat.mul_div_cancel_left _ h0]
  rw [h1]
  by_cases h : a < 0
  · have e : a = (g : Int) * -(k : Int) := by
      rw [Int.mul_neg, ← Int.natCast_mul, ← hk]; omega
    have e2 : a / (g : Int) = -(k : Int) := by rw [e, Int.mul_ediv_cancel_left _ (by omega)]
    have hk0 : 0 < k := by
      rcases Nat.eq_zero_or_pos k with h2 | h2
      · subst h2; simp at hk; omega
      · exact h2
    rw [e2]
    exact ⟨by omega, by rw [decide_eq_true h, decide_eq_true (by omega)]⟩
  · have e : a = (g : Int) * (k : Int) := by
      rw [← Int.natCast_mul, ← hk]; omega
    have e2 : a / (g : Int) = (k : Int) := by rw [e, Int.mul_ediv_cancel_left _ (by omega)]
    rw [e2]
    exact ⟨by omega, by rw [decide_eq_false h, decide_eq_false (by omega)]⟩

/-- What is older than block p is as it was. -/
def Kept (p : Nat) (w w' : World) : Prop := (∀ u, Gr u w → u.heap.size ≤ p → Gr u w') ∧ (p < w.heap.size → p < w'.heap.size ∧ ∀ i, w'.frozen? ⟨p, i, none⟩ = w.frozen? ⟨p, i, none⟩)
theorem Num.cell1 {w : World} {a : Option Addr} {cap : Nat} {N : Nat} (h : Num w (.slice a 1 cap) N) : ∃ g, a = some ⟨g, 0, none⟩ ∧ w.cell? ⟨g, 0, none⟩ = some (.int .u32 (N : Int)) := by
  obtain ⟨m, f, ⟨_, _, h2, _, h3, _⟩, _, h4⟩ := h
  simp at h2
  obtain ⟨rfl, rfl, rfl⟩ := h2
  obtain ⟨g, h5, h6⟩ := h3 (by omega)
  refine ⟨g, h5, ?_⟩
  have := h6 0 (by omega)
  simp [V, Bp] at h4
  rw [this, h4]
theorem Only.kept {p o : Nat} {w w' : World} (h : Only p o w w') : Kept p w w' := ⟨h.gr, fun hp => ⟨Nat.lt_of_lt_of_le hp h.size, fun i => h.frozen p i hp⟩⟩
theorem Kept.of_gr {p : Nat} {w w' : World} (h : Gr w w') : Kept p w w' := ⟨fun _ hu _ => hu.trans h, fun hp => ⟨Nat.lt_of_lt_of_le hp h.size, fun i => h.frozen (p := ⟨p, i, none⟩) hp⟩⟩
theorem Kept.trans {p : Nat} {a b c : World} (h : Kept p a b) (k : Kept p b c) : Kept p a c := ⟨fun u hu hp => k.1 u (h.1 u hu hp) hp, fun hp => ⟨(k.2 (h.2 hp).1).1, fun i => ((k.2 (h.2 hp).1).2 i).trans ((h.2 hp).2 i)⟩⟩
/-- norm's last stores. -/
theorem norm_store {w : World} {p : Nat} {a : Int} {d : Nat} {g : Nat} {P Q : Value} (hs : Slot w p 0) (hs' : Slot w p 2) (ha : IntAt w p 0 a) (hd : IntAt w p 2 (d : Int)) (hg : g = Nat.gcd a.natAbs d) (h0 : 0 < d) (hP : Num w P (a.natAbs / g)) (hQ : Num w Q (d / g)) :
    RatAt ((w.setCell ⟨p, 1, none⟩ P).setCell ⟨p, 3, none⟩ Q) p (a / (g : Int)) (d / g) ∧ Kept p w ((w.setCell ⟨p, 1, none⟩ P).setCell ⟨p, 3, none⟩ Q) := by
  have hgp : 0 < g := by rw [hg]; exact Nat.gcd_pos_of_pos_right _ h0
  have hga : g ∣ a.natAbs := by rw [hg]; exact Nat.gcd_dvd_left _ _
  have hgd : g ∣ d := by rw [hg]; exact Nat.gcd_dvd_right _ _
  obtain ⟨e1, e2⟩ := signed_ediv hga hgp
  have o1 : Only p 0 w (w.setCell ⟨p, 1, none⟩ P) := ⟨fun u hu hp => hu.setCell hp _, by simp, fun q i _ ho => by rw [World.cell?_setCell_other _ _ _ _ (by simp; omega)], fun q i _ => by simp, fun q _ hne => Below.heap_setCell _ _ _ _ hne⟩
  have o2 : Only p 2 (w.setCell ⟨p, 1, none⟩ P) ((w.setCell ⟨p, 1, none⟩ P).setCell ⟨p, 3, none⟩ Q) := ⟨fun u hu hp => hu.setCell hp _, by simp, fun q i _ ho => by rw [World.cell?_setCell_other _ _ _ _ (by simp; omega)], fun q i _ => by simp, fun q _ hne => Below.heap_setCell _ _ _ _ hne⟩
  obtain ⟨_, _, ⟨x0, n0, q0, hx0⟩, _, _⟩ := id hs
  obtain ⟨_, _, ⟨x1, n1, q1, hx1⟩, _, _⟩ := id hs'
  have c1 : (w.setCell ⟨p, 1, none⟩ P).cell? ⟨p, 1, none⟩ = some P := World.cell?_setCell_same _ _ _ (u := .slice x0 n0 q0) hx0
  have c3 : ((w.setCell ⟨p, 1, none⟩ P).setCell ⟨p, 3, none⟩ Q).cell? ⟨p, 3, none⟩ = some Q := World.cell?_setCell_same _ _ _ (u := .slice x1 n1 q1) (by rw [World.cell?_setCell_other _ _ _ _ (by simp)]; exact hx1)
  have s2 : Slot (w.setCell ⟨p, 1, none⟩ P) p 2 := hs'.only o1 (.inr (by omega))
  refine ⟨⟨⟨?_, P, ?_, ?_⟩, ⟨?_, Q, c3, ?_⟩, Nat.div_pos (Nat.le_of_dvd h0 hgd) hgp, ?_⟩, o1.kept.trans o2.kept⟩
  · rw [World.cell?_setCell_other _ _ _ _ (by simp), World.cell?_setCell_other _ _ _ _ (by simp), e2]; exact ha.1
  · rw [World.cell?_setCell_other _ _ _ _ (by simp)]; exact c1
  · rw [e1]; exact (hP.only hs o1).only s2 o2
  · rw [World.cell?_setCell_other _ _ _ _ (by simp), World.cell?_setCell_other _ _ _ _ (by simp)]
    have h5 := hd.1
    have e5 : decide ((d : Int) < 0) = false := decide_eq_false (Int.not_lt.2 (Int.natCast_nonneg d))
    have e6 : decide (((d / g : Nat) : Int) < 0) = false := decide_eq_false (Int.not_lt.2 (Int.natCast_nonneg _))
    rw [e5] at h5
    rw [e6]
    exact h5
  · rw [Int.natAbs_natCast]; exact (hQ.only hs o1).only s2 o2
  · rw [e1, Nat.gcd_div hga hgd, ← hg, Nat.div_self hgp]

set_option maxRecDepth 100000 in
set_option maxHeartbeats 8000000 in
theorem norm_any (p : Nat) (a : Int) (d : Nat) (w : World) (hs : Slot w p 0) (hs' : Slot w p 2) (ha : IntAt w p 0 a) (hd : IntAt w p 2 (d : Int)) (hok : NormOk a.natAbs d) :
    Calls Tryz.prog 71 #[.pointer (some ⟨p, 0, none⟩)] w fun e w' =>
      e = .returned (.pointer (some ⟨p, 0, none⟩)) ∧ RatAt w' p (a / ((Nat.gcd a.natAbs d : Nat) : Int)) (d / Nat.gcd a.natAbs d) ∧ Kept p w w' := by
  have HA := Lib.hid ha
  have HD := Lib.hid hd
  have HS := Lib.hid hs
  have HS' := Lib.hid hs'
  have HOK := Lib.hid hok
  obtain ⟨c0, s, n, c, c1, hN⟩ := ha.open
  obtain ⟨e0, s', n', c', e1, hN'⟩ := hd.open
  rw [Int.natAbs_natCast] at hN'
  rw [decide_eq_false (by omega)] at e0
  have hp := hN'.pos hok.pos
  have hl' := hN'.len hok.den.lt
  obtain ⟨_, _, _, f1, hn, hz⟩ := hN.shape
  simp at f1
  obtain ⟨rfl, rfl, rfl⟩ := f1
  have H := Lib.hid hN
  have H' := Lib.hid hN'
  have b2 : ((n' : Int) == 0) = false := by simp; omega
  have b3 : (n' : Int) ≤ 2 := by omega
  have b4 : (n : Int) ≤ 1000000 := by omega
  have b5 : (0 : Int) < (n' : Int) := by omega
  by_cases h0 : a = 0
  · have hn0 : n = 0 := hz.2 (by omega)
    subst hn0 h0
    have HG0 : Hid (Nat.gcd (0 : Int).natAbs d = d ∧ ((0 : Int) / (d : Int) = 0) ∧ d / d = 1) := Lib.hid ⟨by simp, by simp, Nat.div_self hok.pos⟩
    clear hok hs hs' ha hd hN hN' hz
    go_enter Tryz.func71, Tryz.ntmps71
    go_wp2_with (go_at_call 72; refine (set64_any p 2 1 _ HS'.out (by omega)).mono ?_; rintro e w1 ⟨rfl, hh, ho⟩; have HH := Lib.hid hh; have HO := Lib.hid ho; clear hh ho)
    go_ret
    refine ⟨rfl, ?_, HO.out.kept⟩
    rw [HG0.out.1, HG0.out.2.1, HG0.out.2.2]
    exact ⟨HA.out.only HS'.out HO.out (.inr (by omega)), HH.out.int, by omega, by simp⟩
  have hn0 : n ≠ 0 := fun e => h0 (by have := hz.1 e; omega)
  have b6 : ((n : Int) == 0) = false := by simp; omega
  by_cases h1 : d = 1
  · subst h1
    obtain ⟨rfl, g', rfl, hc1⟩ := hN'.one (by omega) (by omega)
    have HG0 : Hid (Nat.gcd a.natAbs 1 = 1 ∧ a / ((1 : Nat) : Int) = a ∧ 1 / 1 = 1) := Lib.hid ⟨by simp, by simp, rfl⟩
    clear hok hs hs' ha hd hN hN' hz
    go_enter Tryz.func71, Tryz.ntmps71
    go_wp2
    go_ret
    refine ⟨rfl, ?_, Kept.of_gr (Gr.refl _)⟩
    exact ⟨HA.out, HD.out, by omega, by simp⟩
  have HCM := Lib.hid (fun (u : World) (k : Gr w u) => common_any u (hN.gr k) (hN'.gr k) (hok.div hok.pos (Nat.le_refl _)) hok.den)
  have hg0 : 0 < Nat.gcd a.natAbs d := Nat.gcd_pos_of_pos_right _ hok.pos
  have hgd : Nat.gcd a.natAbs d ≤ d := Nat.le_of_dvd hok.pos (Nat.gcd_dvd_right _ _)
  have HDV := Lib.hid (show DivOk a.natAbs (Nat.gcd a.natAbs d) ∧ DivOk d (Nat.gcd a.natAbs d) from ⟨hok.div hg0 hgd, hok.below hg0⟩)
  have HGP := Lib.hid hg0
  have HGB : LtB (Nat.gcd a.natAbs d) 2 := ⟨by have := hok.den.lt; omega⟩
  have HST := Lib.hid (fun (u : World) (P Q : Value) (hs : Slot u p 0) (hs' : Slot u p 2) (ha : IntAt u p 0 a) (hd : IntAt u p 2 (d : Int)) (hP : Num u P (a.natAbs / Nat.gcd a.natAbs d)) (hQ : Num u Q (d / Nat.gcd a.natAbs d)) => norm_store hs hs' ha hd rfl hok.pos hP hQ)
  have HONE : Hid (Nat.gcd a.natAbs d = 1 → ∀ u, IntAt u p 0 a → IntAt u p 2 (d : Int) → RatAt u p (a / ((Nat.gcd a.natAbs d : Nat) : Int)) (d / Nat.gcd a.natAbs d)) := Lib.hid (fun e u h1 h2 => by
    have e2 : a / ((1 : Nat) : Int) = a := by simp
    rw [e, e2, Nat.div_one]
    exact ⟨h1, h2, hok.pos, e⟩)
  have b7 : ¬ ((n' : Int) = 1 ∧ d = 1) := fun h => h1 h.2
  have HB1 : Hid (n' = 1 → ∃ g', s' = some ⟨g', 0, none⟩ ∧ w.cell? ⟨g', 0, none⟩ = some (.int .u32 (d : Int))) := Lib.hid (fun e => by
    subst e
    exact hN'.cell1)
  have b8 : ((d : Int) == 1) = false := by simp; omega
  clear hok hs hs' ha hd hN hN' hz b7 hg0 hgd
  generalize Nat.gcd a.natAbs d = g at *
  have C1 := Lib.hid c1
  have E0 := Lib.hid e0
  have E1 := Lib.hid e1
  by_cases hn1 : n' = 1
  · obtain ⟨g', rfl, hc1⟩ := HB1.out hn1
    subst hn1
    go_enter Tryz.func71, Tryz.ntmps71
    go_wp2
    go_region_held3 (fun w' => w'.cell? ⟨p, 1, none⟩ = some (.slice s n c) ∧ w'.cell? ⟨p, 3, none⟩ = some (.slice (some ⟨g', 0, none⟩) 1 c'))
      (first
        | exact ⟨((Gr.refl w).drew.trans hg1).cell C1.out, ((Gr.refl w).drew.trans hg1).cell E1.out⟩
        | go_keep)
      (first
        | (go_at_call 82; refine (HCM.out _ (Gr.refl w).drew).mono ?_; rintro e w1 ⟨⟨r, rfl, hr⟩, hg1⟩))
    obtain ⟨sr, nr, cr, rfl, hnr, _⟩ := hr.shape
    have hrp := hr.pos HGP.out
    have HR := Lib.hid hr
    have HG1 := Lib.hid ((Gr.refl w).drew.trans hg1)
    have x1 := HG1.out.cell C1.out
    have x3 := HG1.out.cell E1.out
    have b10 : (0 : Int) < (nr : Int) := by omega
    clear hg1
    by_cases hgg : g = 1
    · subst hgg
      obtain ⟨rfl, gb, rfl, hcg⟩ := hr.one (by omega) (by omega)
      clear hr
      go_wp2
      go_ret
      have := HONE.out (by first | rfl | trivial) _ (HA.out.gr HG1.out) (HD.out.gr HG1.out)
      simp only [Nat.div_one] at this
      exact ⟨rfl, by simpa using this, Kept.of_gr HG1.out⟩
    · have b11 : ((g : Int) == 1) = false := by simp; omega
      have tok1 := trivial
      by_cases hn3 : nr = 1
      · subst hn3
        obtain ⟨gb, rfl, hcg⟩ := hr.cell1
        clear hr hgg
        go_wp2_with (first
          | (go_at_call 83; have _ := tok1; refine (div_any _ (H.out.gr HG1.out) HR.out HDV.out.1).mono ?_; rintro e w2 ⟨⟨P, P2, rfl, hq, _⟩, hg2⟩; obtain ⟨aP, nP, cP, rfl, _, _⟩ := hq.shape; have HP := Lib.hid hq; have HG2 := Lib.hid (HG1.out.trans hg2); have HR2 := Lib.hid (HR.out.gr hg2); have y3 := HG2.out.cell E1.out; clear hq hg2 tok1; have tok2 := trivial)
          | (go_at_call 83; have _ := tok2; refine (div_any _ (H'.out.gr HG2.out) HR2.out HDV.out.2).mono ?_; rintro e w3 ⟨⟨Q, Q2, rfl, hq, _⟩, hg3⟩; obtain ⟨aQ, nQ, cQ, rfl, _, _⟩ := hq.shape; have HQ := Lib.hid hq; have HG3 := Lib.hid (HG2.out.trans hg3); have HP3 := Lib.hid (HP.out.gr hg3); have z1 := HG3.out.cell C1.out; have z3 := HG3.out.cell E1.out; have k1 : w3.frozen? ⟨p, 1, none⟩ = false := (HS.out.gr HG3.out).f1; have k3 : w3.frozen? ⟨p, 3, none⟩ = false := (HS'.out.gr HG3.out).f1; have HFIN := Lib.hid (HST.out _ _ _ (HS.out.gr HG3.out) (HS'.out.gr HG3.out) (HA.out.gr HG3.out) (HD.out.gr HG3.out) HP3.out HQ.out); clear hq hg3 tok2))
        go_ret
        exact ⟨rfl, HFIN.out.1, (Kept.of_gr HG3.out).trans HFIN.out.2⟩
      · have b12 : ((nr : Int) == 1) = false := by simp; omega
        clear hr hgg
        go_wp2_with (first
          | (go_at_call 83; have _ := tok1; refine (div_any _ (H.out.gr HG1.out) HR.out HDV.out.1).mono ?_; rintro e w2 ⟨⟨P, P2, rfl, hq, _⟩, hg2⟩; obtain ⟨aP, nP, cP, rfl, _, _⟩ := hq.shape; have HP := Lib.hid hq; have HG2 := Lib.hid (HG1.out.trans hg2); have HR2 := Lib.hid (HR.out.gr hg2); have y3 := HG2.out.cell E1.out; clear hq hg2 tok1; have tok2 := trivial)
          | (go_at_call 83; have _ := tok2; refine (div_any _ (H'.out.gr HG2.out) HR2.out HDV.out.2).mono ?_; rintro e w3 ⟨⟨Q, Q2, rfl, hq, _⟩, hg3⟩; obtain ⟨aQ, nQ, cQ, rfl, _, _⟩ := hq.shape; have HQ := Lib.hid hq; have HG3 := Lib.hid (HG2.out.trans hg3); have HP3 := Lib.hid (HP.out.gr hg3); have z1 := HG3.out.cell C1.out; have z3 := HG3.out.cell E1.out; have k1 : w3.frozen? ⟨p, 1, none⟩ = false := (HS.out.gr HG3.out).f1; have k3 : w3.frozen? ⟨p, 3, none⟩ = false := (HS'.out.gr HG3.out).f1; have HFIN := Lib.hid (HST.out _ _ _ (HS.out.gr HG3.out) (HS'.out.gr HG3.out) (HA.out.gr HG3.out) (HD.out.gr HG3.out) HP3.out HQ.out); clear hq hg3 tok2))
        go_ret
        exact ⟨rfl, HFIN.out.1, (Kept.of_gr HG3.out).trans HFIN.out.2⟩
  · have b9 : ((n' : Int) == 1) = false := by simp; omega
    go_enter Tryz.func71, Tryz.ntmps71
    go_wp2
    go_region_held3 (fun w' => w'.cell? ⟨p, 1, none⟩ = some (.slice s n c) ∧ w'.cell? ⟨p, 3, none⟩ = some (.slice s' n' c'))
      (first
        | exact ⟨((Gr.refl w).drew.trans hg1).cell C1.out, ((Gr.refl w).drew.trans hg1).cell E1.out⟩
        | go_keep)
      (first
        | (go_at_call 82; refine (HCM.out _ (Gr.refl w).drew).mono ?_; rintro e w1 ⟨⟨r, rfl, hr⟩, hg1⟩))
    obtain ⟨sr, nr, cr, rfl, hnr, _⟩ := hr.shape
    have hrp := hr.pos HGP.out
    have HR := Lib.hid hr
    have HG1 := Lib.hid ((Gr.refl w).drew.trans hg1)
    have x1 := HG1.out.cell C1.out
    have x3 := HG1.out.cell E1.out
    have b10 : (0 : Int) < (nr : Int) := by omega
    clear hg1
    by_cases hgg : g = 1
    · subst hgg
      obtain ⟨rfl, gb, rfl, hcg⟩ := hr.one (by omega) (by omega)
      clear hr
      go_wp2
      go_ret
      have := HONE.out (by first | rfl | trivial) _ (HA.out.gr HG1.out) (HD.out.gr HG1.out)
      simp only [Nat.div_one] at this
      exact ⟨rfl, by simpa using this, Kept.of_gr HG1.out⟩
    · have b11 : ((g : Int) == 1) = false := by simp; omega
      have tok1 := trivial
      by_cases hn3 : nr = 1
      · subst hn3
        obtain ⟨gb, rfl, hcg⟩ := hr.cell1
        clear hr hgg
        go_wp2_with (first
          | (go_at_call 83; have _ := tok1; refine (div_any _ (H.out.gr HG1.out) HR.out HDV.out.1).mono ?_; rintro e w2 ⟨⟨P, P2, rfl, hq, _⟩, hg2⟩; obtain ⟨aP, nP, cP, rfl, _, _⟩ := hq.shape; have HP := Lib.hid hq; have HG2 := Lib.hid (HG1.out.trans hg2); have HR2 := Lib.hid (HR.out.gr hg2); have y3 := HG2.out.cell E1.out; clear hq hg2 tok1; have tok2 := trivial)
          | (go_at_call 83; have _ := tok2; refine (div_any _ (H'.out.gr HG2.out) HR2.out HDV.out.2).mono ?_; rintro e w3 ⟨⟨Q, Q2, rfl, hq, _⟩, hg3⟩; obtain ⟨aQ, nQ, cQ, rfl, _, _⟩ := hq.shape; have HQ := Lib.hid hq; have HG3 := Lib.hid (HG2.out.trans hg3); have HP3 := Lib.hid (HP.out.gr hg3); have z1 := HG3.out.cell C1.out; have z3 := HG3.out.cell E1.out; have k1 : w3.frozen? ⟨p, 1, none⟩ = false := (HS.out.gr HG3.out).f1; have k3 : w3.frozen? ⟨p, 3, none⟩ = false := (HS'.out.gr HG3.out).f1; have HFIN := Lib.hid (HST.out _ _ _ (HS.out.gr HG3.out) (HS'.out.gr HG3.out) (HA.out.gr HG3.out) (HD.out.gr HG3.out) HP3.out HQ.out); clear hq hg3 tok2))
        go_ret
        exact ⟨rfl, HFIN.out.1, (Kept.of_gr HG3.out).trans HFIN.out.2⟩
      · have b12 : ((nr : Int) == 1) = false := by simp; omega
        clear hr hgg
        go_wp2_with (first
          | (go_at_call 83; have _ := tok1; refine (div_any _ (H.out.gr HG1.out) HR.out HDV.out.1).mono ?_; rintro e w2 ⟨⟨P, P2, rfl, hq, _⟩, hg2⟩; obtain ⟨aP, nP, cP, rfl, _, _⟩ := hq.shape; have HP := Lib.hid hq; have HG2 := Lib.hid (HG1.out.trans hg2); have HR2 := Lib.hid (HR.out.gr hg2); have y3 := HG2.out.cell E1.out; clear hq hg2 tok1; have tok2 := trivial)
          | (go_at_call 83; have _ := tok2; refine (div_any _ (H'.out.gr HG2.out) HR2.out HDV.out.2).mono ?_; rintro e w3 ⟨⟨Q, Q2, rfl, hq, _⟩, hg3⟩; obtain ⟨aQ, nQ, cQ, rfl, _, _⟩ := hq.shape; have HQ := Lib.hid hq; have HG3 := Lib.hid (HG2.out.trans hg3); have HP3 := Lib.hid (HP.out.gr hg3); have z1 := HG3.out.cell C1.out; have z3 := HG3.out.cell E1.out; have k1 : w3.frozen? ⟨p, 1, none⟩ = false := (HS.out.gr HG3.out).f1; have k3 : w3.frozen? ⟨p, 3, none⟩ = false := (HS'.out.gr HG3.out).f1; have HFIN := Lib.hid (HST.out _ _ _ (HS.out.gr HG3.out) (HS'.out.gr HG3.out) (HA.out.gr HG3.out) (HD.out.gr HG3.out) HP3.out HQ.out); clear hq hg3 tok2))
        go_ret
        exact ⟨rfl, HFIN.out.1, (Kept.of_gr HG3.out).trans HFIN.out.2⟩
end Go.Proofs.YtogmjjaoflaogaaGreatDoor

/-
  The reference's book: Add, Get, Journal.
-/
import Derived.Test.YticifnegoacopaaGreatDoorBokQ
import Derived.Test.YticifnegoacopaaGreatDoorWithin
namespace Go.Proofs.YticifnegoacopaaGreatDoor
open Go Go.RowKit

theorem info_ent : (Tryz.prog.info? 61).map (fun i => (i.zero, i.size, i.bytes)) = some (some (.agg #[.string ⟨#[]⟩, .int .i64 0]), 2, 24) := by kernel_rfl
theorem RBokAt.c0 {w : World} {n0 r : Nat} {L : List Ent} {v : Value} (h : RBokAt w n0 r L v) : w.cell? ⟨r, 0, none⟩ = some v := cell_of_row w r 0 _ _ _ h.blk
theorem RBokAt.fz {w : World} {n0 r : Nat} {L : List Ent} {v : Value} (h : RBokAt w n0 r L v) (o : Nat) : w.frozen? ⟨r, o, none⟩ = false := by
  unfold World.frozen?
  simp [h.blk]
theorem RBokAt.shape {w : World} {n0 r : Nat} {L : List Ent} {v : Value} (h : RBokAt w n0 r L v) : ∃ a c, v = .slice a L.length c := Row.shape h.row
theorem RBokAt.ne {w : World} {n0 r : Nat} {L : List Ent} {v : Value} (h : RBokAt w n0 r L v) {g : Nat} (hg : v.ownBlock = some g) : g ≠ r := by
  rcases h.row.2 with ⟨e, _⟩ | ⟨g', _, _, cur, e, hh, _⟩
  · rw [e] at hg; cases hg
  · rw [e] at hg
    obtain rfl := Option.some.inj hg
    intro e2
    rw [show g' = r from e2, h.blk] at hh
    injection hh with e1
    injection e1 with _ e3
    exact absurd e3 (by decide)
/-- One more entry. -/
theorem RBokAt.more {w w7 : World} {n0 r : Nat} {L : List Ent} {v v' : Value} {x : ByteArray} {n : Int} {o : Obj} (h : RBokAt w n0 r L v) (ha : addC L x n = 0) (hr : Row 61 2 (fun _ => True) w7 v' (L.length + 1) (eflat L ++ [.string x, .int .i64 n])) (hg : (w.alloc o).grownBy w7 v.ownBlock) (hb : ∀ g, v'.ownBlock = some g → v.ownBlock = some g ∨ (w.alloc o).heap.size ≤ g) :
    RBokAt (w7.setCell ⟨r, 0, none⟩ v') n0 r (L ++ [(x, n)]) v' ∧ Kp badR n0 r w (w7.setCell ⟨r, 0, none⟩ v') := by
  have hal := h.gr ((Gr.refl w).alloc o)
  have hrl := (Array.getElem?_eq_some_iff.1 hal.blk).1
  have h7 : w7.heap[r]? = some (.cells #[v] 32 (0, 0)) := (hg.block r hrl (fun e => hal.ne e.symm rfl)).trans hal.blk
  have hne : ∀ g, v'.ownBlock = some g → g ≠ r ∧ n0 ≤ g := fun g hg2 => by
    rcases hb g hg2 with e | e
    · exact ⟨h.ne e, h.own g e⟩
    · have := hal.old; exact ⟨by omega, by omega⟩
  have hsz := hg.size
  have hol := hal.old
  refine ⟨⟨set_blk h7 _, h.low, by simp; omega, ?_, fun g hg2 => (hne g hg2).2, h.ok.snoc ha⟩, ?_⟩
  · rw [eflat_snoc, List.length_append, List.length_singleton]
    exact Row.setCell hr _ fun e => (hne _ e).1 rfl
  · refine (Kp.of_gr ((Gr.refl w).alloc o)).trans ((Kp.grown hg fun g e => ⟨h.own g e, .inr fun o' h1 => ?_⟩).trans (Kp.set w7 0 v'))
    rcases hal.row.2 with ⟨e4, _⟩ | ⟨g', _, _, cur, e4, hh, _⟩
    · rw [e4] at e; cases e
    · rw [e4] at e
      obtain rfl := Option.some.inj e
      rw [hh] at h1
      rw [← Option.some.inj h1]
      rfl

set_option maxRecDepth 100000 in
set_option maxHeartbeats 8000000 in
/-- The reference's Add. -/
theorem radd_any {w : World} {n0 r : Nat} {L : List Ent} (h : RBok w n0 r L) (x : ByteArray) (n : Int) (hx : x.size ≤ 3000) : Calls Tryz.prog 7 #[.pointer (some ⟨r, 0, none⟩), .string x, .int .i64 n] w fun e w' => e = .returned (.int .i64 (addC L x n)) ∧ RBok w' n0 r (addL L x n) ∧ Kp badR n0 r w w' := by
  obtain ⟨v, h⟩ := h
  obtain ⟨va, vc, rfl⟩ := h.shape
  have HN := Lib.hid (rname_any x hx w)
  have H0 := Lib.hid h
  have hl0 : (0 : Int) ≤ (L.length : Int) := by omega
  clear hx h
  by_cases ha : addC L x n = 0
  · have ha0 := addC_zero ha
    have HA := Lib.hid ha
    rw [ha0.1] at HN
    have hlt : ¬ (500 : Int) ≤ (L.length : Int) := by omega
    have HB := Lib.hid ha0
    have HR : Hid (addL L x n = L ++ [(x, n)]) := Lib.hid (addL_yes ha)
    obtain ⟨i0, hi0, hz0, hz1, hz2⟩ := info_parts info_ent
    clear ha ha0
    go_enter Tryz.func7, Tryz.ntmps7
    go_wp2_with (first
      | (go_at_call 9; refine HN.out.mono ?_; rintro e w1 ⟨rfl, hg⟩; have HG := Lib.hid hg; have H1 := Lib.hid (H0.out.gr hg); have c0 := H1.out.c0; have z0 := H1.out.fz 0; have hrl := (Array.getElem?_eq_some_iff.1 H1.out.blk).1; clear hg)
      | (go_at_call 24; refine (within_yes n 1 1000000 _ HB.out.2.1 HB.out.2.2.1).mono ?_; rintro e w2 ⟨rfl, rfl⟩)
      | (at_builtin; refine wpList_append_row rfl _ _ _ (by rfl) i0 (.agg #[.string ⟨#[]⟩, .int .i64 0]) 24 Tryz.underlying30 hi0 hz0 hz1 hz2 rfl (fun _ _ => trivial) (by rfl) (Row.gr H1.out.row ((Gr.refl w1).alloc (.cells #[.string x, .int .i64 n] 61))) ⟨w1.heap.size, 0, none⟩ 1 (by rfl) [.string x, .int .i64 n] (by rfl) ?c1 ?c2 (fun _ _ => trivial) (by have := HB.out.2.2.2; omega) (by decide) ?_; (case c1 => (intro j u hj; match j, hj with | 0, hj => (simp at hj; subst hj; simp [Addr.add]) | 1, hj => (simp at hj; subst hj; simp [Addr.add]) | j + 2, hj => simp at hj)); (case c2 => (intro u hu; simp at hu; rcases hu with rfl | rfl <;> rfl)); intro v' w6 hrow hgr hblk; obtain ⟨va', vc', rfl⟩ := Row.shape hrow; have HM := Lib.hid (H1.out.more HA.out hrow hgr hblk); have hc6 : w6.cell? ⟨r, 0, none⟩ = _ := (World.cell?_of_block (a := ⟨r, 0, none⟩) (hgr.block r (by simp; omega) (fun e => H1.out.ne e.symm rfl))).trans ((H1.out.gr ((Gr.refl w1).alloc (.cells #[.string x, .int .i64 n] 61))).c0); have hz6 : w6.frozen? ⟨r, 0, none⟩ = false := (World.frozen?_of_block (a := ⟨r, 0, none⟩) (hgr.block r (by simp; omega) (fun e => H1.out.ne e.symm rfl))).trans ((H1.out.gr ((Gr.refl w1).alloc (.cells #[.string x, .int .i64 n] 61))).fz 0); clear hrow hgr hblk))
    go_ret
    exact ⟨by rw [HA.out]; rfl, ⟨_, by rw [HR.out]; exact HM.out.1⟩, (Kp.of_gr HG.out).trans HM.out.2⟩
  · have HB : Hid (∀ u, Gr w u → RBok u n0 r (addL L x n) ∧ Kp badR n0 r w u) := Lib.hid (fun u g => ⟨⟨_, by rw [addL_no ha]; exact H0.out.gr g⟩, .of_gr g⟩)
    have HA := Lib.hid ha
    clear ha
    cases hq : nameOk x with
    | false =>
      have HE : Hid (addC L x n = 5) := Lib.hid (by unfold addC; rw [if_pos hq])
      rw [hq] at HN
      clear hq
      go_enter Tryz.func7, Tryz.ntmps7
      go_wp2_with (go_at_call 9; refine HN.out.mono ?_; rintro e w1 ⟨rfl, hg⟩; have HG := Lib.hid hg; clear hg)
      go_ret
      exact ⟨by rw [HE.out]; rfl, HB.out _ HG.out⟩
    | true =>
      rw [hq] at HN
      by_cases hr : n < 1 ∨ 1000000 < n
      · have HE : Hid (addC L x n = 2) := Lib.hid (by unfold addC; rw [if_neg (by rw [hq]; decide), if_pos hr])
        have HR := Lib.hid hr
        clear hq hr
        go_enter Tryz.func7, Tryz.ntmps7
        go_wp2_with (first
          | (go_at_call 9; refine HN.out.mono ?_; rintro e w1 ⟨rfl, hg⟩; have HG := Lib.hid hg; clear hg)
          | (go_at_call 24; refine (within_no n 1 1000000 _ HR.out).mono ?_; rintro e w2 ⟨rfl, rfl⟩))
        go_ret
        exact ⟨by rw [HE.out]; rfl, HB.out _ HG.out⟩
      · have h1 : 1 ≤ n := by omega
        have h2 : n ≤ 1000000 := by omega
        have hl : 500 ≤ L.length := by
          rcases Nat.lt_or_ge L.length 500 with h3 | h3
          · exact absurd (by unfold addC; rw [if_neg (by rw [hq]; decide), if_neg hr, if_neg (by omega)]) HA.out
          · exact h3
        have HE : Hid (addC L x n = 4) := Lib.hid (by unfold addC; rw [if_neg (by rw [hq]; decide), if_neg hr, if_pos hl])
        have hl2 : (500 : Int) ≤ (L.length : Int) := by omega
        have HH := Lib.hid (And.intro h1 h2)
        clear hq hr hl h1 h2
        go_enter Tryz.func7, Tryz.ntmps7
        go_wp2_with (first
          | (go_at_call 9; refine HN.out.mono ?_; rintro e w1 ⟨rfl, hg⟩; have HG := Lib.hid hg; have c0 := (H0.out.gr hg).c0; clear hg)
          | (go_at_call 24; refine (within_yes n 1 1000000 _ HH.out.1 HH.out.2).mono ?_; rintro e w2 ⟨rfl, rfl⟩))
        go_ret
        exact ⟨by rw [HE.out]; rfl, HB.out _ HG.out⟩
end Go.Proofs.YticifnegoacopaaGreatDoor

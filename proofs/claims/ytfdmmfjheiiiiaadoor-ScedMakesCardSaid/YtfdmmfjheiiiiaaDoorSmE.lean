/-
  sced.due, walked.
-/
import Derived.Test.YtfdmmfjheiiiiaaDoorSmD
import Derived.BigGuardPart
import Derived.Deep.RegionHeld3
import Derived.Deep.CutBlock
import Derived.Deep.DeepCutAuto
namespace Go.Proofs.YtfdmmfjheiiiiaaDoor
open Go.RowKit Go.Extern.Stop Go.Stop Go.Extern

theorem dueF_at {cs ps : List Int} {T k t : Nat} (ht : t < T + 1) (hk : (k : Int) + 1 ≤ serveAt (padL cs (T + 1)) ps t) (h : ∀ u, u < t → serveAt (padL cs (T + 1)) ps u < (k : Int) + 1) : dueF cs ps T k = (t : Int) := firstUp_at ht hk h
theorem dueF_none {cs ps : List Int} {T k : Nat} (h : ∀ u, u < T + 1 → serveAt (padL cs (T + 1)) ps u < (k : Int) + 1) : dueF cs ps T k = -1 := firstUp_none h
set_option maxRecDepth 100000 in
set_option maxHeartbeats 40000000 in
theorem due_any (a0 a1 : Option Addr) (q0 q1 : Nat) (cs ps : List Int) (T : Nat) (w : World) (hx : Ints w (.slice a0 cs.length q0) cs) (hy : Ints w (.slice a1 ps.length q1) ps) (hc : ckCurve ps = 0) (hl : cs.length ≤ T) (hT : T < ps.length) (hcs : Comes cs) :
    Calls Tryd.prog 16 #[.agg #[.slice a0 cs.length q0, .slice a1 ps.length q1], .int .i64 (T : Int)] w fun e w' => ∃ v, e = .returned v ∧ IntRow w' v (upTo (dueF cs ps T) (cumN cs cs.length)) ∧ (∀ g, v.ownBlock = some g → w.heap.size ≤ g) ∧ Gr w w' := by
  have hp := ckCurve_pos hc
  have hck : ckServe (padL cs (T + 1)) ps = 0 := ckServe_ok (padL_len cs (T + 1)) hc (by rw [padL_len]; omega) (fun j hj => come_0 (padL_getD cs hj) (by have := hcs.at j; omega))
  have HSV : Hid (∀ u v, Ints u v (padL cs (T + 1)) → Gr w u → Calls Tryd.prog 20 #[v, .slice a1 ps.length q1] u fun e w' => ∃ a c, e = .returned (.tuple #[.slice a (T + 1) c, .nilIface]) ∧ Ints w' (.slice a (T + 1) c) (upTo (serveAt (padL cs (T + 1)) ps) (T + 1)) ∧ Gr u w') := Lib.hid (fun u v hv hu => (serve_any u hv (hy.gr hu)).mono fun e w' ⟨r, h1, h2, h3⟩ => by
    rw [if_pos hck, padL_len] at h2
    rw [hck] at h1
    obtain ⟨a, c, rfl⟩ := ints_shape h2
    rw [upTo_len] at h1 h2
    exact ⟨a, c, h1, h2, h3⟩)
  have HCS := Lib.hid hcs
  have HX := Lib.hid hx
  have t0 : (0 : Int) ≤ (T : Int) := by omega
  have t1 : (T : Int) ≤ 200 := by omega
  have l200 : (cs.length : Int) ≤ 200 := by omega
  have HT200 : Hid (T ≤ 200) := Lib.hid (by omega)
  have HL := Lib.hid hl
  obtain ⟨N, hN⟩ : ∃ N : Nat, N = cumN cs cs.length := ⟨_, rfl⟩
  have HN : Hid (sumTo cs cs.length = (N : Int)) := Lib.hid (by rw [hN]; exact (hcs.cum _).symm)
  have HN100 : Hid (N ≤ 100) := Lib.hid (by have := (hcs.sum cs.length).2; have := HN.out; omega)
  have hn100 : (N : Int) ≤ 100 := by have := HN100.out; omega
  rw [← hN]
  clear hx hy hc hp hck hcs hl hT hN
  go_enter Tryd.func16, Tryd.ntmps16
  go_upto_region 1 with fail
  obtain ⟨wb, hwb⟩ : ∃ u, u = w.alloc (.cells #[.slice a0 cs.length q0, .slice a1 ps.length q1] 46) := ⟨_, rfl⟩
  obtain ⟨fb, hfb⟩ : ∃ u, u = w.heap.size := ⟨_, rfl⟩
  have HD : Hid (wb.cell? ⟨fb, 0, none⟩ = some (.slice a0 cs.length q0) ∧ wb.cell? ⟨fb, 1, none⟩ = some (.slice a1 ps.length q1)) := Lib.hid (by rw [hwb, hfb]; exact ⟨by simp, by simp⟩)
  have HGB : Hid (Gr w wb) := Lib.hid (by rw [hwb]; exact (Gr.refl w).alloc _)
  rw [← hwb, ← hfb]
  clear hwb hfb
  go_upto_region 5 with (first
    | (at_make; refine wpList_make_blk info_intE (by rfl) _ _ _ (by rfl) Tryd.underlying28 .i64 .i64 _ _ (T + 1) (by rfl) (by rfl) (by simp) (by simp) (by have := HT200.out; omega) (by have := HT200.out; omega) ?_; intro w1 hblk hmk; have HB1 := Lib.hid hblk; have HG1 := Lib.hid (hmk wb (Gr.refl wb)); have c0 := HG1.out.cell HD.out.1; clear hblk hmk)
    | (refine wpList_copy_ints (by rfl) _ _ (by rfl) _ (T + 1) _ HB1.out a0 cs.length q0 cs (HX.out.gr (HGB.out.trans HG1.out)) rfl (by rfl) (by rfl) (by have := HL.out; omega) ?_; intro w2 hblk hcp; have HG2 := Lib.hid (hcp wb HG1.out (Nat.le_refl _)); have HB2 := Lib.hid (hblk.congr (f' := fun i => cs.getD i 0) (fun i _ => by show (if i < cs.length then cs.getD i 0 else 0) = _; split; rfl; rw [getD_out (by omega)])); have c1 := HG2.out.cell HD.out.2; clear hblk hcp c0)
    | (go_at_call 20; refine (HSV.out _ _ (HB2.out.ints (by have := HT200.out; omega)) (HGB.out.trans HG2.out)).mono ?_; rintro e w3 ⟨ra, rc, rfl, hr, hg3⟩; have HR := Lib.hid hr; have HG3 := Lib.hid (HG2.out.trans hg3); clear hr hg3 c1))
  clear HSV HB2
  have c0 := HG3.out.cell HD.out.1
  go_wp2
  clear c0
  go_loopw [9, 35] (fun s j wr => ∃ k : Nat, k ≤ cs.length ∧ s = .int .i64 (sumTo cs k) ∧ j = .int .i64 (k : Int) ∧ Hid (Gr w3 wr)) (fun _ j _ => cs.length - (intOf j).toNat)
  case atStart => exact ⟨0, Nat.zero_le _, rfl, rfl, Gr.refl _⟩
  case round =>
    obtain ⟨k, hk, rfl, rfl, HG4⟩ := hrel
    by_cases hlt : k < cs.length
    · have i0 : (0 : Int) ≤ (k : Int) := by omega
      have i1 : (k : Int) < (cs.length : Int) := by omega
      obtain ⟨s0, hs0⟩ : ∃ s0, s0 = sumTo cs k := ⟨_, rfl⟩
      obtain ⟨x0, hx0⟩ : ∃ x0, x0 = cs.getD k 0 := ⟨_, rfl⟩
      have b0 : 0 ≤ s0 := by rw [hs0]; exact (HCS.out.sum k).1
      have b1 : s0 ≤ 100 := by rw [hs0]; exact (HCS.out.sum k).2
      have b2 : 0 ≤ x0 := by rw [hx0]; exact (HCS.out.at k).1
      have b3 : x0 ≤ 100 := by rw [hx0]; exact (HCS.out.at k).2
      have HSUM : Hid (s0 + x0 = sumTo cs (k + 1)) := Lib.hid (by rw [hs0, hx0]; rfl)
      obtain ⟨b, off, cap, he, hcell⟩ := ints_cells (HX.out.gr ((HGB.out.trans HG3.out).trans HG4.out)) (by omega)
      injection he with e1 e2 e3
      subst e1
      have c1 := hcell.out k hlt
      rw [← hx0] at c1
      rw [← hs0]
      clear hcell hs0 hx0 e2 e3
      go_wp2
      go_roundw
      case measure => simp [intOf]; omega
      case rel => exact ⟨k + 1, by omega, by rw [← HSUM.out], by go_num, HG4⟩
    · obtain hke : k = cs.length := by omega
      subst hke
      have i1 : ¬ (cs.length : Int) < (cs.length : Int) := by omega
      rw [HN.out]
      go_wp2
      go_loopw [5, 12] (fun o j wr => ∃ (k : Nat) (a : Option Addr) (c : Nat), k ≤ N ∧ o = .slice a k c ∧ j = .int .i64 ((k : Int) + 1) ∧ Hid (Gr w3 wr) ∧ Hid (IntRow wr (.slice a k c) (upTo (dueF cs ps T) k)) ∧ Hid (∀ g, (Value.slice a k c).ownBlock = some g → w3.heap.size ≤ g)) (fun _ j _ => N + 1 - (intOf j).toNat)
      case atStart => exact ⟨0, none, 0, Nat.zero_le _, rfl, rfl, HG4, Lib.hid (IntRow.nil _), Lib.hid (fun g hg => by simp [Value.ownBlock] at hg)⟩
      case round =>
        clear HG4
        obtain ⟨k, oa, oc, hk, rfl, rfl, HG4, HROW, HOWN⟩ := hrel
        by_cases hlt : k < N
        · have j0 : (0 : Int) ≤ (k : Int) := by omega
          have j1 : (k : Int) + 1 ≤ (N : Int) := by omega
          have HK := Lib.hid hlt
          go_wp2
          go_loopw [13, 50] (fun d j wr2 => ∃ t : Nat, t ≤ T + 1 ∧ d = .int .i64 (-1) ∧ j = .int .i64 (t : Int) ∧ wr = wr2 ∧ Hid (∀ u, u < t → serveAt (padL cs (T + 1)) ps u < (k : Int) + 1)) (fun _ j _ => T + 1 - (intOf j).toNat)
          case atStart => exact ⟨0, Nat.zero_le _, rfl, rfl, rfl, Lib.hid (fun u hu => absurd hu (by omega))⟩
          case round =>
            obtain ⟨t, ht, rfl, rfl, rfl, HUP⟩ := hrel
            by_cases hlt2 : t < T + 1
            · have k0 : (0 : Int) ≤ (t : Int) := by omega
              have k1 : (t : Int) < (T : Int) + 1 := by omega
              have HT2 := Lib.hid hlt2
              obtain ⟨b, off, cap, he, hcell⟩ := ints_cells (HR.out.gr HG4.out) (by rw [upTo_len]; omega)
              injection he with e1 e2 e3
              subst e1
              have c1 := hcell.out t (by rw [upTo_len]; exact hlt2)
              rw [upTo_getD _ hlt2] at c1
              obtain ⟨y0, hy0⟩ : ∃ y0, y0 = serveAt (padL cs (T + 1)) ps t := ⟨_, rfl⟩
              rw [← hy0] at c1
              clear hcell e2 e3
              by_cases hge : (k : Int) + 1 ≤ y0
              · have HDU := Lib.hid (dueF_at (cs := cs) (ps := ps) HT2.out (by rw [← hy0]; exact hge) HUP.out)
                clear hy0
                go_wp2_with (at_builtin; refine wpList_append_intR rfl _ _ _ (by rfl) Tryd.underlying28 _ _ ((t : Int)) (by rfl) (HROW.out.gr ((Gr.refl _).alloc _)) ⟨wr.heap.size, 0, none⟩ 1 (by rfl) (by simp) (by rw [upTo_len]; have := HN100.out; have := HK.out; omega) ?_; intro v5 w5 hrow hgr hown; rw [← HDU.out, upTo_succ] at hrow; obtain ⟨a5, c5, e5⟩ := IntRow.shape hrow; rw [upTo_len] at e5; subst e5; have HG6 := Lib.hid (gr_grown hgr (HG4.out.alloc _) HOWN.out); have HROW5 := Lib.hid hrow; have HOWN5 : Hid (∀ g, (Value.slice a5 (k + 1) c5).ownBlock = some g → w3.heap.size ≤ g) := Lib.hid (fun g hg => by rcases hown g hg with h | h; (exact HOWN.out g h); (have := HG4.out.size; simp at h; omega)); clear hrow hgr hown)
                go_roundw
                case measure => simp [intOf]; omega
                case rel => exact ⟨k + 1, a5, c5, by omega, rfl, by go_num, HG6, HROW5, HOWN5⟩
              · have HUP2 : Hid (∀ u, u < t + 1 → serveAt (padL cs (T + 1)) ps u < (k : Int) + 1) := Lib.hid (fun u hu => by
                  rcases Nat.lt_or_ge u t with h | h
                  · exact HUP.out u h
                  · obtain rfl : u = t := by omega
                    omega)
                clear hy0
                go_wp2
                go_roundw
                case measure => simp [intOf]; omega
                case rel => exact ⟨t + 1, by omega, rfl, by go_num, trivial, HUP2⟩
            · obtain rfl : t = T + 1 := by omega
              have HDU := Lib.hid (dueF_none (cs := cs) (ps := ps) HUP.out)
              have k1 : ¬ ((T + 1 : Nat) : Int) < (T : Int) + 1 := by omega
              go_wp2_with (at_builtin; refine wpList_append_intR rfl _ _ _ (by rfl) Tryd.underlying28 _ _ (-1) (by rfl) (HROW.out.gr ((Gr.refl _).alloc _)) ⟨wr.heap.size, 0, none⟩ 1 (by rfl) (by simp) (by rw [upTo_len]; have := HN100.out; have := HK.out; omega) ?_; intro v5 w5 hrow hgr hown; rw [← HDU.out, upTo_succ] at hrow; obtain ⟨a5, c5, e5⟩ := IntRow.shape hrow; rw [upTo_len] at e5; subst e5; have HG6 := Lib.hid (gr_grown hgr (HG4.out.alloc _) HOWN.out); have HROW5 := Lib.hid hrow; have HOWN5 : Hid (∀ g, (Value.slice a5 (k + 1) c5).ownBlock = some g → w3.heap.size ≤ g) := Lib.hid (fun g hg => by rcases hown g hg with h | h; (exact HOWN.out g h); (have := HG4.out.size; simp at h; omega)); clear hrow hgr hown)
              go_roundw
              case measure => simp [intOf]; omega
              case rel => exact ⟨k + 1, a5, c5, by omega, rfl, by go_num, HG6, HROW5, HOWN5⟩
        · obtain rfl : k = N := by omega
          have j1 : ¬ (k : Int) + 1 ≤ (k : Int) := by omega
          go_wp2
          go_ret
          exact ⟨_, rfl, HROW.out, fun g hg => by have := HOWN.out g hg; have := HGB.out.size; have := HG3.out.size; omega, (HGB.out.trans HG3.out).trans HG4.out⟩
end Go.Proofs.YtfdmmfjheiiiiaaDoor

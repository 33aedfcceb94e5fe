/-
  FilterFirst, walked.
-/
import Derived.Test.YthkccohigoejgaaDoorFltG
namespace Go.Proofs.YthkccohigoejgaaDoor
open Go Go.RowKit

/-- v is a slice of the texts T. -/
def StrsAt (W : World) (v : Value) (n : Nat) (T : Nat → ByteArray) : Prop := ∃ a cap, v = .slice a n cap ∧ (0 < n → ∃ b off, a = some ⟨b, off, none⟩ ∧ ∀ j, j < n → W.cell? ⟨b, off + j, none⟩ = some (.string (T j)))
set_option maxRecDepth 100000 in
set_option maxHeartbeats 8000000 in
theorem filterFirst_walk (W : World) (HE : Env W) {v : Value} {n : Nat} {T : Nat → ByteArray} (hs : StrsAt W v n T) (x : Itm) : Calls Tryd.prog 4 #[v, x.val] W fun e W' => e = .returned (.bool true) ∧ Gr W W' := by
  have HEN := Lib.hid HE
  clear HE
  obtain ⟨a, cap, rfl, hs⟩ := hs
  unfold Itm.val
  by_cases hbig : 10 < n
  · have n0 : (10 : Int) < (n : Int) := by omega
    clear hs
    go_enter Tryd.func4, Tryd.ntmps4
    go_wp2
    go_ret
    exact ⟨rfl, (Gr.refl W).alloc _⟩
  have n0 : (n : Int) ≤ 10 := by omega
  have HN10 : Hid (n ≤ 10) := Lib.hid (by omega)
  have HS := Lib.hid hs
  obtain ⟨i0, hi0, hz0, hz1, hz2⟩ := info_parts ifInfo
  obtain ⟨pp, hpp⟩ : ∃ pp : Nat → Bool, pp = fun j => okP x (T j) := ⟨_, rfl⟩
  have HPP : Hid (∀ j, pp j = okP x (T j)) := Lib.hid (fun j => by rw [hpp])
  have HPQ := Lib.hid hpp
  clear hbig hs hpp
  go_enter Tryd.func4, Tryd.ntmps4
  go_upto_region 3 with fail
  obtain ⟨q, hq⟩ : ∃ q, q = W.heap.size := ⟨_, rfl⟩
  obtain ⟨w1, hw1⟩ : ∃ w1, w1 = W.alloc (.cells #[.int .i64 x.t, .int .i64 x.len, .int .i64 x.flow, .int .i64 x.band, .int .i64 x.mark] 23) := ⟨_, rfl⟩
  have HW1 : Hid (HB w1 q #[.int .i64 x.t, .int .i64 x.len, .int .i64 x.flow, .int .i64 x.band, .int .i64 x.mark] 23 ∧ Gr W w1) := Lib.hid (by
    rw [hw1, hq]
    exact ⟨HB.new _ _ _, (Gr.refl W).alloc _⟩)
  rw [← hw1, ← hq]
  clear hw1 hq
  go_wp2
  go_loopw [5, 6, 7] (fun s5 s6 s7 wr => ∃ (i : Nat) (vs : List Value) (S : Nat → Prop), i ≤ n ∧ s7 = .int .i64 (i : Int) ∧ s6 = .int .i64 (firstTo pp i) ∧ Hid (FLs w1 wr T i s5 vs S)) (fun _ _ s _ => n - (intOf s).toNat)
  case atStart => exact ⟨0, [], _, Nat.zero_le _, rfl, rfl, Lib.hid (FLs.nil w1 T (Gr.refl _))⟩
  case round =>
    obtain ⟨i, vs, S, hi, rfl, rfl, HF⟩ := hrel
    obtain ⟨sa, sc, rfl⟩ := Row.shape HF.out.row
    have i0' : (0 : Int) ≤ (i : Int) := by omega
    have hwi := firstTo_or pp i
    by_cases hlt : i < n
    · have i1 : (i : Int) < (n : Int) := by omega
      obtain ⟨b, off, rfl, hcell⟩ := HS.out (by omega)
      have hce : wr.cell? ⟨b, off + i, none⟩ = some (.string (T i)) := (HW1.out.2.trans HF.out.gr).cell (hcell i hlt)
      obtain ⟨t, ht⟩ : ∃ t, t = T i := ⟨_, rfl⟩
      rw [← ht] at hce
      have HT := Lib.hid ht
      obtain ⟨m, hm⟩ : ∃ m, m = t.size := ⟨_, rfl⟩
      have HM := Lib.hid hm
      have hlen : ∀ w ty, (Builtin.len_ #[9] ty #[.string t]).run Tryd.prog w = .ok (.int .i64 (m : Int)) w := fun w ty => by rw [HM.out]; simp [go_sem, Tryd.underlying9]
      have HFEW : Hid (vs.length ≤ 1000000) := Lib.hid (by rw [HF.out.len]; have := HN10.out; omega)
      clear hcell ht hm
      by_cases hbg : 500 < m
      · have m0 : (500 : Int) < (m : Int) := by omega
        generalize firstTo pp i = z at *
        go_wp2
        go_ret
        exact ⟨rfl, HW1.out.2.trans HF.out.gr⟩
      · have m0 : (m : Int) ≤ 500 := by omega
        have HSZ : Hid (t.size ≤ 2000) := Lib.hid (by rw [← HM.out]; omega)
        clear hbg
        cases hp : pAll t with
        | ok f R =>
          have HOK : Hid (pp i = meantF x 20 f) := Lib.hid (by rw [HPP.out, ← HT.out]; unfold okP; rw [hp])
          have HP := Lib.hid hp
          clear hp
          go_upto_region 11 with (first
            | (go_at_call 6
               refine (rparse_any (HEN.out.gr (HW1.out.2.trans HF.out.gr)) t HSZ.out).mono ?_
               rintro E w2 hq
               rw [HP.out] at hq
               obtain ⟨v, pl, rfl, hr, hg⟩ := hq
               obtain ⟨vb, rfl⟩ := hr.ptr
               have HR2 := Lib.hid hr
               have HG2 := Lib.hid hg
               clear hg hr))
          obtain ⟨fb, hfb⟩ : ∃ fb, fb = w2.heap.size := ⟨_, rfl⟩
          obtain ⟨w3, hw3⟩ : ∃ w3, w3 = w2.alloc (.cells #[.int .i64 0, .int .i64 pl] 27) := ⟨_, rfl⟩
          have HFB : Hid (HB w3 fb #[.int .i64 0, .int .i64 pl] 27 ∧ Gr w2 w3 ∧ wr.heap.size ≤ fb) := Lib.hid (by rw [hw3, hfb]; exact ⟨HB.new _ _ _, (Gr.refl w2).alloc _, HG2.out.size⟩)
          rw [← hw3, ← hfb]
          clear hw3 hfb
          have hce3 : w3.cell? ⟨b, off + i, none⟩ = some (.string t) := (HG2.out.trans HFB.out.2.1).cell hce
          go_upto_region 12 with (first
            | (go_at_call 7
               refine (parse_any (HEN.out.gr ((HW1.out.2.trans HF.out.gr).trans (HG2.out.trans HFB.out.2.1))) t HSZ.out).mono ?_
               rintro E w4 hq
               rw [HP.out] at hq
               obtain ⟨v2, rfl, hf, hg⟩ := hq
               obtain ⟨ti, yi, rfl⟩ := hf.iface
               have HG4 := Lib.hid hg
               have HK4 : Hid (KidP (fun g => w3.heap.size ≤ g) w4 (.iface ti yi) (pAll (T i))) := Lib.hid (by rw [← HT.out, HP.out]; exact hf)
               clear hg hf))
          have e4 : w4.cell? ⟨fb, 0, none⟩ = some (.int .i64 0) := (HFB.out.1.gr HG4.out).c 0 rfl
          go_quiet (fail)
          obtain ⟨w5, hw5⟩ : ∃ w5, w5 = w4.drewN nq := ⟨_, rfl⟩
          have HG5 : Hid (Gr wr w5) := Lib.hid (by rw [hw5]; exact ((HG2.out.trans HFB.out.2.1).trans HG4.out).drewN nq)
          have HG35 : Hid (Gr w3 w5) := Lib.hid (by rw [hw5]; exact HG4.out.drewN nq)
          have HKD : Hid (KidP (fun g => wr.heap.size ≤ g) w5 (.iface ti yi) (pAll (T i))) := Lib.hid (by rw [hw5]; exact (KidP.same (w' := w4.drewN nq) HK4.out (fun _ _ => rfl)).mono fun g hg => Nat.le_trans (HG2.out.trans HFB.out.2.1).size hg)
          rw [← hw5]
          clear hw5 e4
          have HF5 := Lib.hid (HF.out.grow HG5.out)
          go_upto_region 15 with (first | (at_builtin; refine wpList_append_row rfl _ _ _ (by rfl) i0 .nilIface 16 Tryd.underlying39 hi0 hz0 hz1 hz2 rfl ?c1 (by rfl) (Row.gr HF5.out.row ((Gr.refl w5).alloc (.cells #[.iface ti yi] 31))) ⟨w5.heap.size, 0, none⟩ 1 (by rfl) [.iface ti yi] (by rfl) ?c2 ?c3 ?c4 HFEW.out (by decide) ?_; (case c1 => (intro u hu; simp [Value.cells] at hu; exact .inl hu)); (case c2 => (intro j u hj; exact newOne w5 _ j u hj)); (case c3 => (intro u hu; exact HKD.out.one hu)); (case c4 => (intro u hu; exact HKD.out.one2 hu)); intro v3 w6 hrow hgr hown; obtain ⟨a3, c3, rfl⟩ := Row.shape hrow; have H6 := Lib.hid (HF.out.more HG5.out HKD.out (ifRow_app hrow) hgr hown); have HGB := Lib.hid hgr; clear hrow hgr hown))
          have HOWN : Hid (∀ g, wr.heap.size ≤ g → (Value.slice sa vs.length sc).ownBlock ≠ some g) := Lib.hid (fun g hg e => by have := Row.lt HF.out.row e; omega)
          have HKB : Hid (∀ g, wr.heap.size ≤ g → g < w5.heap.size → w6.heap[g]? = w5.heap[g]?) := Lib.hid (fun g hg hl => by
            rw [HGB.out.block g (by simp; omega) (fun e => HOWN.out g hg e.symm)]
            exact ((Gr.refl w5).alloc _).block hl)
          have HFB6 : Hid (HB w6 fb #[.int .i64 0, .int .i64 pl] 27) := Lib.hid ((HKB.out fb HFB.out.2.2 (Nat.lt_of_lt_of_le HFB.out.1.lt HG35.out.size)).trans (HFB.out.1.gr HG35.out))
          have e6 : w6.cell? ⟨fb, 0, none⟩ = some (.int .i64 0) := HFB6.out.c 0 rfl
          have d0 : w6.cell? ⟨q, 0, none⟩ = some (.int .i64 x.t) := (HW1.out.1.gr H6.out.gr).c 0 rfl
          have d1 : w6.cell? ⟨q, 1, none⟩ = some (.int .i64 x.len) := (HW1.out.1.gr H6.out.gr).c 1 rfl
          have d2 : w6.cell? ⟨q, 2, none⟩ = some (.int .i64 x.flow) := (HW1.out.1.gr H6.out.gr).c 2 rfl
          have d3 : w6.cell? ⟨q, 3, none⟩ = some (.int .i64 x.band) := (HW1.out.1.gr H6.out.gr).c 3 rfl
          have d4 : w6.cell? ⟨q, 4, none⟩ = some (.int .i64 x.mark) := (HW1.out.1.gr H6.out.gr).c 4 rfl
          clear hce hce3
          have HRC : Hid (∀ w', Gr w6 w' → Calls Tryd.prog 8 #[.pointer (some ⟨vb, 0, none⟩), .agg #[.int .i64 x.t, .int .i64 x.len, .int .i64 x.flow, .int .i64 x.band, .int .i64 x.mark]] w' fun E w2 => E = .returned (.bool (meantF x 20 f)) ∧ Gr w' w2) := Lib.hid (rmean_any x ((HR2.out.same (fun g hg hl => (HKB.out g hg (Nat.lt_of_lt_of_le hl (HFB.out.2.1.trans HG35.out).size)).trans ((HFB.out.2.1.trans HG35.out).block hl)) (Nat.le_trans (HFB.out.2.1.trans HG35.out).size (Nat.le_trans (by simp) (Sav.of_grown (B := fun g => (Value.slice sa vs.length sc).ownBlock = some g) HGB.out fun g e => e).size)))))
          obtain ⟨mb, hmb⟩ : ∃ mb, mb = meantF x 20 f := ⟨_, rfl⟩
          rw [← hmb] at HRC HOK
          clear hmb
          by_cases hneg : firstTo pp i < 0
          · cases mb with
            | true =>
              have HNX : Hid (firstTo pp (i + 1) = (i : Int)) := Lib.hid (by rw [firstTo_succ, if_neg (by omega), if_pos HOK.out])
              generalize firstTo pp i = z at *
              go_wp2_with (go_at_call 8; refine (HRC.out w6 (Gr.refl _)).mono ?_; rintro E w7 ⟨rfl, hg7⟩; have H7 := Lib.hid (H6.out.grow hg7); clear hg7)
              go_roundw
              case rel => exact ⟨i + 1, _, _, by omega, by go_num, by rw [HNX.out], H7⟩
              case measure => simp [intOf]; omega
            | false =>
              have HNX : Hid (firstTo pp (i + 1) = firstTo pp i) := Lib.hid (by rw [firstTo_succ, if_neg (by omega), if_neg (by rw [HOK.out]; decide), show firstTo pp i = -1 from (firstTo_or pp i).resolve_right (by omega)])
              generalize firstTo pp i = z at *
              go_wp2_with (go_at_call 8; refine (HRC.out w6 (Gr.refl _)).mono ?_; rintro E w7 ⟨rfl, hg7⟩; have H7 := Lib.hid (H6.out.grow hg7); clear hg7)
              go_roundw
              case rel => exact ⟨i + 1, _, _, by omega, by go_num, by rw [HNX.out], H7⟩
              case measure => simp [intOf]; omega
          · have HNX : Hid (firstTo pp (i + 1) = firstTo pp i) := Lib.hid (by rw [firstTo_succ, if_pos (by omega)])
            generalize firstTo pp i = z at *
            go_wp2
            go_roundw
            case rel => exact ⟨i + 1, _, _, by omega, by go_num, by rw [HNX.out], H6⟩
            case measure => simp [intOf]; omega
        | err c R =>
          have HOK : Hid (pp i = false) := Lib.hid (by rw [HPP.out, ← HT.out]; unfold okP; rw [hp])
          have HP := Lib.hid hp
          clear hp
          go_upto_region 11 with (first
            | (go_at_call 6
               refine (rparse_any (HEN.out.gr (HW1.out.2.trans HF.out.gr)) t HSZ.out).mono ?_
               rintro E w2 hq
               rw [HP.out] at hq
               obtain ⟨v, pl, rfl, ⟨va, rfl⟩, hc0, hg⟩ := hq
               have HG2 := Lib.hid hg
               have HC0 := Lib.hid hc0
               clear hg hc0))
          obtain ⟨fb, hfb⟩ : ∃ fb, fb = w2.heap.size := ⟨_, rfl⟩
          obtain ⟨w3, hw3⟩ : ∃ w3, w3 = w2.alloc (.cells #[.int .i64 c, .int .i64 pl] 27) := ⟨_, rfl⟩
          have HFB : Hid (HB w3 fb #[.int .i64 c, .int .i64 pl] 27 ∧ Gr w2 w3 ∧ wr.heap.size ≤ fb) := Lib.hid (by rw [hw3, hfb]; exact ⟨HB.new _ _ _, (Gr.refl w2).alloc _, HG2.out.size⟩)
          rw [← hw3, ← hfb]
          clear hw3 hfb
          have hce3 : w3.cell? ⟨b, off + i, none⟩ = some (.string t) := (HG2.out.trans HFB.out.2.1).cell hce
          go_upto_region 12 with (first
            | (go_at_call 7
               refine (parse_any (HEN.out.gr ((HW1.out.2.trans HF.out.gr).trans (HG2.out.trans HFB.out.2.1))) t HSZ.out).mono ?_
               rintro E w4 hq
               rw [HP.out] at hq
               obtain ⟨u, ub, rfl, ha, hg⟩ := hq
               obtain ⟨rfl, _⟩ := ha
               have HG4 := Lib.hid hg
               have HK4 : Hid (KidP (fun g => w3.heap.size ≤ g) w4 .nilIface (pAll (T i))) := Lib.hid (by rw [← HT.out, HP.out]; exact rfl)
               clear hg))
          have e4 : w4.cell? ⟨fb, 0, none⟩ = some (.int .i64 c) := (HFB.out.1.gr HG4.out).c 0 rfl
          have hc0 : decide (c = 0) = false := decide_eq_false HC0.out
          have hc1 : (c == 0) = false := beq_false_of_ne HC0.out
          have hc2 : ¬ c = 0 := HC0.out
          go_quiet (fail)
          obtain ⟨w5, hw5⟩ : ∃ w5, w5 = w4.drewN nq := ⟨_, rfl⟩
          have HG5 : Hid (Gr wr w5) := Lib.hid (by rw [hw5]; exact ((HG2.out.trans HFB.out.2.1).trans HG4.out).drewN nq)
          have HG35 : Hid (Gr w3 w5) := Lib.hid (by rw [hw5]; exact HG4.out.drewN nq)
          have HKD : Hid (KidP (fun g => wr.heap.size ≤ g) w5 (.nilIface) (pAll (T i))) := Lib.hid (by rw [hw5]; exact (KidP.same (w' := w4.drewN nq) HK4.out (fun _ _ => rfl)).mono fun g hg => Nat.le_trans (HG2.out.trans HFB.out.2.1).size hg)
          rw [← hw5]
          clear hw5 e4
          have HF5 := Lib.hid (HF.out.grow HG5.out)
          go_upto_region 15 with (first | (at_builtin; refine wpList_append_row rfl _ _ _ (by rfl) i0 .nilIface 16 Tryd.underlying39 hi0 hz0 hz1 hz2 rfl ?c1 (by rfl) (Row.gr HF5.out.row ((Gr.refl w5).alloc (.cells #[.nilIface] 31))) ⟨w5.heap.size, 0, none⟩ 1 (by rfl) [.nilIface] (by rfl) ?c2 ?c3 ?c4 HFEW.out (by decide) ?_; (case c1 => (intro u hu; simp [Value.cells] at hu; exact .inl hu)); (case c2 => (intro j u hj; exact newOne w5 _ j u hj)); (case c3 => (intro u hu; exact HKD.out.one hu)); (case c4 => (intro u hu; exact HKD.out.one2 hu)); intro v3 w6 hrow hgr hown; obtain ⟨a3, c3, rfl⟩ := Row.shape hrow; have H6 := Lib.hid (HF.out.more HG5.out HKD.out (ifRow_app hrow) hgr hown); have HGB := Lib.hid hgr; clear hrow hgr hown))
          have HOWN : Hid (∀ g, wr.heap.size ≤ g → (Value.slice sa vs.length sc).ownBlock ≠ some g) := Lib.hid (fun g hg e => by have := Row.lt HF.out.row e; omega)
          have HKB : Hid (∀ g, wr.heap.size ≤ g → g < w5.heap.size → w6.heap[g]? = w5.heap[g]?) := Lib.hid (fun g hg hl => by
            rw [HGB.out.block g (by simp; omega) (fun e => HOWN.out g hg e.symm)]
            exact ((Gr.refl w5).alloc _).block hl)
          have HFB6 : Hid (HB w6 fb #[.int .i64 c, .int .i64 pl] 27) := Lib.hid ((HKB.out fb HFB.out.2.2 (Nat.lt_of_lt_of_le HFB.out.1.lt HG35.out.size)).trans (HFB.out.1.gr HG35.out))
          have e6 : w6.cell? ⟨fb, 0, none⟩ = some (.int .i64 c) := HFB6.out.c 0 rfl
          have d0 : w6.cell? ⟨q, 0, none⟩ = some (.int .i64 x.t) := (HW1.out.1.gr H6.out.gr).c 0 rfl
          have d1 : w6.cell? ⟨q, 1, none⟩ = some (.int .i64 x.len) := (HW1.out.1.gr H6.out.gr).c 1 rfl
          have d2 : w6.cell? ⟨q, 2, none⟩ = some (.int .i64 x.flow) := (HW1.out.1.gr H6.out.gr).c 2 rfl
          have d3 : w6.cell? ⟨q, 3, none⟩ = some (.int .i64 x.band) := (HW1.out.1.gr H6.out.gr).c 3 rfl
          have d4 : w6.cell? ⟨q, 4, none⟩ = some (.int .i64 x.mark) := (HW1.out.1.gr H6.out.gr).c 4 rfl
          clear hce hce3
          have HNX : Hid (firstTo pp (i + 1) = firstTo pp i) := Lib.hid (by rw [firstTo_succ]; rcases firstTo_or pp i with h | h; (· rw [h, if_neg (by decide), if_neg (by rw [HOK.out]; decide)]); (· rw [if_pos h.1]))
          have HWI := Lib.hid hwi
          generalize firstTo pp i = z at *
          go_wp2
          go_roundw
          case rel => exact ⟨i + 1, _, _, by omega, by go_num, by rw [HNX.out], H6⟩
          case measure => simp [intOf]; omega
    · obtain rfl : i = n := by omega
      have HFST := Lib.hid (first_any x T i (.slice sa vs.length sc) vs S wr HF.out.row HF.out.len HN10.out HF.out.kids)
      rw [← HPQ.out] at HFST
      have HGR := Lib.hid (HW1.out.2.trans HF.out.gr)
      have d0 : wr.cell? ⟨q, 0, none⟩ = some (.int .i64 x.t) := (HW1.out.1.gr HF.out.gr).c 0 rfl
      have d1 : wr.cell? ⟨q, 1, none⟩ = some (.int .i64 x.len) := (HW1.out.1.gr HF.out.gr).c 1 rfl
      have d2 : wr.cell? ⟨q, 2, none⟩ = some (.int .i64 x.flow) := (HW1.out.1.gr HF.out.gr).c 2 rfl
      have d3 : wr.cell? ⟨q, 3, none⟩ = some (.int .i64 x.band) := (HW1.out.1.gr HF.out.gr).c 3 rfl
      have d4 : wr.cell? ⟨q, 4, none⟩ = some (.int .i64 x.mark) := (HW1.out.1.gr HF.out.gr).c 4 rfl
      generalize firstTo pp i = z at *
      clear hwi
      go_wp2_with (go_at_call 9; refine HFST.out.mono ?_; rintro E w9 ⟨rfl, hg9⟩; have HG9 := Lib.hid (HGR.out.trans hg9); clear hg9)
      go_ret
      exact ⟨by simp, HG9.out⟩
end Go.Proofs.YthkccohigoejgaaDoor

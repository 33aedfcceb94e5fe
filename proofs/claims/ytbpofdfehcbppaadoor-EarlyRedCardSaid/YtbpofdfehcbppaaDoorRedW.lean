/-
  millracelaw.EarlyRed, walked. (Printed by genredw.py.)
-/
import Derived.Test.YtbpofdfehcbppaaDoorRedG
import Derived.Test.YtbpofdfehcbppaaDoorPlayD
namespace Go.Proofs.YtbpofdfehcbppaaDoor
open Go.RowKit Go.Extern.Stop Go.Stop Go.Extern

section
variable {ev : Operand → Value} {o : Oper} {w : World} {x y z : Operand} {u : Value}
theorem rdc_loadP__early_Red {ad : Addr} {v : Option Addr} (ho : o.op = .load 57 x) (h : ev x = .pointer (some ad)) (hc : w.cell? ad = some (.pointer v)) : (execOp ev o).run Tryd.prog w = .ok (.value (.pointer v)) w := by
  simp [execOp, ho, h, hc, go_sem]
theorem rdc_call___millrace_early_Red__Mean {x0 : Operand} {v0 : Value} (ho : o.op = .call { callee := .value (.func 17), args := #[x0], argTypes := #[57] }) (hf : ev (.func 17) = .func (.func 17) #[] #[]) (h0 : ev x0 = v0) : (execOp ev o).run Tryd.prog w = .ok (.enter 17 #[v0]) w := by
  simp [execOp, ho, hf, h0, resolve, invoke, go_sem]
theorem rdc_loadP__millraceref_Red {ad : Addr} {v : Option Addr} (ho : o.op = .load 60 x) (h : ev x = .pointer (some ad)) (hc : w.cell? ad = some (.pointer v)) : (execOp ev o).run Tryd.prog w = .ok (.value (.pointer v)) w := by
  simp [execOp, ho, h, hc, go_sem]
theorem rdc_call___millrace_millraceref_Red__Mean {x0 : Operand} {v0 : Value} (ho : o.op = .call { callee := .value (.func 18), args := #[x0], argTypes := #[60] }) (hf : ev (.func 18) = .func (.func 18) #[] #[]) (h0 : ev x0 = v0) : (execOp ev o).run Tryd.prog w = .ok (.enter 18 #[v0]) w := by
  simp [execOp, ho, hf, h0, resolve, invoke, go_sem]
theorem rdc_eql {m n : Int} {b : Bool} (ho : o.op = .binOp .eql 3 x y 3) (h : ev x = .int .i64 m) (k : ev y = .int .i64 n) (hb : decide (m = n) = b) : (execOp ev o).run Tryd.prog w = .ok (.value (.bool b)) w := by
  subst hb
  simp [execOp, ho, h, k, go_sem]
  rfl
end

set_option maxRecDepth 100000 in
theorem redthen (rb xb p pr : Nat) {v tv v2 tv2 : Value} {q : RedP} (hq : q.Ok) {l l2 : List Hel} {m c c2 : Int} {u u2 : Nat} (w : World) (hrb : w.cell? ⟨rb, 0, none⟩ = some (.pointer (some ⟨p, 0, none⟩))) (hxb : w.cell? ⟨xb, 0, none⟩ = some (.pointer (some ⟨pr, 0, none⟩)))
    (ha : RedAt w p v tv q l m c u) (hr : RRedAt w pr v2 tv2 q l2 m c2 u2) (hm : 0 ≤ m ∧ m ≤ (2 : Int) ^ q.slow * 2000001) :
    Calls Tryd.prog 16 #[.pointer (some ⟨rb, 0, none⟩), .pointer (some ⟨xb, 0, none⟩)] w fun e w' => e = .returned (.bool true) ∧ Gr w w' := by
  have HRB := Lib.hid hrb
  have HXB := Lib.hid hxb
  have HA := Lib.hid ha
  have HR := Lib.hid hr
  have HQ := Lib.hid hq
  have HM := Lib.hid hm
  clear hrb hxb ha hr hq hm
  go_enter Tryd.func16, Tryd.ntmps16
  go_upto_region 1 with fail
  refine wp_region_gg (n := 5) [Fg.eq (.pointer (some ⟨p, 0, none⟩)), Fg.eq ((.int .i64 (mean q.slow m))), Fg.eq (.pointer (some ⟨pr, 0, none⟩)), Fg.eq ((.int .i64 (mean q.slow m))), Fg.eq (.bool true)] [3, 4, 5, 6, 7] (by kernel_rfl) (by kernel_rfl) (by kernel_rfl) ?_ ?_
  · intro L i o' ac w1 hi ho hA
    have hgr : Gr w w1 := (Gr.refl w).drew.trans hA.gr
    match i, hi with
    | 0, _ =>
      obtain rfl := Option.some.inj ho
      exact gg_plain rfl (gstep_val (rdc_loadP__early_Red rfl (show ac.eval (.tmp 0) = .pointer (some ⟨rb, 0, none⟩) from hA.other 0 (by decide)) (hgr.cell HRB.out)) rfl)
    | 1, _ =>
      obtain rfl := Option.some.inj ho
      exact gg_plain rfl (gstep_call (rdc_call___millrace_early_Red__Mean rfl rfl (hA.fact 0 (hA.dep 0 (by kernel_rfl) (by decide)))) ((redmean_any p m q.slow w1 (hgr.cell HA.out.m) (hgr.cell HA.out.s3) HQ.out.slow).mono (fun e w' ⟨h1, h2⟩ => ⟨_, h1, h2, rfl⟩)))
    | 2, _ =>
      obtain rfl := Option.some.inj ho
      exact gg_plain rfl (gstep_val (rdc_loadP__millraceref_Red rfl (show ac.eval (.tmp 1) = .pointer (some ⟨xb, 0, none⟩) from hA.other 1 (by decide)) (hgr.cell HXB.out)) rfl)
    | 3, _ =>
      obtain rfl := Option.some.inj ho
      exact gg_plain rfl (gstep_call (rdc_call___millrace_millraceref_Red__Mean rfl rfl (hA.fact 2 (hA.dep 2 (by kernel_rfl) (by decide)))) ((rredmean_any pr m q.slow w1 (hgr.cell HR.out.m) (hgr.cell HR.out.s3) HQ.out.slow HM.out.1 HM.out.2).mono (fun e w' ⟨h1, h2⟩ => ⟨_, h1, h2, rfl⟩)))
    | 4, _ =>
      obtain rfl := Option.some.inj ho
      exact gg_plain rfl (gstep_val (rdc_eql rfl (hA.fact 1 (hA.dep 1 (by kernel_rfl) (by decide))) (hA.fact 3 (hA.dep 3 (by kernel_rfl) (by decide))) (decide_eq_true rfl)) rfl)
    | k + 5, hk => exact absurd (show k + 5 < 5 from hk) (by omega)
  · intro vs w5 hg5 hv
    have HGX := Lib.hid ((Gr.refl w).drew.trans hg5)
    have v7 : vs 4 = .bool true := hv 4 (by omega)
    clear hv hg5
    simp only [putN, List.drop_succ_cons, List.drop_zero, List.getElem?_cons_succ, List.getElem?_cons_zero]
    generalize vs 4 = z7 at *
    subst v7
    generalize vs 0 = z3 at *
    generalize vs 1 = z4 at *
    generalize vs 2 = z5 at *
    generalize vs 3 = z6 at *
    go_wp2
    go_ret
    exact ⟨rfl, HGX.out⟩
set_option maxRecDepth 100000 in
theorem red_play (W Wn : World) {q : RedP} (hq : q.Ok) {p pr rb xb : Nat} {tv' tv : Value} (ha : RedAt Wn p (.slice none 0 0) tv' q [] 0 0 0) (hr : RRedAt Wn pr (.slice none 0 0) tv q [] 0 0 0)
    (hrb : Wn.cell? ⟨rb, 0, none⟩ = some (.pointer (some ⟨p, 0, none⟩))) (hxb : Wn.cell? ⟨xb, 0, none⟩ = some (.pointer (some ⟨pr, 0, none⟩))) (hg : Gr W Wn)
    (h1 : W.heap.size ≤ p) (h2 : p < rb) (h3 : ∀ g, tv'.ownBlock = some g → W.heap.size ≤ g ∧ g < rb) (h4 : rb < pr) (h5 : pr < xb) (h6 : ∀ g, q.tape ≠ [] → tv.ownBlock = some g → g < W.heap.size)
    {v : Value} {xs : List Stp} (hx : StpIn Wn v xs) (hl : xs.length ≤ 120) :
    Calls Tryd.prog 12 #[.iface 57 (.pointer (some ⟨p, 0, none⟩)), .iface 60 (.pointer (some ⟨pr, 0, none⟩)), v, .func (.func 16) #[] #[.pointer (some ⟨rb, 0, none⟩), .pointer (some ⟨xb, 0, none⟩)]] Wn fun e w' => e = .returned (.bool true) ∧ Gr W w' := by
  have ok0 : RedOk q ⟨[], 0, 0, 0⟩ 0 := ⟨.nil, ⟨Int.le_refl _, by have := pow2 q.slow; show (0 : Int) ≤ (2 : Int) ^ q.slow * 2000001; generalize (2 : Int) ^ q.slow = N at *; omega⟩, ⟨Int.le_refl _, Int.le_refl _⟩, Nat.le_refl _⟩
  have hI : ((redSide W.heap.size p q).boxed rb (.pointer (some ⟨p, 0, none⟩))).I Wn (.slice none 0 0, tv') ⟨[], 0, 0, 0⟩ 0 :=
    ⟨⟨ha, ok0, h1, (fun g hg => by cases hg), fun g hg => (h3 g hg).1⟩, hrb, by omega, fun e => e.elim (fun e => e.elim (fun e => by omega) (fun e => by cases e)) (fun e => by have := (h3 _ e).2; omega)⟩
  have hJ : ((rredSide W.heap.size pr q tv).boxed xb (.pointer (some ⟨pr, 0, none⟩))).I Wn (.slice none 0 0) ⟨[], 0, 0, 0⟩ 0 :=
    ⟨⟨hr, ok0, ⟨by omega, fun g hg => by cases hg⟩, h6⟩, hxb, by omega, fun e => e.elim (fun e => by omega) (fun e => by cases e)⟩
  refine (played_any ((red_pside hq).boxed rb _) ((rred_side hq).boxed xb _) Wn _ _ _ ⟨hI, hJ, ?_⟩ hg.size v xs hx hl _ (.inr ⟨_, _, rfl, fun w => by kernel_rfl, ?_⟩)).mono fun e w' ⟨h3, h4⟩ => ⟨h3, Sav.gr hg h4 fun q hq => hq⟩
  · intro g hg hg'
    rcases hg with (e | e) | e
    · rcases e with e | e
      · rcases hg' with (e' | e') | e'
        · omega
        · cases e'
        · omega
      · cases e
    · have := (h3 g e).2
      rcases hg' with (e' | e') | e'
      · omega
      · cases e'
      · omega
    · rcases hg' with (e' | e') | e'
      · omega
      · cases e'
      · omega
  · intro w b c a n hB
    exact redthen rb xb p pr hq w hB.s.2.1 hB.t.2.1 hB.s.1.at_ hB.t.1.at_ hB.s.1.ok.m
theorem ints_low {w : World} {v : Value} {xs : List Int} (h : Ints w v xs) : ∀ g, xs ≠ [] → v.ownBlock = some g → g < w.heap.size := by
  rcases h with ⟨_, _, _, rfl⟩ | ⟨b, off, cap, rfl, h2, h3, h4⟩
  · intro g h0; exact absurd rfl h0
  · intro g _ hg
    cases hg
    exact cell_lt (h4 0 h2)
set_option maxRecDepth 100000 in
set_option maxHeartbeats 4000000 in
theorem earlyRed_walk (W : World) (hg : Glob W) (lo hi of sl : Int) (mk : Bool) (_ : Bd lo ∧ Bd hi ∧ Bd of ∧ Bd sl) (a : Int) (_ : -9223372036854775808 ≤ a) (_ : a ≤ 9223372036854775807) (b : Int) (_ : -9223372036854775808 ≤ b) (_ : b ≤ 9223372036854775807)
    {tv : Value} {tape : List Int} (ht : Ints W tv tape) (_ : ∀ x ∈ tape, Bd x) {v : Value} {xs : List Stp} (hx : StpIn W v xs) :
    Calls Tryd.prog 5 #[.agg #[.int .i64 lo, .int .i64 hi, .int .i64 of, .int .i64 sl, .bool mk], .int .i64 a, .int .i64 b, tv, v] W fun e W' => e = .returned (.bool true) ∧ Gr W W' := by
  have HX := Lib.hid hx
  have HGL := Lib.hid hg
  have HT := Lib.hid ht
  obtain ⟨sa, sc, rfl, _⟩ := hx
  obtain ⟨ta, tc, rfl⟩ := ints_shape ht
  clear hg ht
  by_cases hl : 120 < xs.length
  · go_enter Tryd.func5, Tryd.ntmps5
    go_wp2
    all_goals first
      | (exfalso; omega)
      | (go_ret; exact ⟨rfl, (Gr.refl _).alloc _⟩)
  · by_cases htl : 1100 < tape.length
    · go_enter Tryd.func5, Tryd.ntmps5
      go_wp2
      all_goals first
        | (exfalso; omega)
        | (go_ret; exact ⟨rfl, (Gr.refl _).alloc _⟩)
    · have HL := Lib.hid (show xs.length ≤ 120 by omega)
      by_cases hr : RoomOk a b
      · have HR := Lib.hid hr
        clear hr
        by_cases hs : SetOk lo hi of sl
        · have HS := Lib.hid hs
          clear hs
          have HCK := Lib.hid (fun w => redck_len lo hi of sl a b mk ta tape.length tc w HR.out HS.out)
          by_cases hlg : 1000 < tape.length
          · have HCK2 := Lib.hid (fun w => by have := HCK.out w; rw [if_pos hlg] at this; exact this)
            have HNW := Lib.hid (fun w => rednew_long lo hi of sl a b mk ta tape.length tc w HR.out HS.out hlg)
            clear HCK
            go_enter Tryd.func5, Tryd.ntmps5
            go_upto_region 4 with fail
            all_goals try (exfalso; omega)
            obtain ⟨w0, hw0⟩ : ∃ w0, w0 = (W.alloc (.cells #[.int .i64 lo, .int .i64 hi, .int .i64 of, .int .i64 sl, .bool mk] 54)).alloc (.cells #[.int .i64 lo, .int .i64 hi, .int .i64 of, .int .i64 sl, .bool mk] 55) := ⟨_, rfl⟩
            obtain ⟨sb, hsb⟩ : ∃ sb, sb = W.heap.size := ⟨_, rfl⟩
            obtain ⟨wb, hwb⟩ : ∃ wb, wb = W.heap.size + 1 := ⟨_, rfl⟩
            have HA0 : Hid (SetAt w0 sb lo hi of sl mk) := Lib.hid (by rw [hw0]; exact (set_new hsb).gr ((Gr.refl _).alloc _))
            have HB0 : Hid (SetAt w0 wb lo hi of sl mk) := Lib.hid (by rw [hw0]; exact set_new (by rw [hwb]; simp))
            have HG0 : Hid (Gr W w0) := Lib.hid (by rw [hw0]; exact ((Gr.refl _).alloc _).alloc _)
            rw [← hw0, ← hwb, ← hsb]
            clear hw0 hwb hsb
            obtain ⟨b0, b1, b2, b3, b4⟩ := HB0.out
            go_wp2_with (first
              | (go_at_call 14; refine (HCK2.out _).mono ?_; rintro e w1 ⟨rfl, hg1⟩; have HG1 := Lib.hid (HG0.out.trans hg1); obtain ⟨c0, c1, c2, c3, c4⟩ := HA0.out.gr hg1; clear hg1)
              | (go_at_call 15; refine (HNW.out _).mono ?_; rintro e w2 ⟨rfl, hg2⟩; have HG2 := Lib.hid (HG1.out.trans hg2); clear hg2)
              | (go_at_call 11; refine (bare_true _ (HGL.out.gr (HG2.out.alloc _)) (ErrIs.no _ _)).mono ?_; rintro e w4 ⟨rfl, hg4⟩; have c5 := hg4.cell (alloc_cell w2 w2.heap.size rfl (cs := #[.pointer none]) (t := 57) (o := 0)); have HG4 := Lib.hid ((HG2.out.alloc _).trans hg4); clear hg4))
            all_goals first
              | (exfalso; omega)
              | (go_ret; exact ⟨rfl, HG4.out⟩)
          · have HCK2 := Lib.hid (fun w => by have := HCK.out w; rw [if_neg hlg] at this; exact this)
            have HNW := Lib.hid (fun w (h : Ints w (.slice ta tape.length tc) tape) => rednew_ok lo hi of sl a b mk _ tape w HS.out HR.out h (by omega))
            clear HCK
            have HQ : Hid (RedP.Ok ⟨lo, hi, of, sl.toNat, mk, a, b, tape⟩) := Lib.hid (by
              obtain ⟨g1, g2, g3, g4, g5⟩ := HS.out
              exact ⟨g1, g2, g3, g4, by simp only; omega, HR.out.1, HR.out.2, by simp only; omega⟩)
            go_enter Tryd.func5, Tryd.ntmps5
            go_upto_region 4 with fail
            all_goals try (exfalso; omega)
            obtain ⟨w0, hw0⟩ : ∃ w0, w0 = (W.alloc (.cells #[.int .i64 lo, .int .i64 hi, .int .i64 of, .int .i64 sl, .bool mk] 54)).alloc (.cells #[.int .i64 lo, .int .i64 hi, .int .i64 of, .int .i64 sl, .bool mk] 55) := ⟨_, rfl⟩
            obtain ⟨sb, hsb⟩ : ∃ sb, sb = W.heap.size := ⟨_, rfl⟩
            obtain ⟨wb, hwb⟩ : ∃ wb, wb = W.heap.size + 1 := ⟨_, rfl⟩
            have HA0 : Hid (SetAt w0 sb lo hi of sl mk) := Lib.hid (by rw [hw0]; exact (set_new hsb).gr ((Gr.refl _).alloc _))
            have HB0 : Hid (SetAt w0 wb lo hi of sl mk) := Lib.hid (by rw [hw0]; exact set_new (by rw [hwb]; simp))
            have HG0 : Hid (Gr W w0) := Lib.hid (by rw [hw0]; exact ((Gr.refl _).alloc _).alloc _)
            rw [← hw0, ← hwb, ← hsb]
            clear hw0 hwb hsb
            obtain ⟨b0, b1, b2, b3, b4⟩ := HB0.out
            go_upto_region 10 with (first
              | (go_at_call 14; refine (HCK2.out _).mono ?_; rintro e w1 ⟨rfl, hg1⟩; have HG1 := Lib.hid (HG0.out.trans hg1); obtain ⟨c0, c1, c2, c3, c4⟩ := HA0.out.gr hg1; have HB1 := Lib.hid (HB0.out.gr hg1); clear hg1)
              | (go_at_call 15; refine (HNW.out _ (HT.out.gr HG1.out)).mono ?_; rintro e w2 ⟨p, tv', rfl, hat, hg2, hp, hown⟩; have HG2 := Lib.hid (HG1.out.trans hg2); have HB2 := Lib.hid (HB1.out.gr hg2); have HAT := Lib.hid hat; have HP2 := Lib.hid hp; have HOW := Lib.hid hown; clear hg2 hat hp hown))
            all_goals try (exfalso; omega)
            obtain ⟨w3, hw3⟩ : ∃ w3, w3 = w2.alloc (.cells #[.pointer (some ⟨p, 0, none⟩)] 57) := ⟨_, rfl⟩
            obtain ⟨rb, hrb⟩ : ∃ rb, rb = w2.heap.size := ⟨_, rfl⟩
            have HG3 : Hid (Gr w2 w3) := Lib.hid (by rw [hw3]; exact (Gr.refl _).alloc _)
            have c5 : w3.cell? ⟨rb, 0, none⟩ = some (.pointer (some ⟨p, 0, none⟩)) := by rw [hw3, hrb]; simp
            have HC5 := Lib.hid c5
            have HRB := Lib.hid hrb
            rw [← hw3, ← hrb]
            clear hw3 hrb b0 b1 b2 b3 b4 c0 c1 c2 c3 c4
            obtain ⟨b0, b1, b2, b3, b4⟩ := HB2.out.gr HG3.out
            go_upto_region 11 with fail
            obtain ⟨w5, hw5⟩ : ∃ w5, w5 = (w3.alloc (.cells #[.int .i64 a, .int .i64 b, .bool false, .slice none 0 0, .int .i64 lo, .int .i64 hi, .int .i64 of, .int .i64 sl, .bool mk, .slice ta tape.length tc, .int .i64 0, .int .i64 0, .int .i64 0] 62)).alloc (.cells #[.pointer (some ⟨w3.heap.size, 0, none⟩)] 60) := ⟨_, rfl⟩
            obtain ⟨pr, hpr⟩ : ∃ pr, pr = w3.heap.size := ⟨_, rfl⟩
            obtain ⟨xb, hxb⟩ : ∃ xb, xb = w3.heap.size + 1 := ⟨_, rfl⟩
            have HG5 : Hid (Gr w3 w5) := Lib.hid (by rw [hw5]; exact ((Gr.refl _).alloc _).alloc _)
            have c6 : w5.cell? ⟨xb, 0, none⟩ = some (.pointer (some ⟨pr, 0, none⟩)) := by rw [hw5, hpr, hxb]; exact alloc_cell _ _ (by simp)
            have HTL := Lib.hid (ints_low HT.out)
            have HLT : Hid (W.heap.size ≤ p ∧ p < rb ∧ rb < pr ∧ pr < xb ∧ (∀ g, tv'.ownBlock = some g → W.heap.size ≤ g ∧ g < rb) ∧ W.heap.size ≤ pr) := Lib.hid (by
              have h1 := HG1.out.size
              have h2 := HG2.out.size
              have h3 := HG3.out.size
              have h4 := HP2.out
              have h5 := HAT.out.lt
              have h6 := HRB.out
              have h7 := cell_lt HC5.out
              simp only at h7
              refine ⟨by omega, by omega, by omega, by omega, fun g hg => ⟨by have := HOW.out g hg; omega, by have := (HAT.out.ap g hg).2.2; omega⟩, by omega⟩)
            have HRR : Hid (RRedAt w5 pr (.slice none 0 0) (.slice ta tape.length tc) ⟨lo, hi, of, sl.toNat, mk, a, b, tape⟩ [] 0 0 0) := Lib.hid (by
              have hsl : ((sl.toNat : Nat) : Int) = sl := Int.toNat_of_nonneg HS.out.2.2.2.2.1
              have h8 := HLT.out.2.2.2.2.2
              have h9 := (HG2.out.trans HG3.out).trans HG5.out
              rw [hw5, hpr]
              refine RRedAt.gr ⟨⟨by simp, by simp, by simp, by simp, by simp, RowH.nil _ _⟩, by simp, by simp, by simp, by simp [hsl], by simp, by simp, by simp, by simp, by simp, by simp, by simp, by simp, (HT.out.gr (HG2.out.trans HG3.out)).gr ((Gr.refl _).alloc _), fun g h0 hg => ⟨by have := HTL.out g h0 hg; omega, (fun e => by cases e), by have := HTL.out g h0 hg; simp; omega⟩⟩ ((Gr.refl _).alloc _))
            rw [← hpr] at hw5 hxb
            rw [← hpr, ← hxb, ← hw5]
            clear hw5 hpr hxb b0 b1 b2 b3 b4
            have c7 := HG5.out.cell c5
            clear c5
            have HC6 := Lib.hid c6
            have HC7 := Lib.hid c7
            go_wp2_with (go_at_call 12; refine (red_play W w5 HQ.out ((HAT.out.gr HG3.out).gr HG5.out) HRR.out HC7.out HC6.out ((HG2.out.trans HG3.out).trans HG5.out) HLT.out.1 HLT.out.2.1 HLT.out.2.2.2.2.1 HLT.out.2.2.1 HLT.out.2.2.2.1 HTL.out (HX.out.gr ((HG2.out.trans HG3.out).trans HG5.out)) HL.out).mono ?_; rintro e w1 ⟨rfl, hg9⟩; have HG9 := Lib.hid hg9; clear hg9)
            go_ret
            exact ⟨rfl, HG9.out⟩
        · have HCK2 := Lib.hid (fun w => redck_set lo hi of sl a b mk (.slice ta tape.length tc) w HR.out hs)
          have HNW := Lib.hid (fun w => rednew_set lo hi of sl a b mk (.slice ta tape.length tc) w HR.out hs)
          clear hs
          go_enter Tryd.func5, Tryd.ntmps5
          go_upto_region 4 with fail
          all_goals try (exfalso; omega)
          obtain ⟨w0, hw0⟩ : ∃ w0, w0 = (W.alloc (.cells #[.int .i64 lo, .int .i64 hi, .int .i64 of, .int .i64 sl, .bool mk] 54)).alloc (.cells #[.int .i64 lo, .int .i64 hi, .int .i64 of, .int .i64 sl, .bool mk] 55) := ⟨_, rfl⟩
          obtain ⟨sb, hsb⟩ : ∃ sb, sb = W.heap.size := ⟨_, rfl⟩
          obtain ⟨wb, hwb⟩ : ∃ wb, wb = W.heap.size + 1 := ⟨_, rfl⟩
          have HA0 : Hid (SetAt w0 sb lo hi of sl mk) := Lib.hid (by rw [hw0]; exact (set_new hsb).gr ((Gr.refl _).alloc _))
          have HB0 : Hid (SetAt w0 wb lo hi of sl mk) := Lib.hid (by rw [hw0]; exact set_new (by rw [hwb]; simp))
          have HG0 : Hid (Gr W w0) := Lib.hid (by rw [hw0]; exact ((Gr.refl _).alloc _).alloc _)
          rw [← hw0, ← hwb, ← hsb]
          clear hw0 hwb hsb
          obtain ⟨b0, b1, b2, b3, b4⟩ := HB0.out
          go_wp2_with (first
            | (go_at_call 14; refine (HCK2.out _).mono ?_; rintro e w1 ⟨rfl, hg1⟩; have HG1 := Lib.hid (HG0.out.trans hg1); obtain ⟨c0, c1, c2, c3, c4⟩ := HA0.out.gr hg1; clear hg1)
            | (go_at_call 15; refine (HNW.out _).mono ?_; rintro e w2 ⟨rfl, hg2⟩; have HG2 := Lib.hid (HG1.out.trans hg2); clear hg2)
            | (go_at_call 11; refine (bare_true _ (HGL.out.gr (HG2.out.alloc _)) (ErrIs.no _ _)).mono ?_; rintro e w4 ⟨rfl, hg4⟩; have c5 := hg4.cell (alloc_cell w2 w2.heap.size rfl (cs := #[.pointer none]) (t := 57) (o := 0)); have HG4 := Lib.hid ((HG2.out.alloc _).trans hg4); clear hg4))
          all_goals first
            | (exfalso; omega)
            | (go_ret; exact ⟨rfl, HG4.out⟩)
      · have HCK2 := Lib.hid (fun w => redck_room lo hi of sl a b mk (.slice ta tape.length tc) w hr)
        have HNW := Lib.hid (fun w => rednew_room lo hi of sl a b mk (.slice ta tape.length tc) w hr)
        clear hr
        go_enter Tryd.func5, Tryd.ntmps5
        go_upto_region 4 with fail
        all_goals try (exfalso; omega)
        obtain ⟨w0, hw0⟩ : ∃ w0, w0 = (W.alloc (.cells #[.int .i64 lo, .int .i64 hi, .int .i64 of, .int .i64 sl, .bool mk] 54)).alloc (.cells #[.int .i64 lo, .int .i64 hi, .int .i64 of, .int .i64 sl, .bool mk] 55) := ⟨_, rfl⟩
        obtain ⟨sb, hsb⟩ : ∃ sb, sb = W.heap.size := ⟨_, rfl⟩
        obtain ⟨wb, hwb⟩ : ∃ wb, wb = W.heap.size + 1 := ⟨_, rfl⟩
        have HA0 : Hid (SetAt w0 sb lo hi of sl mk) := Lib.hid (by rw [hw0]; exact (set_new hsb).gr ((Gr.refl _).alloc _))
        have HB0 : Hid (SetAt w0 wb lo hi of sl mk) := Lib.hid (by rw [hw0]; exact set_new (by rw [hwb]; simp))
        have HG0 : Hid (Gr W w0) := Lib.hid (by rw [hw0]; exact ((Gr.refl _).alloc _).alloc _)
        rw [← hw0, ← hwb, ← hsb]
        clear hw0 hwb hsb
        obtain ⟨b0, b1, b2, b3, b4⟩ := HB0.out
        go_wp2_with (first
          | (go_at_call 14; refine (HCK2.out _).mono ?_; rintro e w1 ⟨rfl, hg1⟩; have HG1 := Lib.hid (HG0.out.trans hg1); obtain ⟨c0, c1, c2, c3, c4⟩ := HA0.out.gr hg1; clear hg1)
          | (go_at_call 15; refine (HNW.out _).mono ?_; rintro e w2 ⟨rfl, hg2⟩; have HG2 := Lib.hid (HG1.out.trans hg2); clear hg2)
          | (go_at_call 11; refine (bare_true _ (HGL.out.gr (HG2.out.alloc _)) (ErrIs.no _ _)).mono ?_; rintro e w4 ⟨rfl, hg4⟩; have c5 := hg4.cell (alloc_cell w2 w2.heap.size rfl (cs := #[.pointer none]) (t := 57) (o := 0)); have HG4 := Lib.hid ((HG2.out.alloc _).trans hg4); clear hg4))
        all_goals first
          | (exfalso; omega)
          | (go_ret; exact ⟨rfl, HG4.out⟩)
end Go.Proofs.YtbpofdfehcbppaaDoor

/-
  millraceref.Filled: Has, When. (Printed by genwhen.py.)
-/
import Derived.Test.YtgifghbnpdanhaaGreatDoorBktF
import Derived.Test.YtgifghbnpdanhaaGreatDoorShaperPlaysPart2
import Derived.Test.YtgifghbnpdanhaaGreatDoorShaperPlaysPart7
namespace Go.Proofs.YtgifghbnpdanhaaGreatDoor
open Go.RowKit Go.Extern.Stop Go.Stop Go.Extern

theorem cfr_div (args : Array Value) (w : World) : (callFunc 111 args).run Tryz.prog w = .ok (.enter 111 args) w := by kernel_rfl
theorem cfr_up (args : Array Value) (w : World) : (callFunc 110 args).run Tryz.prog w = .ok (.enter 110 args) w := by kernel_rfl
section
variable {ev : Operand → Value} {o : Oper} {w : World} {x y : Operand} {u : Value}
theorem r_max {a b : Int} {t t' : TypeId} (ho : o.op = .call { callee := .builtin .max, args := #[x, y], argTypes := #[t, t'] }) (h : ev x = .int .i64 a) (k : ev y = .int .i64 b) : (execOp ev o).run Tryz.prog w = .ok (.value (.int .i64 (max a b))) w := by
  by_cases hab : a < b
  · have : max a b = b := by omega
    simp [execOp, ho, h, k, hab, this, go_sem]
  · have : max a b = a := by omega
    simp [execOp, ho, h, k, hab, this, go_sem]
theorem r_add {a b : Int} (ho : o.op = .binOp .add 3 x y 3) (h : ev x = .int .i64 a) (k : ev y = .int .i64 b) (hb : -9223372036854775808 ≤ a + b ∧ a + b ≤ 9223372036854775807) : (execOp ev o).run Tryz.prog w = .ok (.value (.int .i64 (a + b))) w := by
  have hw : IntKind.i64.wrap (a + b) = a + b := by rw [IntKind.wrap_i64]; omega
  simp [execOp, ho, h, k, hw, go_sem]
end
set_option maxRecDepth 100000 in
set_option maxHeartbeats 8000000 in
theorem rhas_any (p g : Nat) (B : Bkt) (s : BSt) (now : Int) (w : World) (h : FAt w p B s g) (hok : B.Ok s) (hn0 : -9223372036854775808 ≤ now) :
    Calls Tryz.prog 158 #[.pointer (some ⟨p, 0, none⟩), .int .i64 now] w fun e w' => e = .returned (.int .i64 (B.has s now).1) ∧ (∃ g', FAt w' p B (B.has s now).2 g') ∧ Only p 3 w w' := by
  by_cases h1 : 1000000000 < now
  · have HT : Hid (B.has s now = (0, s)) := Lib.hid (by unfold Bkt.has; rw [if_pos h1])
    rw [HT.out]
    have H := Lib.hid h
    clear hok h
    go_enter Tryz.func158, Tryz.ntmps158
    go_wp2
    go_ret
    exact ⟨rfl, ⟨g, H.out⟩, Only.refl _ _ _⟩
  · have HF := Lib.hid (to_any p g B s now w h hok (by omega) hn0)
    have hf := B.fill_ok hok (now := now) (by omega)
    have hx0 := hf.x0
    have hx1 := hf.x1
    have hr := B.room
    have ht := B.ht
    have HT : Hid (B.has s now = ((B.fill s now).x / (B.t : Int), B.fill s now)) := Lib.hid (by unfold Bkt.has; rw [if_neg h1])
    rw [HT.out]
    clear hok hf HT h
    generalize B.fill s now = s' at *
    have HD := Lib.hid (fun g u (hr : RatV u g s'.x B.t) => down_any g s'.x B.t u hr (by omega) (by omega))
    clear hx0 hx1 hr ht
    generalize s'.x / (B.t : Int) = q at *
    go_enter Tryz.func158, Tryz.ntmps158
    go_wp2_with (first
      | (go_at_call 107; refine HF.out.mono ?_; rintro e w1 ⟨rfl, ⟨g2, hs⟩, ho⟩; have HS := Lib.hid hs; have HO := Lib.hid ho; have c4 := hs.c4; clear hs ho)
      | (go_at_call 120; refine (HD.out g2 _ HS.out.rat).mono ?_; rintro e w2 ⟨rfl, hg⟩; have HG := Lib.hid hg; clear hg))
    go_ret
    exact ⟨rfl, ⟨g2, HS.out.gr HG.out⟩, HO.out.trans (.of_gr HG.out)⟩
theorem rwhen_no (p g : Nat) (B : Bkt) (s : BSt) (now n : Int) (w : World) (h : FAt w p B s g) (hh : 1000000000 < now ∨ n < 0 ∨ (B.r : Int) < n) :
    Calls Tryz.prog 106 #[.pointer (some ⟨p, 0, none⟩), .int .i64 now, .int .i64 n] w fun e w' => e = .returned (.tuple #[.int .i64 0, .bool false]) ∧ FAt w' p B s g ∧ Only p 3 w w' := by
  have H := Lib.hid h
  have c2 := h.c2
  clear h
  by_cases h1 : 1000000000 < now
  · clear hh
    go_enter Tryz.func106, Tryz.ntmps106
    go_wp2
    go_ret2
    exact ⟨rfl, H.out, Only.refl _ _ _⟩
  · have HB := Lib.hid (fun u => within_no n 0 (B.r : Int) u (by omega))
    clear hh
    go_enter Tryz.func106, Tryz.ntmps106
    go_wp2_with (go_at_call 23; refine (HB.out _).mono ?_; rintro e w1 ⟨rfl, rfl⟩)
    go_ret2
    exact ⟨rfl, H.out, Only.refl _ _ _⟩
set_option maxRecDepth 100000 in
set_option maxHeartbeats 8000000 in
theorem rwhen_any (p g : Nat) (B : Bkt) (s : BSt) (now n : Int) (w : World) (h : FAt w p B s g) (hok : B.Ok s) (hn0 : -9223372036854775808 ≤ now) :
    Calls Tryz.prog 106 #[.pointer (some ⟨p, 0, none⟩), .int .i64 now, .int .i64 n] w fun e w' => e = .returned (.tuple #[.int .i64 (B.when s now n).1.1, .bool (B.when s now n).1.2]) ∧ (∃ g', FAt w' p B (B.when s now n).2 g') ∧ Only p 3 w w' := by
  by_cases hh : 1000000000 < now ∨ n < 0 ∨ (B.r : Int) < n
  · have HT : Hid (B.when s now n = ((0, false), s)) := Lib.hid (by unfold Bkt.when; rw [if_pos hh])
    rw [HT.out]
    exact (rwhen_no p g B s now n w h hh).mono fun e w' ⟨h1, h2, h3⟩ => ⟨h1, ⟨g, h2⟩, h3⟩
  · have g1 : ¬ 1000000000 < now := by omega
    have c2 := h.c2
    have HB := Lib.hid (fun u => within_yes n 0 (B.r : Int) u (by omega) (by omega))
    have HF := Lib.hid (to_any p g B s now w h hok (by omega) hn0)
    have hf := B.fill_ok hok (now := now) (by omega)
    have hbr := B.hr
    have hnd := B.need (n := n) (by omega)
    have HT : Hid (B.when s now n = ((B.at (B.fill s now) n, true), B.fill s now)) := Lib.hid (by unfold Bkt.when; rw [if_neg hh])
    have ⟨l0, l1, hx0, hx1⟩ := hf
    have hr := B.room
    have hb := B.hb
    have ht := B.ht
    have hn2 : 0 ≤ n ∧ n ≤ 1000000 := by omega
    have HI := Lib.hid (fun u => refInt_any n u (by omega))
    rw [HT.out]
    clear h hok hh HT hf
    generalize B.fill s now = s' at *
    have HAT : Hid (B.at s' n = s'.last + max 0 (-((-(n * (B.t : Int) - s'.x)) / (B.b : Int)))) := Lib.hid rfl
    have HAT2 := HAT.out
    generalize B.at s' n = at_ at *
    obtain ⟨lk, hlk⟩ : ∃ lk, lk = n * (B.t : Int) - s'.x := ⟨_, rfl⟩
    rw [← hlk] at HAT2
    have HSB : Hid (∀ g1 g2 u, RatV u g1 n 1 → RatV u g2 s'.x B.t → Calls Tryz.prog 109 #[.pointer (some ⟨g1, 0, none⟩), .pointer (some ⟨g2, 0, none⟩)] u (NewR lk B.t u)) := Lib.hid (fun g1 g2 u h1 h2 => by
      have := refsub_any g1 g2 _ _ _ _ u h1 h2 ⟨ltb5 (by omega), ltb5 (by omega), by omega, by omega, by omega⟩
      rwa [show ((1 : Nat) : Int) = 1 from rfl, Int.mul_one, Nat.one_mul, ← hlk] at this)
    have hl1 : -1000000000000 ≤ lk ∧ lk ≤ 1000000000000 := by omega
    have hpr : (lk.natAbs : Nat) * B.t ≤ 1000000000000 * 1000000 := Nat.mul_le_mul (by omega) ht.2
    have HDV : Hid (∀ g1 g2 u, RatV u g1 lk B.t → RatV u g2 (B.b : Int) B.t → Calls Tryz.prog 111 #[.pointer (some ⟨g1, 0, none⟩), .pointer (some ⟨g2, 0, none⟩)] u (NewR lk B.b u)) := Lib.hid (fun g1 g2 u h1 h2 => by
      have htb : B.t * B.b ≤ 1000000 * 1000000 := Nat.mul_le_mul ht.2 hb.2
      refine (refdiv_any g1 g2 lk B.b B.t B.t u h1 h2 (by omega) ⟨by omega, by omega, by omega, by omega, by rw [Int.natAbs_natCast]; omega, by omega⟩).mono fun e w' h => h.congr (by omega) (by rw [Int.natCast_mul, Int.mul_assoc]))
    have b0 : (0 : Int) < (B.b : Int) := by omega
    have hq : 0 ≤ max 0 (-((-lk) / (B.b : Int))) ∧ max 0 (-((-lk) / (B.b : Int))) ≤ 1000001000000 := by
      rcases Int.lt_or_le 0 lk with h | h
      · have := ceil_pos b0 h; omega
      · rw [ceil_neg b0 h]; omega
    have HUP := Lib.hid (fun g u (hr : RatV u g lk B.b) => up_any g lk B.b u hr (by omega) (by omega))
    have hqb : -2000001000000 ≤ -((-lk) / (B.b : Int)) := by
      rcases Int.lt_or_le 0 lk with h | h
      · have := Int.ediv_neg_of_neg_of_pos (show -lk < 0 by omega) b0; omega
      · have := Int.ediv_le_self (B.b : Int) (show 0 ≤ -lk by omega); omega
    generalize -((-lk) / (B.b : Int)) = qq at *
    have HA := Lib.hid HAT2
    have HQB := Lib.hid (And.intro hq (And.intro l0 l1))
    clear HAT HAT2 hnd hx0 hx1 hr ht hb hbr hn2 hlk hl1 hpr b0
    go_enter Tryz.func106, Tryz.ntmps106
    go_wp2_with (first
      | (go_at_call 23; refine (HB.out _).mono ?_; rintro e w0 ⟨rfl, rfl⟩)
      | (go_at_call 107; refine HF.out.mono ?_; rintro e w2 ⟨rfl, ⟨g2, hs⟩, ho⟩; have H := Lib.hid hs; have HO := Lib.hid ho; clear hs ho))
    have HR := Lib.hid H.out.rat
    have C0 := Lib.hid H.out.c0
    have C1 := Lib.hid H.out.c1
    have C3 := Lib.hid H.out.c3
    have C4 := Lib.hid H.out.c4
    refine wp_region_gr (n := 21) [Fg.eq (.pointer (some ⟨p, 0, none⟩)), Fg.eq (.pointer (some ⟨p, 0, none⟩)), Fg.eq (.pointer (some ⟨p, 3, none⟩)), Fg.eq (.int .i64 s'.last), Fg.eq (.int .i64 n), Fg.rat n 1, Fg.eq (.pointer (some ⟨p, 0, none⟩)), Fg.eq (.pointer (some ⟨p, 0, none⟩)), Fg.eq (.pointer (some ⟨p, 4, none⟩)), Fg.eq (.pointer (some ⟨g2, 0, none⟩)), Fg.rat lk B.t, Fg.eq (.pointer (some ⟨p, 0, none⟩)), Fg.eq (.pointer (some ⟨p, 0, none⟩)), Fg.eq (.pointer (some ⟨p, 0, none⟩)), Fg.eq (.pointer (some ⟨p, 0, none⟩)), Fg.eq (.agg #[.int .i64 (B.b : Int), .int .i64 (B.t : Int)]), Fg.rat (B.b : Int) B.t, Fg.rat lk B.b, Fg.eq (.int .i64 qq), Fg.eq (.int .i64 (max 0 qq)), Fg.eq (.int .i64 (s'.last + max 0 qq))] [23, 24, 25, 26, 27, 28, 29, 30, 31, 32, 33, 34, 35, 36, 37, 38, 39, 40, 41, 42, 43] (by kernel_rfl) (by kernel_rfl) (by kernel_rfl) ?_ ?_
    · intro L i o a w1 hi ho hA
      have hgr : Gr w2 w1 := (Gr.refl w2).drew.trans hA.gr
      match i, hi with
      | 0, _ =>
        obtain rfl := Option.some.inj ho
        exact gstep_val (r_move rfl (hA.other 0 (by decide))) rfl
      | 1, _ =>
        obtain rfl := Option.some.inj ho
        exact gstep_val (r_nil rfl (hA.fact 0 (hA.dep 0 (by kernel_rfl) (by decide)))) rfl
      | 2, _ =>
        obtain rfl := Option.some.inj ho
        exact gstep_val (r_fa_millraceref_Filled_1 rfl (hA.fact 1 (hA.dep 1 (by kernel_rfl) (by decide)))) rfl
      | 3, _ =>
        obtain rfl := Option.some.inj ho
        exact gstep_val (r_loadI rfl (hA.fact 2 (hA.dep 2 (by kernel_rfl) (by decide))) (hgr.cell C3.out)) rfl
      | 4, _ =>
        obtain rfl := Option.some.inj ho
        exact gstep_val (r_move rfl (hA.other 2 (by decide))) rfl
      | 5, _ =>
        obtain rfl := Option.some.inj ho
        refine gstep_call (r_call1 rfl rfl cfr_Int (hA.fact 4 (hA.dep 4 (by kernel_rfl) (by decide)))) ?_
        refine (HI.out w1).mono ?_
        rintro e w2 ⟨g', rfl, _, hr, hg⟩
        exact ⟨_, rfl, hg, g', rfl, hr⟩
      | 6, _ =>
        obtain rfl := Option.some.inj ho
        exact gstep_val (r_move rfl (hA.other 0 (by decide))) rfl
      | 7, _ =>
        obtain rfl := Option.some.inj ho
        exact gstep_val (r_nil rfl (hA.fact 6 (hA.dep 6 (by kernel_rfl) (by decide)))) rfl
      | 8, _ =>
        obtain rfl := Option.some.inj ho
        exact gstep_val (r_fa_millraceref_Filled_2 rfl (hA.fact 7 (hA.dep 7 (by kernel_rfl) (by decide)))) rfl
      | 9, _ =>
        obtain rfl := Option.some.inj ho
        exact gstep_val (r_loadRat rfl (hA.fact 8 (hA.dep 8 (by kernel_rfl) (by decide))) (hgr.cell C4.out)) rfl
      | 10, _ =>
        obtain rfl := Option.some.inj ho
        obtain ⟨k1, hv1, hr1⟩ := (hA.fact 5 (hA.dep 5 (by kernel_rfl) (by decide)))
        refine gstep_call (r_call2 rfl rfl cfr_sub hv1 (hA.fact 9 (hA.dep 9 (by kernel_rfl) (by decide)))) ?_
        refine (HSB.out _ _ w1 hr1 (HR.out.gr hgr)).mono ?_
        rintro e w2 ⟨g', rfl, _, hr, hg⟩
        exact ⟨_, rfl, hg, g', rfl, hr⟩
      | 11, _ =>
        obtain rfl := Option.some.inj ho
        exact gstep_val (r_move rfl (hA.other 0 (by decide))) rfl
      | 12, _ =>
        obtain rfl := Option.some.inj ho
        exact gstep_val (r_nil rfl (hA.fact 11 (hA.dep 11 (by kernel_rfl) (by decide)))) rfl
      | 13, _ =>
        obtain rfl := Option.some.inj ho
        exact gstep_val (r_fa_millraceref_Filled_0 rfl (hA.fact 12 (hA.dep 12 (by kernel_rfl) (by decide)))) rfl
      | 14, _ =>
        obtain rfl := Option.some.inj ho
        exact gstep_val (r_fa_millraceref_Bucket_0 rfl (hA.fact 13 (hA.dep 13 (by kernel_rfl) (by decide)))) rfl
      | 15, _ =>
        obtain rfl := Option.some.inj ho
        exact gstep_val (r_loadRate rfl (hA.fact 14 (hA.dep 14 (by kernel_rfl) (by decide))) (hgr.cell C0.out) (hgr.cell C1.out)) rfl
      | 16, _ =>
        obtain rfl := Option.some.inj ho
        refine gstep_call (r_call1 rfl rfl cfr_Speed (hA.fact 15 (hA.dep 15 (by kernel_rfl) (by decide)))) ?_
        refine (speed_any B.b B.t w1 B.hb.2 ⟨B.ht.1, B.ht.2⟩).mono ?_
        rintro e w2 ⟨g', rfl, _, hr, hg⟩
        exact ⟨_, rfl, hg, g', rfl, hr⟩
      | 17, _ =>
        obtain rfl := Option.some.inj ho
        obtain ⟨k1, hv1, hr1⟩ := (hA.fact 10 (hA.dep 10 (by kernel_rfl) (by decide)))
        obtain ⟨k2, hv2, hr2⟩ := (hA.fact 16 (hA.dep 16 (by kernel_rfl) (by decide)))
        refine gstep_call (r_call2 rfl rfl cfr_div hv1 hv2) ?_
        refine (HDV.out _ _ w1 hr1 hr2).mono ?_
        rintro e w2 ⟨g', rfl, _, hr, hg⟩
        exact ⟨_, rfl, hg, g', rfl, hr⟩
      | 18, _ =>
        obtain rfl := Option.some.inj ho
        obtain ⟨k1, hv1, hr1⟩ := (hA.fact 17 (hA.dep 17 (by kernel_rfl) (by decide)))
        refine gstep_call (r_call1 rfl rfl cfr_up hv1) ?_
        refine (HUP.out _ w1 hr1).mono ?_
        rintro e w2 ⟨rfl, hg⟩
        exact ⟨_, rfl, hg, rfl⟩
      | 19, _ =>
        obtain rfl := Option.some.inj ho
        exact gstep_val (r_max rfl rfl (hA.fact 18 (hA.dep 18 (by kernel_rfl) (by decide)))) rfl
      | 20, _ =>
        obtain rfl := Option.some.inj ho
        exact gstep_val (r_add rfl (hA.fact 3 (hA.dep 3 (by kernel_rfl) (by decide))) (hA.fact 19 (hA.dep 19 (by kernel_rfl) (by decide))) (by have := HQB.out; omega)) rfl
      | k + 21, hk => exact absurd (show k + 21 < 21 from hk) (by omega)
    · intro vs w3 hg hv
      have HG := Lib.hid ((Gr.refl w2).drew.trans hg)
      have v20 : vs 20 = .int .i64 (s'.last + max 0 qq) := hv 20 (by omega)
      clear hv hg
      simp only [putN, List.drop_succ_cons, List.drop_zero, List.getElem?_cons_succ, List.getElem?_cons_zero]
      generalize vs 20 = u20 at *
      subst v20
      rw [← HA.out]
      go_wp2
      go_ret2
      exact ⟨rfl, ⟨g2, H.out.gr HG.out⟩, HO.out.trans (.of_gr HG.out)⟩
end Go.Proofs.YtgifghbnpdanhaaGreatDoor

/-
  The reference's Hashed: Take. (Printed by genhas.py.)
-/
import Derived.Test.YtbpofdfehcbppaaDoorHasI
import Derived.Test.YtbpofdfehcbppaaDoorHasC
namespace Go.Proofs.YtbpofdfehcbppaaDoor
open Go.RowKit Go.Extern.Stop Go.Stop Go.Extern

/-- append([]int{}, v...) -/
theorem wpList_append_int0 {ops : Array Oper} {rest : List Oper} {o : Oper} {a : Act} {Q : Exit → Act → World → Prop} {w : World} (hgd : o.guard = none) (s x : Operand)
    (ho : o.op = .call { callee := .builtin .append, args := #[s, x], argTypes := #[42, 42] }) (hty : o.type = 42) (g : Nat) (hs : a.eval s = .slice (some ⟨g, 0, none⟩) 0 0) (h : IntRow w (.slice (some ⟨g, 0, none⟩) 0 0) []) (v : Value) (ys : List Int) (hx : a.eval x = v) (hv : Ints w v ys) (hn : ys.length ≤ 999990)
    (hK : ∀ v' w', IntRow w' v' ys → Gr w w' → (∀ k, v'.ownBlock = some k → g = k ∨ w.heap.size ≤ k) → wpList Tryd.prog ops Q rest (a.put o.dst v') w') : wpList Tryd.prog ops Q (o :: rest) a w := by
  obtain ⟨v', w', hr, h2, h3, h4⟩ := IntRow.app0 h hv hn
  refine wpList_plain hgd fun _ hK' => ?_
  unfold Oper.wp
  simp [execOp, ho, resolve, invoke, builtin, hs, hx, hty, hr, Result.andThen]
  exact hK' _ _ (hK v' w' h2 h3 (fun k hk => (h4 k hk).imp (fun e => Option.some.inj e) id))
set_option maxRecDepth 100000 in
set_option maxHeartbeats 40000000 in
theorem rhtake_cons (p : Nat) (q : HasP) (hq : q.Ok) (lv tv : Value) (l : List Hel) (hn : l.length ≤ 300) (hfl : ∀ x ∈ l, 0 ≤ x.flow ∧ x.flow ≤ 15) (k : Nat) (r : List Int) (hr : r.length ≤ 300) (x : Hel) (s : List Hel) (hls : ofK q l k = x :: s) (hs2 : ofK q (outN l x.n) k = s) (now : Int) (w : World) (h : RHasC w p q lv tv l ((k : Int) :: r)) :
    Calls Tryd.prog 126 #[.pointer (some ⟨p, 0, none⟩), .int .i64 now] w fun e w' => e = .returned (.tuple #[x.val, .slice none 0 0, .bool true]) ∧ RHDid w w' p q lv tv (outN l x.n) (if s = [] then r else r ++ [(k : Int)]) := by
  have HA := Lib.hid h
  obtain ⟨tg, toff, cap, rfl, hcap, hcm, hc⟩ := Row.cells h.turn (by simp)
  have HCE := Lib.hid (fun u (g : Gr w u) => g.cell (hc 0 (.int .i64 (k : Int)) (by simp)))
  have HRL := Lib.hid hr
  have HLS := Lib.hid hls
  have HS2 := Lib.hid hs2
  have HOF := Lib.hid (fun lv tv t u h => rof_any p q hq lv tv l t hn hfl k u h)
  have HOF2 := Lib.hid (fun lv tv t u h => rof_any p q hq lv tv (outN l x.n) t (Nat.le_trans (outN_le l x.n) hn) (fun y hy => hfl y (List.mem_filter.1 hy).1) k u h)
  have HOUT := Lib.hid (fun lv tv t u h => rout_any p q lv tv l t hn x u h)
  have HRS := Lib.hid (fun u (g : Gr w u) => IntRow.rest (w := u) (g := tg) (off := toff) (cap := cap) (x := (k : Int)) (xs := r) (by simpa using (h.gr g).turn))
  rw [List.length_cons] at *
  have e1 : 1 ≤ cap := by omega
  have i2 : ((r.length + 1 : Nat) : Int) ≤ (cap : Int) := by omega
  have i3 : (0 : Int) < ((r.length + 1 : Nat) : Int) := by omega
  have HPL := Lib.hid h.lt
  clear h hc hcm hcap hr hls hq hn hfl hs2
  unfold Hel.val at *
  obtain ⟨T, hT⟩ : ∃ T, T = (if s = [] then r else r ++ [(k : Int)]) := ⟨_, rfl⟩
  rw [← hT]
  have HT := Lib.hid hT
  clear hT
  go_enter Tryd.func126, Tryd.ntmps126
  go_upto_region 1 with fail
  obtain ⟨w0, hw0⟩ : ∃ w0, w0 = w.alloc (.cells #[.int .i64 0, .int .i64 0, .int .i64 0, .int .i64 0, .int .i64 0, .int .i64 0] 108) := ⟨_, rfl⟩
  obtain ⟨rb, hrb⟩ : ∃ rb, rb = w.heap.size := ⟨_, rfl⟩
  have HR0 : Hid (HelRes w0 rb .zero ∧ rb = w.heap.size) := Lib.hid (by rw [hw0]; exact ⟨helRes_new w .zero hrb, hrb⟩)
  have HG0 : Hid (Gr w w0) := Lib.hid (by rw [hw0]; exact (Gr.refl _).alloc _)
  have HA0 := Lib.hid (HA.out.gr HG0.out)
  rw [← hw0, ← hrb]
  clear hw0 hrb
  have HM0 := Lib.hid ((RHM.first HA.out).res_add HG0.out (show w.heap.size ≤ rb by have := HR0.out.2; omega) (cell_lt HR0.out.1.at_.c0))
  have c4 := HA0.out.c4
  have ce := HCE.out _ HG0.out
  rw [Nat.add_zero] at ce
  go_upto_region 4 with fail
  clear ce
  have HTW := Lib.hid (fun u (g : Gr w0 u) => And.intro (g.cell HA0.out.c4) ((g.frozen (p := ⟨p, 4, none⟩) HA0.out.lt).trans HA0.out.f4))
  have hp0 : p < w0.heap.size := HA0.out.lt
  go_upto_region 5 with (at_builtin; refine wpList_append_int0 rfl _ _ (by rfl) (by rfl) w0.heap.size (by rfl) (IntRow.empty rfl) _ r (by rfl) (by obtain ⟨t, ht, hrow⟩ := HRS.out _ (HG0.out.trans ((Gr.refl w0).alloc (.cells #[] 3))); rw [ht]; exact hrow.ints) (by have := HRL.out; omega) ?_; intro v6 w6 hrow hgr hown; have hg6 : Gr w0 w6 := ((Gr.refl w0).alloc (.cells #[] 3)).trans hgr; have HM4 := Lib.hid (HM0.out.set_t (.of_gr hg6) hrow (fun g e => .inr ((hown g e).elim (fun e => Nat.le_of_eq e) (fun e => by simp at e; omega)))); have HR4 := Lib.hid ((HR0.out.1.gr hg6).sav (.set p 4 v6) (fun e => by have h1 := HR0.out.2; have h2 := HPL.out; omega)); obtain ⟨d4, g4⟩ := HTW.out _ hg6; obtain ⟨a6, c6, rfl⟩ := hrow.shape; clear hgr hown hrow hg6 c4)
  generalize w6.setCell ⟨p, 4, none⟩ (.slice a6 r.length c6) = w4 at *
  generalize Value.slice a6 r.length c6 = tv4 at *
  obtain ⟨tz, hif, _⟩ := HRS.out _ (Gr.refl w)
  rw [hif]
  clear hif d4 g4 hp0 HTW HRS HCE HM0
  obtain ⟨i0', hi0, hz0, hz1, hz2⟩ := info_parts packInfo
  go_upto_region 6 with (go_at_call 128; go_loud (refine (HOF.out _ _ _ _ HM4.out.at_).mono ?_; rintro e w5 ⟨rr, rfl, hrow, hg5, _⟩; rw [HLS.out] at hrow; obtain ⟨ra, rc, rfl, _, _, hce⟩ := hrow.any; obtain ⟨b, o, rfl, hcell⟩ := hce.out (by simp); have hel := hcell 0 (by simp); simp only [Nat.zero_mul, Nat.add_zero, List.getD_cons_zero] at hel; have HM5 := Lib.hid (HM4.out.gr hg5); have HR5 := Lib.hid (HR4.out.gr hg5); have j0 : (0 : Int) < ((x :: s).length : Int) := (by rw [List.length_cons]; omega); obtain ⟨x0, x1, x2, x3, x4, x5⟩ := hel; clear hce hcell hrow hg5))
  clear x0 x1 x2 x3 x4 x5 j0
  obtain ⟨w7, hw7⟩ : ∃ u, u = w5.alloc (.cells #[.int .i64 x.t, .int .i64 x.len, .int .i64 x.flow, .int .i64 x.band, .int .i64 x.mark, .int .i64 x.n] 108) := ⟨_, rfl⟩
  obtain ⟨xb, hxb⟩ : ∃ u, u = w5.heap.size := ⟨_, rfl⟩
  have HX7 : Hid (HelAt w7 xb 0 x) := Lib.hid (by rw [hw7]; exact held_new w5 x hxb)
  have HG7 : Hid (Gr w5 w7) := Lib.hid (by rw [hw7]; exact (Gr.refl _).alloc _)
  have HM7 := Lib.hid (HM5.out.res_add HG7.out (show w5.heap.size ≤ xb by omega) (cell_lt HX7.out.c0))
  have HR7 := Lib.hid (HR5.out.gr HG7.out)
  rw [← hw7, ← hxb]
  clear hw7 hxb HM5 HR5 HM4 HR4
  obtain ⟨x0, x1, x2, x3, x4, x5⟩ := HX7.out
  simp only [Nat.zero_add] at x1 x2 x3 x4 x5
  go_upto_region 7 with (go_at_call 129; refine (HOUT.out _ _ _ _ HM7.out.at_).mono ?_; rintro e w8 ⟨rfl, lv8, tv8, hm8⟩; have HM8 := Lib.hid (HM7.out.then hm8); have HX8 := Lib.hid (HX7.out.sav hm8.sav (HM7.out.nin (r := xb) (by simp))); have HR8 := Lib.hid (HR7.out.sav hm8.sav (HM7.out.nin (r := rb) (by simp))); clear hm8)
  clear x0 x1 x2 x3 x4 x5
  by_cases hs0 : s = []
  · have HTT : Hid (T = r) := Lib.hid (by rw [HT.out, if_pos hs0])
    subst hs0
    go_upto_region 9 with (go_at_call 128; refine (HOF2.out _ _ _ _ HM8.out.at_).mono ?_; rintro e w9 ⟨rr, rfl, hrow, hg9, _⟩; rw [HS2.out] at hrow; obtain ⟨ra, rc, rfl⟩ := hrow.shape; have HM9 := Lib.hid (HM8.out.gr hg9); have HX9 := Lib.hid (HX8.out.gr hg9); have HR9 := Lib.hid (HR8.out.gr hg9); clear hrow hg9)
    obtain ⟨⟨r0, r1, r2, r3, r4, r5⟩, s0, s1, s2, s3, s4, s5⟩ := HR9.out
    obtain ⟨x0, x1, x2, x3, x4, x5⟩ := HX9.out
    simp only [Nat.zero_add] at x1 x2 x3 x4 x5
    go_wp2
    clear x0 x1 x2 x3 x4 x5
    obtain ⟨w99, hw99⟩ : ∃ u, u = ((((((w9.setCell ⟨rb, 0, none⟩ (.int .i64 x.t)).setCell ⟨rb, 1, none⟩ (.int .i64 x.len)).setCell ⟨rb, 2, none⟩ (.int .i64 x.flow)).setCell ⟨rb, 3, none⟩ (.int .i64 x.band)).setCell ⟨rb, 4, none⟩ (.int .i64 x.mark)).setCell ⟨rb, 5, none⟩ (.int .i64 x.n)) := ⟨_, rfl⟩
    have HR99 := Lib.hid (show HelRes w99 rb x ∧ Sav (fun g => g = rb) w9 w99 from by rw [hw99]; exact hel_set6 HR9.out x)
    rw [← hw99]
    clear hw99 r0 r1 r2 r3 r4 r5 s0 s1 s2 s3 s4 s5
    obtain ⟨⟨q0, q1, q2, q3, q4, q5⟩, _⟩ := HR99.out.1
    refine bodyPost_ret (v := .tuple #[.agg #[.int .i64 x.t, .int .i64 x.len, .int .i64 x.flow, .int .i64 x.band, .int .i64 x.mark, .int .i64 x.n], .slice none 0 0, .bool true]) (by simp [results, Tryd.results126, go_sem, q0, q1, q2, q3, q4, q5]) rfl ?_
    rw [HTT.out]
    exact ⟨rfl, _, _, (HM9.out.off HR99.out.2 (fun g e => by simp [e])).did⟩
  · have HTT : Hid (T = r ++ [(k : Int)]) := Lib.hid (by rw [HT.out, if_neg hs0])
    have i4 : (0 : Int) < (s.length : Int) := by have := List.length_pos_iff.2 hs0; omega
    go_upto_region 8 with (go_at_call 128; refine (HOF2.out _ _ _ _ HM8.out.at_).mono ?_; rintro e w9 ⟨rr, rfl, hrow, hg9, _⟩; rw [HS2.out] at hrow; obtain ⟨ra, rc, rfl⟩ := hrow.shape; have HM9 := Lib.hid (HM8.out.gr hg9); have HX9 := Lib.hid (HX8.out.gr hg9); have HR9 := Lib.hid (HR8.out.gr hg9); clear hrow hg9)
    clear i4
    obtain ⟨ta, tc, htv⟩ := HM9.out.at_.turn.shape
    subst htv
    have c4 := HM9.out.at_.c4
    have f4 := HM9.out.at_.f4
    have hp0 : p < w9.heap.size := HM9.out.at_.lt
    have HS9 := Lib.hid (show (∀ u, Sav (fun g => (Value.slice ta r.length tc).ownBlock = some g) w9 u → u.cell? ⟨p, 4, none⟩ = some (.slice ta r.length tc) ∧ u.frozen? ⟨p, 4, none⟩ = false) from fun u hs => ⟨hs.cell HM9.out.at_.c4 HM9.out.at_.tp, hs.frozen (p := ⟨p, 4, none⟩) HM9.out.at_.lt HM9.out.at_.f4 HM9.out.at_.tp⟩)
    go_upto_region 9 with (at_builtin; refine wpList_append_intR rfl _ _ _ (by rfl) (by kernel_rfl) _ r (k : Int) (by rfl) (HM9.out.at_.turn.gr ((Gr.refl w9).alloc (.cells #[.int .i64 (k : Int)] 3))) ⟨w9.heap.size, 0, none⟩ 1 (by rfl) (by simp) (by have := HRL.out; omega) ?_; intro v6 w6 hrow hgr hown; have hsv : Sav (fun g => (Value.slice ta r.length tc).ownBlock = some g) w9 w6 := (Sav.of_gr ((Gr.refl w9).alloc (.cells #[.int .i64 (k : Int)] 3))).then (.of_grown hgr fun g e => e); have ho6 : ∀ g, v6.ownBlock = some g → (Value.slice ta r.length tc).ownBlock = some g ∨ w9.heap.size ≤ g := (fun g e => (hown g e).imp id (fun e => by simp at e; omega)); have HM10 := Lib.hid (HM9.out.set_t hsv hrow ho6); have HX10 := Lib.hid ((HX9.out.sav hsv (fun e => HM9.out.nin (r := xb) (by simp) (.inr (.inr e)))).sav (.set p 4 v6) (fun e => HM9.out.nin (r := xb) (by simp) (.inl e))); have HR10 := Lib.hid ((HR9.out.sav hsv (fun e => HM9.out.nin (r := rb) (by simp) (.inr (.inr e)))).sav (.set p 4 v6) (fun e => HM9.out.nin (r := rb) (by simp) (.inl e))); obtain ⟨d3, g3⟩ := HS9.out _ hsv; clear hgr hown ho6 hsv c4 f4; obtain ⟨a9, c9, rfl⟩ := hrow.shape; clear hrow; rw [show (r ++ [(k : Int)]).length = r.length + 1 from by simp] at HM10 HX10 HR10)
    generalize w6.setCell ⟨p, 4, none⟩ (.slice a9 (r.length + 1) c9) = w10 at *
    generalize Value.slice a9 (r.length + 1) c9 = tv10 at *
    clear d3 g3 hp0
    obtain ⟨⟨r0, r1, r2, r3, r4, r5⟩, s0, s1, s2, s3, s4, s5⟩ := HR10.out
    obtain ⟨x0, x1, x2, x3, x4, x5⟩ := HX10.out
    simp only [Nat.zero_add] at x1 x2 x3 x4 x5
    go_wp2
    clear x0 x1 x2 x3 x4 x5
    obtain ⟨w99, hw99⟩ : ∃ u, u = ((((((w10.setCell ⟨rb, 0, none⟩ (.int .i64 x.t)).setCell ⟨rb, 1, none⟩ (.int .i64 x.len)).setCell ⟨rb, 2, none⟩ (.int .i64 x.flow)).setCell ⟨rb, 3, none⟩ (.int .i64 x.band)).setCell ⟨rb, 4, none⟩ (.int .i64 x.mark)).setCell ⟨rb, 5, none⟩ (.int .i64 x.n)) := ⟨_, rfl⟩
    have HR99 := Lib.hid (show HelRes w99 rb x ∧ Sav (fun g => g = rb) w10 w99 from by rw [hw99]; exact hel_set6 HR10.out x)
    rw [← hw99]
    clear hw99 r0 r1 r2 r3 r4 r5 s0 s1 s2 s3 s4 s5
    obtain ⟨⟨q0, q1, q2, q3, q4, q5⟩, _⟩ := HR99.out.1
    refine bodyPost_ret (v := .tuple #[.agg #[.int .i64 x.t, .int .i64 x.len, .int .i64 x.flow, .int .i64 x.band, .int .i64 x.mark, .int .i64 x.n], .slice none 0 0, .bool true]) (by simp [results, Tryd.results126, go_sem, q0, q1, q2, q3, q4, q5]) rfl ?_
    rw [HTT.out]
    exact ⟨rfl, _, _, (HM10.out.off HR99.out.2 (fun g e => by simp [e])).did⟩
set_option maxRecDepth 100000 in
set_option maxHeartbeats 4000000 in
theorem rhtake_nil (p : Nat) (q : HasP) (lv tv : Value) (l : List Hel) (now : Int) (w : World) (h : RHasC w p q lv tv l []) :
    Calls Tryd.prog 126 #[.pointer (some ⟨p, 0, none⟩), .int .i64 now] w fun e w' => e = .returned (.tuple #[Hel.zero.val, .slice none 0 0, .bool false]) ∧ RHDid w w' p q lv tv l [] := by
  have HA := Lib.hid h
  obtain ⟨ta, tc, rfl⟩ := h.turn.shape
  clear h
  simp only [List.length_nil] at HA ⊢
  unfold Hel.val
  go_enter Tryd.func126, Tryd.ntmps126
  go_upto_region 1 with fail
  obtain ⟨w0, hw0⟩ : ∃ w0, w0 = w.alloc (.cells #[.int .i64 0, .int .i64 0, .int .i64 0, .int .i64 0, .int .i64 0, .int .i64 0] 108) := ⟨_, rfl⟩
  obtain ⟨rb, hrb⟩ : ∃ rb, rb = w.heap.size := ⟨_, rfl⟩
  have HR0 : Hid (HelRes w0 rb .zero ∧ rb = w.heap.size) := Lib.hid (by rw [hw0]; exact ⟨helRes_new w .zero hrb, hrb⟩)
  have HG0 : Hid (Gr w w0) := Lib.hid (by rw [hw0]; exact (Gr.refl _).alloc _)
  have HA0 := Lib.hid (HA.out.gr HG0.out)
  rw [← hw0, ← hrb]
  clear hw0 hrb
  obtain ⟨⟨r0, r1, r2, r3, r4, r5⟩, s0, s1, s2, s3, s4, s5⟩ := HR0.out.1
  have c4 := HA0.out.c4
  go_wp2
  obtain ⟨w9, hw9⟩ : ∃ w9, w9 = ((((((w0.setCell ⟨rb, 0, none⟩ (.int .i64 Hel.zero.t)).setCell ⟨rb, 1, none⟩ (.int .i64 Hel.zero.len)).setCell ⟨rb, 2, none⟩ (.int .i64 Hel.zero.flow)).setCell ⟨rb, 3, none⟩ (.int .i64 Hel.zero.band)).setCell ⟨rb, 4, none⟩ (.int .i64 Hel.zero.mark)).setCell ⟨rb, 5, none⟩ (.int .i64 Hel.zero.n)) := ⟨_, rfl⟩
  have HR9 := Lib.hid (show HelRes w9 rb .zero ∧ Sav (fun g => g = rb) w0 w9 from by rw [hw9]; exact hel_set6 HR0.out.1 .zero)
  unfold Hel.zero at hw9
  simp only at hw9
  rw [← hw9]
  clear hw9 r0 r1 r2 r3 r4 r5 s0 s1 s2 s3 s4 s5
  obtain ⟨⟨q0, q1, q2, q3, q4, q5⟩, _⟩ := HR9.out.1
  unfold Hel.zero at q0 q1 q2 q3 q4 q5
  simp only [Nat.zero_add] at q0 q1 q2 q3 q4 q5
  refine bodyPost_ret (v := .tuple #[.agg #[.int .i64 0, .int .i64 0, .int .i64 0, .int .i64 0, .int .i64 0, .int .i64 0], .slice none 0 0, .bool false]) (by simp [results, Tryd.results126, go_sem, q0, q1, q2, q3, q4, q5]) rfl ?_
  refine ⟨rfl, _, _, (RHM.off (R := [rb]) ((RHM.first HA.out).res_add HG0.out (by have := HR0.out.2; omega) (cell_lt HR0.out.1.at_.c0)) HR9.out.2 (fun g e => by simp [e])).did⟩
end Go.Proofs.YtbpofdfehcbppaaDoor

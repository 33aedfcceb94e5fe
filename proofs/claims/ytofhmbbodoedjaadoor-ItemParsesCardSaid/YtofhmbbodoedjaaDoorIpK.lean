/-
  item.Parse, walked.
-/
import Derived.Test.YtofhmbbodoedjaaDoorIpI
namespace Go.Proofs.YtofhmbbodoedjaaDoor
open Go Go.RowKit Go.Shelf
attribute [local go_sem] Oper.semAt_some

set_option maxRecDepth 100000 in
set_option maxHeartbeats 8000000 in
theorem parse_any (t : ByteArray) (ht : t.size ≤ 20000) (w : World) (he : Env w) (hgl : Glob w) : Calls Tryd.prog 5 #[.string t] w (IpAns t w) := by
  have HE := Lib.hid he
  have HGL := Lib.hid hgl
  obtain ⟨n, hn⟩ : ∃ n, n = t.size := ⟨_, rfl⟩
  have HN := Lib.hid hn
  have hlen : ∀ w ty, (Builtin.len_ #[9] ty #[.string t]).run Tryd.prog w = .ok (.int .i64 (n : Int)) w := fun w ty => by rw [HN.out]; simp [go_sem, Tryd.underlying9]
  rw [← hn] at ht
  have n1 : (n : Int) ≤ 20000 := by omega
  have HS : Hid (t.size ≤ 20001) := Lib.hid (by rw [← HN.out]; omega)
  clear he hgl hn ht
  refine (callsIn_wide (n := 4)).1 ?_
  refine callsIn_of_wp_marks Tryd.func5 rfl trivial ?_ rfl
  simp only [Tryd.ntmps5, List.size_toArray, List.length_cons, List.length_nil, Nat.reduceAdd, Nat.reduceSub, Array.replicate_succ, Array.replicate_zero, List.push_toArray, List.append_toArray, List.nil_append, List.cons_append]
  gi_wp2
  obtain ⟨b, hb⟩ : ∃ b, b = w.heap.size := ⟨_, rfl⟩
  obtain ⟨w1, hw1⟩ : ∃ w1, w1 = (((w.alloc (.cells #[.slice none 0 0] 22)).alloc (.cells #[.nilIface] 29)).alloc (.cells #[.slice none 0 0] 22)).alloc (.cells #[.int .i64 0] 3) := ⟨_, rfl⟩
  have HW1 : Hid (Bx w1 b (.slice none 0 0) 22 ∧ Bx w1 (b + 1) .nilIface 29 ∧ Bx w1 (b + 1 + 1) (.slice none 0 0) 22 ∧ Bx w1 (b + 1 + 1 + 1) (.int .i64 0) 3 ∧ Gr w w1 ∧ w1.heap.size = b + 4) := Lib.hid (by
    rw [hw1, hb]
    refine ⟨?_, ?_, ?_, ?_, (((Gr.refl w).alloc _).alloc _ |>.alloc _).alloc _, by simp⟩
    · exact (((Bx.new w _ _).gr ((Gr.refl _).alloc _)).gr ((Gr.refl _).alloc _)).gr ((Gr.refl _).alloc _)
    · have := ((Bx.new (w.alloc (.cells #[.slice none 0 0] 22)) .nilIface 29).gr ((Gr.refl _).alloc (.cells #[.slice none 0 0] 22))).gr ((Gr.refl _).alloc (.cells #[.int .i64 0] 3))
      rwa [World.size_alloc] at this
    · have := (Bx.new ((w.alloc (.cells #[.slice none 0 0] 22)).alloc (.cells #[.nilIface] 29)) (.slice none 0 0) 22).gr ((Gr.refl _).alloc (.cells #[.int .i64 0] 3))
      rwa [World.size_alloc, World.size_alloc] at this
    · have := Bx.new (((w.alloc (.cells #[.slice none 0 0] 22)).alloc (.cells #[.nilIface] 29)).alloc (.cells #[.slice none 0 0] 22)) (.int .i64 0) 3
      rwa [World.size_alloc, World.size_alloc, World.size_alloc] at this)
  have HB := Lib.hid hb
  rw [← hw1, ← hb]
  clear hw1 hb
  refine ⟨trivial, ?_⟩
  gi_at_call 12
  refine (callsIn_wide.2 (SplitSeq_any t ⟨#[10]⟩ _)).mono ?_
  rintro e w2 ⟨rfl, hw2⟩
  have HG2 : Hid (Gr w1 w2 ∧ w2.heap.size = b + 7 ∧ Bx w2 w1.heap.size (.string t) 9 ∧ Bx w2 (w1.heap.size + 1) (.string ⟨#[10]⟩) 9 ∧ Bx w2 (w1.heap.size + 2) (.int .i64 0) 3) := Lib.hid (by
    rw [hw2]
    exact ⟨seqW_gr _ _ _, by rw [seqW_size, HW1.out.2.2.2.2.2], seqW_s _ _ _, seqW_p _ _ _, seqW_v _ _ _⟩)
  clear hw2
  gi_wp2
  have HQ : Hid (w1.heap.size = b + 4) := Lib.hid HW1.out.2.2.2.2.2
  have HMX : Hid (2 < b ∧ ∀ W, Gr w W → ∃ m, W.cell? ⟨2, 0, none⟩ = some (.int .i64 m)) := Lib.hid (by
    obtain ⟨m, hm⟩ := HE.out.mx
    exact ⟨by rw [HB.out]; exact cell_lt hm, fun W g => ⟨m, g.cell hm⟩⟩)
  refine range_split (n := 4) (by decide) (bp := w1.heap.size + 1) (bs := w1.heap.size) (bv := w1.heap.size + 2) (c := ⟨#[10]⟩) (t := t) rfl rfl rfl (by omega) (by omega) (by have := HMX.out.1; have := HQ.out; omega) HS.out HG2.out.2.2.2.1 HG2.out.2.2.1 HG2.out.2.2.2.2 (HMX.out.2 _ (HW1.out.2.2.2.2.1.trans HG2.out.1))
    (fun L W => ∃ out P v, PI t w b L W out P v) (fun W => PX t w b W) ?hI ?hIx ?h0
    (fun x => { tmps := #[.string t, undef, .pointer (some ⟨b, 0, none⟩), .pointer (some ⟨b + 1, 0, none⟩), .pointer (some ⟨b + 1 + 1, 0, none⟩), .pointer (some ⟨b + 1 + 1 + 1, 0, none⟩), .string x, undef, undef, .string t, .int .i64 (n : Int), .bool (decide ((20000 : Int) < (n : Int))), undef, .string t, .func (.func 33) #[] #[.pointer (some ⟨w1.heap.size + 1, 0, none⟩), .pointer (some ⟨w1.heap.size, 0, none⟩), .pointer (some ⟨w1.heap.size + 2, 0, none⟩)], .string x, undef, undef, undef, undef, undef, undef, undef, undef, undef, undef, undef, undef, undef, undef, undef, undef, undef, undef, undef, undef, undef, undef, undef, undef, undef, undef, undef, undef, undef, undef, undef, undef, undef, undef, undef, undef, undef], defers := [] }) ?assign ?body ?done ?stop
  case hI =>
    rintro L W W' ⟨out, P, v, h⟩ k
    exact ⟨out, P, v, h.sav HB.out.symm k fun q hq => by have := HQ.out; have := HG2.out.2.1; omega⟩
  case hIx =>
    rintro W W' h k
    exact h.sav HB.out.symm k fun q hq => by have := HQ.out; have := HG2.out.2.1; omega
  case h0 =>
    exact ⟨[], 0, _, rfl, by rw [show (⟨#[10]⟩ : ByteArray) = kLine from rfl, pcs_sum rfl t.size t (Nat.le_refl _)], HW1.out.1.gr HG2.out.1, HW1.out.2.1.gr HG2.out.1, HW1.out.2.2.1.gr HG2.out.1, HW1.out.2.2.2.1.gr HG2.out.1, IRow.nil _, fun g hg => by simp [Value.ownBlock] at hg, Nat.zero_le _, HW1.out.2.2.2.2.1.trans HG2.out.1⟩
  case assign =>
    intro l x W K hK
    gi_wp2
    exact hK
  case body =>
    rintro l x L W ⟨out, P, v, hI⟩ hlt
    have HI := Lib.hid hI
    have HLT := Lib.hid (show b + 8 < W.heap.size from by have := HG2.out.2.1; omega)
    clear hI hlt
    have HSUM : Hid (x.size + 1 + P ≤ t.size + 1 ∧ t.size ≤ 20000) := Lib.hid (by have := HI.out.sum; rw [List.map_cons, List.sum_cons] at this; have := HN.out; omega)
    have HEW := Lib.hid (HE.out.gr HI.out.gr)
    rw [HG2.out.2.1, HQ.out]
    obtain ⟨sx, hsx⟩ : ∃ sx, sx = x.size := ⟨_, rfl⟩
    have HSX := Lib.hid hsx
    have hlenx : ∀ w ty, (Builtin.len_ #[9] ty #[.string x]).run Tryd.prog w = .ok (.int .i64 (sx : Int)) w := fun w ty => by rw [HSX.out]; simp [go_sem, Tryd.underlying9]
    clear hsx
    have sx0 : (0 : Int) ≤ (sx : Int) := by omega
    have sx1 : (sx : Int) ≤ 20000 := by have := HSUM.out; have := HSX.out; omega
    have P0 : (0 : Int) ≤ (P : Int) := by omega
    have P1 : (P : Int) ≤ 20000 := by have := HSUM.out; omega
    by_cases hx0 : x = ⟨#[]⟩
    · subst hx0
      have a1 := HI.out.ab.c
      have a2 := HI.out.ab.fz
      gi_wp2
      have hv1 : (P : Int) + ((sx : Int) + 1) = ((P + 1 : Nat) : Int) := by have h1 : sx = 0 := HSX.out; omega
      have hfin := HI.out.skip HB.out.symm rfl HLT.out HMX.out.1
      rw [← hv1] at hfin
      exact ⟨hfin.1, _, _, _, hfin.2⟩
    · have hxs : x.size ≠ 0 := fun e => hx0 (by
        apply ByteArray.ext
        have : x.data.size = 0 := e
        exact Array.eq_empty_of_size_eq_zero this)
      have HXN := Lib.hid hxs
      have he : x.toList.isEmpty = false := by
        cases hq : x.toList.isEmpty with
        | false => rfl
        | true =>
          exfalso
          apply hxs
          have h1 := List.isEmpty_iff.1 hq
          have h2 := congrArg List.length h1
          rw [Lib.toList_data, Array.length_toList] at h2
          exact h2
      have HXS : Hid (x.size ≤ 20001) := Lib.hid (by have := HSUM.out; omega)
      cases hl : lineR x with
      | none =>
        have HLN := Lib.hid hl
        have HGO : Hid (ipGo (x :: L) out (P : Int) = .err 3 (P : Int)) := Lib.hid (ipGo_form hxs hl)
        clear hl hxs
        gi_wp2_with (refine ⟨trivial, ?_⟩
                     gi_at_call 13
                     refine (CallsIn.inRound l (callsIn_wide.2 (line_any x HXS.out _ HEW.out))).mono ?_
                     rintro e w5 ⟨hle, hg⟩
                     unfold lineE at hle
                     rw [HLN.out] at hle
                     rw [show Itm.zero.val = .agg #[.int .i64 0, .int .i64 0, .int .i64 0, .int .i64 0, .int .i64 0] from rfl] at hle
                     subst hle
                     have HG5 := Lib.hid hg
                     clear hg)
        obtain ⟨w6, hw6⟩ : ∃ w6, w6 = w5.alloc (.cells #[.int .i64 0, .int .i64 0, .int .i64 0, .int .i64 0, .int .i64 0] 42) := ⟨_, rfl⟩
        have HG6 : Hid (Gr W w6) := Lib.hid (by rw [hw6]; exact HG5.out.alloc _)
        have H6 := Lib.hid (HI.out.on HG6.out)
        have HK6 : Hid (Sav (fun q => v.ownBlock = some q ∨ W.heap.size ≤ q) W w6) := Lib.hid (Sav.of_gr HG6.out)
        have HGW : Hid (Glob w6) := Lib.hid ((HGL.out.gr HI.out.gr).gr HG6.out)
        have HER := Lib.hid (ErrIs.no w6 3)
        rw [← hw6]
        clear hw6
        have HLB : Hid (b < w6.heap.size) := Lib.hid (by have := H6.out.lt; omega)
        refine wpIn_region_l (m := 7) (fun _ u => Sav (fun q => q = b) w6 u ∧ Bx u b (.slice none 0 0) 22) 6 [Fv.of 0 (Fg.eq (.iface 23 (.int .i64 3))), Fv.of 1 (Fg.eq (.int .i64 (3))), Fv.of 2 (Fg.eq (.int .i64 (P : Int))), Fv.of 3 (Fg.eq (.agg #[.int .i64 (3), .int .i64 (P : Int)])), Fv.of 4 (Fg.nAt w6.heap.size (3) (P : Int)), Fv.of 5 (Fg.fAt w6.heap.size (3) (P : Int))] [37, 38, 39, 40, 41, 42] ⟨Sav.of_gr (Gr.refl w6).drew, H6.out.r0.gr (Gr.refl w6).drew⟩ (by decide) (by kernel_rfl) (by rintro ⟨_, _, h⟩; exact h) (by kernel_rfl) (by kernel_rfl) (by kernel_rfl) (by kernel_rfl) ?_ ?_
        · intro L' q' o' ac w1' hi' ho hA
          obtain ⟨hsv, hbx⟩ := hA.any (R := fun u => Sav (fun q => q = b) w6 u ∧ Bx u b (.slice none 0 0) 22) fun _ _ h => h
          have hgw : Gr w w1' := hsv.gr H6.out.gr fun q hq => by have := HB.out; omega
          match q', hi' with
          | 0, _ =>
            obtain rfl := Option.some.inj ho
            exact lstep_val hA (by decide) (i_move rfl (show ac.eval (.tmp 8) = .iface 23 (.int .i64 3) from hA.other 8 (by decide))) fun _ hf => hf
          | 1, _ =>
            obtain rfl := Option.some.inj ho
            exact lstep_old hA (by decide) (i_tell rfl rfl (hA.fact 0 (hA.dep 0 (by kernel_rfl) (by decide)))) (fun _ _ g ⟨h1, h2⟩ => ⟨h1.then (Sav.of_gr g), h2.gr g⟩) ((tell_any _ (HGL.out.gr hgw) (HER.out.savb H6.out.r0 hsv)).mono (by rintro e w2' ⟨rfl, hg⟩; exact ⟨_, rfl, hg, fun _ hf => hf⟩))
          | 2, _ =>
            obtain rfl := Option.some.inj ho
            exact lstep_val hA (by decide) (h_loadI rfl (show ac.eval (.tmp 5) = .pointer (some ⟨b + 1 + 1 + 1, 0, none⟩) from hA.other 5 (by decide)) (hsv.cell H6.out.ab.c (by simp only; omega))) fun _ hf => hf
          | 3, _ =>
            obtain rfl := Option.some.inj ho
            exact lstep_val hA (by decide) (i_at rfl (hA.fact 1 (hA.dep 1 (by kernel_rfl) (by decide))) (hA.fact 2 (hA.dep 2 (by kernel_rfl) (by decide)))) fun _ hf => hf
          | 4, _ =>
            obtain rfl := Option.some.inj ho
            exact lstep_new hA (by decide) (i_box rfl (hA.fact 3 (hA.dep 3 (by kernel_rfl) (by decide)))) ((Gr.refl _).alloc _) (fun _ ⟨h1, h2⟩ => ⟨h1.then (Sav.of_gr ((Gr.refl _).alloc _)), h2.gr ((Gr.refl _).alloc _)⟩) fun _ hf => ⟨_, hf, hsv.size, cell_of_row _ _ 0 _ _ _ (heap_alloc_new w1' _), cell_of_row _ _ 1 _ _ _ (heap_alloc_new w1' _)⟩
          | 5, _ =>
            obtain rfl := Option.some.inj ho
            obtain ⟨g, hu, hN, hc0, hc1⟩ := (hA.fact 4 (hA.dep 4 (by kernel_rfl) (by decide)))
            exact lstep_val hA (by decide) (i_iface rfl hu) fun _ hf => ⟨g, hf, hN, hc0, hc1⟩
          | 6, _ =>
            obtain rfl := Option.some.inj ho
            have hb9 := HLB.out
            have hk6 : Sav (fun q => q = b) w1' (w1'.setCell ⟨b, 0, none⟩ (.slice none 0 0)) := Sav.set b 0 _
            refine lstep_setc hA rfl rfl (i_store0 rfl (show ac.eval (.tmp 2) = .pointer (some ⟨b, 0, none⟩) from hA.other 2 (by decide)) hbx.c hbx.fz rfl) ⟨hsv.then hk6, hbx.set _⟩ (fun _ _ => trivial) fun j _ hv => ?_
            match j, hv with
            | 0, hv => exact hv
            | 1, hv => exact hv
            | 2, hv => exact hv
            | 3, hv => exact hv
            | 4, hv => obtain ⟨g, hu, hN, hc0, hc1⟩ := hv; exact ⟨g, hu, hN, hk6.cell hc0 (by simp only; omega), hk6.cell hc1 (by simp only; omega)⟩
            | 5, hv => obtain ⟨g, hu, hN, hc0, hc1⟩ := hv; exact ⟨g, hu, hN, hk6.cell hc0 (by simp only; omega), hk6.cell hc1 (by simp only; omega)⟩
            | 6, hv => trivial
            | j + 7, hv => trivial
          | k + 7, hk => exact absurd (show k + 7 < 7 from hk) (by omega)
        · intro vs7 w7 ⟨hsv, hbx⟩ hv7
          have HSV := Lib.hid hsv
          have H7 := Lib.hid (H6.out.savb HB.out.symm hsv hbx)
          obtain ⟨g, vz, hN, hc0, hc1⟩ := hv7 5 (by omega)
          have HN0 := Lib.hid hN
          have HC0 := Lib.hid hc0
          have HC1 := Lib.hid hc1
          clear hv7 hsv hbx hN hc0 hc1
          simp only [putN, List.drop_succ_cons, List.drop_zero, List.getElem?_cons_succ, List.getElem?_cons_zero, List.getElem?_nil, vz]
          clear vz
          generalize vs7 0 = y0
          generalize vs7 1 = y1
          generalize vs7 2 = y2
          generalize vs7 3 = y3
          generalize vs7 4 = y4
          generalize vs7 6 = y6
          have z2 := H7.out.r1.c
          have z3 := H7.out.r1.fz
          go_wp2
          gi_wp2
          exact HI.out.tell HB.out.symm H7.out ((HK6.out.mono fun q h => h.elim .inl fun e => .inr (.inr e)).then (HSV.out.mono fun q h => .inr (.inl h))) HGO.out HLT.out HMX.out.1 (Nat.le_trans HK6.out.size HN0.out) HC0.out HC1.out rfl
      | some y =>
        have HLN := Lib.hid hl
        clear hl hxs
        obtain ⟨va, vc, hve⟩ := Row.shape HI.out.row
        subst hve
        have HFEW := Lib.hid HI.out.few
        gi_wp2_with (refine ⟨trivial, ?_⟩
                     gi_at_call 13
                     refine (CallsIn.inRound l (callsIn_wide.2 (line_any x HXS.out _ HEW.out))).mono ?_
                     rintro e w5 ⟨hle, hg⟩
                     unfold lineE at hle
                     rw [HLN.out] at hle
                     simp only at hle
                     rw [show y.val = .agg #[.int .i64 y.t, .int .i64 y.len, .int .i64 y.flow, .int .i64 y.band, .int .i64 y.mark] from rfl] at hle
                     subst hle
                     have HG5 := Lib.hid hg
                     clear hg)
        obtain ⟨w6, hw6⟩ : ∃ w6, w6 = w5.alloc (.cells #[.int .i64 y.t, .int .i64 y.len, .int .i64 y.flow, .int .i64 y.band, .int .i64 y.mark] 42) := ⟨_, rfl⟩
        have HG6 : Hid (Gr W w6) := Lib.hid (by rw [hw6]; exact HG5.out.alloc _)
        have H6 := Lib.hid (HI.out.on HG6.out)
        have HIT : Hid (ItemAt w6 w5.heap.size 0 y) := Lib.hid (by rw [hw6]; exact item_new w5 y)
        have HCAP := Lib.hid HI.out.row.capf
        have HGW : Hid (Glob w6) := Lib.hid ((HGL.out.gr HI.out.gr).gr HG6.out)
        rw [← hw6]
        clear hw6
        by_cases hc0 : listCode (out ++ [y]) = 0
        · have HC := Lib.hid hc0
          clear hc0
          refine wpIn_region_gr (m := 10) [Fg.eq (.slice va out.length vc), Fg.eq (.slice va out.length vc), Fg.eq (.int .i64 (out.length : Int)), Fg.eq (.slice va out.length vc), Fg.eq (.int .i64 (out.length : Int)), Fg.eq (.slice va out.length out.length), Fg.eq (.agg #[.int .i64 y.t, .int .i64 y.len, .int .i64 y.flow, .int .i64 y.band, .int .i64 y.mark]), Fg.nItem w6.heap.size y, Fg.iRow (out ++ [y]), Fg.eq .nilIface] [25, 26, 27, 28, 29, 30, 31, 32, 33, 34] (by kernel_rfl) (by rintro ⟨_, _, h⟩; exact h) (by kernel_rfl) (by kernel_rfl) (by kernel_rfl) ?_ ?_
          · intro L' q' o' ac w1' hi' ho hA
            have hgr : Gr w6 w1' := (Gr.refl w6).drew.trans hA.gr
            match q', hi' with
            | 0, _ =>
              obtain rfl := Option.some.inj ho
              exact gstep_val (i_load rfl (show ac.eval (.tmp 4) = .pointer (some ⟨b + 1 + 1, 0, none⟩) from hA.other 4 (by decide)) (hgr.cell H6.out.ob.c)) rfl
            | 1, _ =>
              obtain rfl := Option.some.inj ho
              exact gstep_val (i_load rfl (show ac.eval (.tmp 4) = .pointer (some ⟨b + 1 + 1, 0, none⟩) from hA.other 4 (by decide)) (hgr.cell H6.out.ob.c)) rfl
            | 2, _ =>
              obtain rfl := Option.some.inj ho
              exact gstep_val (i_len rfl (hA.fact 1 (hA.dep 1 (by kernel_rfl) (by decide))) HFEW.out) rfl
            | 3, _ =>
              obtain rfl := Option.some.inj ho
              exact gstep_val (i_load rfl (show ac.eval (.tmp 4) = .pointer (some ⟨b + 1 + 1, 0, none⟩) from hA.other 4 (by decide)) (hgr.cell H6.out.ob.c)) rfl
            | 4, _ =>
              obtain rfl := Option.some.inj ho
              exact gstep_val (i_len rfl (hA.fact 3 (hA.dep 3 (by kernel_rfl) (by decide))) HFEW.out) rfl
            | 5, _ =>
              obtain rfl := Option.some.inj ho
              exact gstep_val (i_shut rfl (hA.fact 0 (hA.dep 0 (by kernel_rfl) (by decide))) (hA.fact 2 (hA.dep 2 (by kernel_rfl) (by decide))) (hA.fact 4 (hA.dep 4 (by kernel_rfl) (by decide))) HCAP.out.1 HCAP.out.2) rfl
            | 6, _ =>
              obtain rfl := Option.some.inj ho
              exact gstep_val (i_item rfl (show ac.eval (.tmp 7) = .pointer (some ⟨w5.heap.size, 0, none⟩) from hA.other 7 (by decide)) (HIT.out.gr hgr)) rfl
            | 7, _ =>
              obtain rfl := Option.some.inj ho
              exact gstep_new (i_build rfl (hA.fact 6 (hA.dep 6 (by kernel_rfl) (by decide)))) ((Gr.refl _).alloc _) ⟨_, rfl, hgr.size, item_new w1' y⟩
            | 8, _ =>
              obtain rfl := Option.some.inj ho
              obtain ⟨g, hu, hN, hat⟩ := (hA.fact 7 (hA.dep 7 (by kernel_rfl) (by decide)))
              obtain ⟨v', w', hr, hrow, hgr2⟩ := IRow.full (c := 1) ((IRow.shut H6.out.row).2.gr hgr) hat HFEW.out
              exact gstep_new (i_app rfl (hA.fact 5 (hA.dep 5 (by kernel_rfl) (by decide))) hu hr) hgr2 hrow
            | 9, _ =>
              obtain rfl := Option.some.inj ho
              exact gstep_call (i_list rfl rfl rfl) ((ilist_ok _ (IRow.items (hA.fact 8 (hA.dep 8 (by kernel_rfl) (by decide)))) (HGW.out.gr hgr) HC.out).mono (by rintro e w2' ⟨rfl, hg⟩; exact ⟨_, rfl, hg, rfl⟩))
            | k + 10, hk => exact absurd (show k + 10 < 10 from hk) (by omega)
          · intro vs8 w8 hg8 hv8
            have HG8 := Lib.hid ((Gr.refl w6).drew.trans hg8)
            have vz : vs8 9 = .nilIface := hv8 9 (by omega)
            clear hv8 hg8
            simp only [putN, List.drop_succ_cons, List.drop_zero, List.getElem?_cons_succ, List.getElem?_cons_zero, vz]
            clear vz
            generalize vs8 0 = y0
            generalize vs8 1 = y1
            generalize vs8 2 = y2
            generalize vs8 3 = y3
            generalize vs8 4 = y4
            generalize vs8 5 = y5
            generalize vs8 6 = y6
            generalize vs8 7 = y7
            generalize vs8 8 = y8
            have H8 := Lib.hid (H6.out.on HG8.out)
            have HK8 : Hid (Sav (fun q => (Value.slice va out.length vc).ownBlock = some q ∨ W.heap.size ≤ q) W w8) := Lib.hid (Sav.of_gr (HG6.out.trans HG8.out))
            obtain ⟨i0, i1, i2, i3, i4⟩ := HIT.out.gr HG8.out
            simp at i0 i1 i2 i3 i4
            have f1 := H8.out.ob.c
            obtain ⟨v', w10, hr, hrow, hgr, hown, _⟩ := IRow.app (w := w8.alloc (.cells #[.int .i64 y.t, .int .i64 y.len, .int .i64 y.flow, .int .i64 y.band, .int .i64 y.mark] 42)) (c := 1) (H8.out.row.gr ((Gr.refl w8).alloc _)) (item_new w8 y) (by have := HFEW.out; omega)
            obtain ⟨ra, rc, hre⟩ := Row.shape hrow
            rw [show (out ++ [y]).length = out.length + 1 from by simp] at hre
            subst hre
            have HM := Lib.hid (HI.out.more HB.out.symm H8.out HK8.out HXN.out HLN.out HC.out HLT.out HMX.out.1 hrow hgr hown rfl)
            have e10 : Bx w10 (b + 1 + 1) (.slice va out.length vc) 22 := (H8.out.ob.gr ((Gr.refl w8).alloc _)).to (hgr.block _ (Nat.lt_trans H8.out.ob.lt (by simp)) (fun e => by have := HI.out.own _ e.symm; omega))
            have f2 := e10.c
            have f3 := e10.fz
            have e11 : Bx w10 (b + 1 + 1 + 1) (.int .i64 (P : Int)) 3 := (H8.out.ab.gr ((Gr.refl w8).alloc _)).to (hgr.block _ (Nat.lt_trans H8.out.ab.lt (by simp)) (fun e => by have := HI.out.own _ e.symm; omega))
            have f4 := e11.c
            have f5 := e11.fz
            have HRUN := Lib.hid hr
            clear hrow hgr hown e10 e11 hr
            go_wp2
            gi_wp2_with (gi_at_builtin; refine wpListIn_app rfl _ _ _ (by rfl) (by rfl) (by rfl) HRUN.out ?_)
            have hM := HM.out
            have hv2 : ((P + x.size + 1 : Nat) : Int) = (P : Int) + ((sx : Int) + 1) := by have := HSX.out; omega
            rw [hv2] at hM
            exact ⟨hM.1, _, _, _, hM.2⟩
        · obtain ⟨c, hc⟩ : ∃ c, c = listCode (out ++ [y]) := ⟨_, rfl⟩
          rw [← hc] at hc0
          have HC := Lib.hid hc
          have HC0 := Lib.hid hc0
          clear hc hc0
          have HGO : Hid (ipGo (x :: L) out (P : Int) = .err c (P : Int)) := Lib.hid (by
            have h0 := HC0.out
            rw [HC.out] at h0 ⊢
            exact ipGo_bad HXN.out HLN.out h0)
          refine wpIn_region_gr (m := 10) [Fg.eq (.slice va out.length vc), Fg.eq (.slice va out.length vc), Fg.eq (.int .i64 (out.length : Int)), Fg.eq (.slice va out.length vc), Fg.eq (.int .i64 (out.length : Int)), Fg.eq (.slice va out.length out.length), Fg.eq (.agg #[.int .i64 y.t, .int .i64 y.len, .int .i64 y.flow, .int .i64 y.band, .int .i64 y.mark]), Fg.nItem w6.heap.size y, Fg.iRow (out ++ [y]), Fg.errI c (listPlace (out ++ [y]))] [25, 26, 27, 28, 29, 30, 31, 32, 33, 34] (by kernel_rfl) (by rintro ⟨_, _, h⟩; exact h) (by kernel_rfl) (by kernel_rfl) (by kernel_rfl) ?_ ?_
          · intro L' q' o' ac w1' hi' ho hA
            have hgr : Gr w6 w1' := (Gr.refl w6).drew.trans hA.gr
            match q', hi' with
            | 0, _ =>
              obtain rfl := Option.some.inj ho
              exact gstep_val (i_load rfl (show ac.eval (.tmp 4) = .pointer (some ⟨b + 1 + 1, 0, none⟩) from hA.other 4 (by decide)) (hgr.cell H6.out.ob.c)) rfl
            | 1, _ =>
              obtain rfl := Option.some.inj ho
              exact gstep_val (i_load rfl (show ac.eval (.tmp 4) = .pointer (some ⟨b + 1 + 1, 0, none⟩) from hA.other 4 (by decide)) (hgr.cell H6.out.ob.c)) rfl
            | 2, _ =>
              obtain rfl := Option.some.inj ho
              exact gstep_val (i_len rfl (hA.fact 1 (hA.dep 1 (by kernel_rfl) (by decide))) HFEW.out) rfl
            | 3, _ =>
              obtain rfl := Option.some.inj ho
              exact gstep_val (i_load rfl (show ac.eval (.tmp 4) = .pointer (some ⟨b + 1 + 1, 0, none⟩) from hA.other 4 (by decide)) (hgr.cell H6.out.ob.c)) rfl
            | 4, _ =>
              obtain rfl := Option.some.inj ho
              exact gstep_val (i_len rfl (hA.fact 3 (hA.dep 3 (by kernel_rfl) (by decide))) HFEW.out) rfl
            | 5, _ =>
              obtain rfl := Option.some.inj ho
              exact gstep_val (i_shut rfl (hA.fact 0 (hA.dep 0 (by kernel_rfl) (by decide))) (hA.fact 2 (hA.dep 2 (by kernel_rfl) (by decide))) (hA.fact 4 (hA.dep 4 (by kernel_rfl) (by decide))) HCAP.out.1 HCAP.out.2) rfl
            | 6, _ =>
              obtain rfl := Option.some.inj ho
              exact gstep_val (i_item rfl (show ac.eval (.tmp 7) = .pointer (some ⟨w5.heap.size, 0, none⟩) from hA.other 7 (by decide)) (HIT.out.gr hgr)) rfl
            | 7, _ =>
              obtain rfl := Option.some.inj ho
              exact gstep_new (i_build rfl (hA.fact 6 (hA.dep 6 (by kernel_rfl) (by decide)))) ((Gr.refl _).alloc _) ⟨_, rfl, hgr.size, item_new w1' y⟩
            | 8, _ =>
              obtain rfl := Option.some.inj ho
              obtain ⟨g, hu, hN, hat⟩ := (hA.fact 7 (hA.dep 7 (by kernel_rfl) (by decide)))
              obtain ⟨v', w', hr, hrow, hgr2⟩ := IRow.full (c := 1) ((IRow.shut H6.out.row).2.gr hgr) hat HFEW.out
              exact gstep_new (i_app rfl (hA.fact 5 (hA.dep 5 (by kernel_rfl) (by decide))) hu hr) hgr2 hrow
            | 9, _ =>
              obtain rfl := Option.some.inj ho
              exact gstep_call (i_list rfl rfl rfl) ((ilist_bad _ (IRow.items (hA.fact 8 (hA.dep 8 (by kernel_rfl) (by decide)))) (HGW.out.gr hgr) (by rw [← HC.out]; exact HC0.out)).mono (by rintro e w2' ⟨tt, xx, rfl, he, hg⟩; rw [← HC.out] at he; exact ⟨_, rfl, hg, ⟨⟨_, _, rfl⟩, he⟩⟩))
            | k + 10, hk => exact absurd (show k + 10 < 10 from hk) (by omega)
          · intro vs8 w8 hg8 hv8
            have HG8 := Lib.hid ((Gr.refl w6).drew.trans hg8)
            obtain ⟨⟨tt, xx, vz⟩, her⟩ := hv8 9 (by omega)
            rw [vz] at her
            have HER := Lib.hid her
            clear hv8 hg8 her
            simp only [putN, List.drop_succ_cons, List.drop_zero, List.getElem?_cons_succ, List.getElem?_cons_zero, vz]
            clear vz
            generalize vs8 0 = y0
            generalize vs8 1 = y1
            generalize vs8 2 = y2
            generalize vs8 3 = y3
            generalize vs8 4 = y4
            generalize vs8 5 = y5
            generalize vs8 6 = y6
            generalize vs8 7 = y7
            generalize vs8 8 = y8
            have HK6 : Hid (Sav (fun q => (Value.slice va out.length vc).ownBlock = some q ∨ W.heap.size ≤ q) W w8) := Lib.hid (Sav.of_gr (HG6.out.trans HG8.out))
            have H6 := Lib.hid (H6.out.on HG8.out)
            go_wp2
            gi_wp2
            have HLB : Hid (b < w8.heap.size) := Lib.hid (by have := H6.out.lt; omega)
            refine wpIn_region_l (m := 7) (fun _ u => Sav (fun q => q = b) w8 u ∧ Bx u b (.slice none 0 0) 22) 6 [Fv.of 0 (Fg.eq (.iface tt xx)), Fv.of 1 (Fg.eq (.int .i64 (c))), Fv.of 2 (Fg.eq (.int .i64 (P : Int))), Fv.of 3 (Fg.eq (.agg #[.int .i64 (c), .int .i64 (P : Int)])), Fv.of 4 (Fg.nAt w8.heap.size (c) (P : Int)), Fv.of 5 (Fg.fAt w8.heap.size (c) (P : Int))] [37, 38, 39, 40, 41, 42] ⟨Sav.of_gr (Gr.refl w8).drew, H6.out.r0.gr (Gr.refl w8).drew⟩ (by decide) (by kernel_rfl) (by rintro ⟨_, _, h⟩; exact h) (by kernel_rfl) (by kernel_rfl) (by kernel_rfl) (by kernel_rfl) ?_ ?_
            · intro L' q' o' ac w1' hi' ho hA
              obtain ⟨hsv, hbx⟩ := hA.any (R := fun u => Sav (fun q => q = b) w8 u ∧ Bx u b (.slice none 0 0) 22) fun _ _ h => h
              have hgw : Gr w w1' := hsv.gr H6.out.gr fun q hq => by have := HB.out; omega
              match q', hi' with
              | 0, _ =>
                obtain rfl := Option.some.inj ho
                exact lstep_val hA (by decide) (i_move rfl (show ac.eval (.tmp 8) = .iface tt xx from hA.other 8 (by decide))) fun _ hf => hf
              | 1, _ =>
                obtain rfl := Option.some.inj ho
                exact lstep_old hA (by decide) (i_tell rfl rfl (hA.fact 0 (hA.dep 0 (by kernel_rfl) (by decide)))) (fun _ _ g ⟨h1, h2⟩ => ⟨h1.then (Sav.of_gr g), h2.gr g⟩) ((tell_any _ (HGL.out.gr hgw) (HER.out.savb H6.out.r0 hsv)).mono (by rintro e w2' ⟨rfl, hg⟩; exact ⟨_, rfl, hg, fun _ hf => hf⟩))
              | 2, _ =>
                obtain rfl := Option.some.inj ho
                exact lstep_val hA (by decide) (h_loadI rfl (show ac.eval (.tmp 5) = .pointer (some ⟨b + 1 + 1 + 1, 0, none⟩) from hA.other 5 (by decide)) (hsv.cell H6.out.ab.c (by simp only; omega))) fun _ hf => hf
              | 3, _ =>
                obtain rfl := Option.some.inj ho
                exact lstep_val hA (by decide) (i_at rfl (hA.fact 1 (hA.dep 1 (by kernel_rfl) (by decide))) (hA.fact 2 (hA.dep 2 (by kernel_rfl) (by decide)))) fun _ hf => hf
              | 4, _ =>
                obtain rfl := Option.some.inj ho
                exact lstep_new hA (by decide) (i_box rfl (hA.fact 3 (hA.dep 3 (by kernel_rfl) (by decide)))) ((Gr.refl _).alloc _) (fun _ ⟨h1, h2⟩ => ⟨h1.then (Sav.of_gr ((Gr.refl _).alloc _)), h2.gr ((Gr.refl _).alloc _)⟩) fun _ hf => ⟨_, hf, hsv.size, cell_of_row _ _ 0 _ _ _ (heap_alloc_new w1' _), cell_of_row _ _ 1 _ _ _ (heap_alloc_new w1' _)⟩
              | 5, _ =>
                obtain rfl := Option.some.inj ho
                obtain ⟨g, hu, hN, hc0, hc1⟩ := (hA.fact 4 (hA.dep 4 (by kernel_rfl) (by decide)))
                exact lstep_val hA (by decide) (i_iface rfl hu) fun _ hf => ⟨g, hf, hN, hc0, hc1⟩
              | 6, _ =>
                obtain rfl := Option.some.inj ho
                have hb9 := HLB.out
                have hk6 : Sav (fun q => q = b) w1' (w1'.setCell ⟨b, 0, none⟩ (.slice none 0 0)) := Sav.set b 0 _
                refine lstep_setc hA rfl rfl (i_store0 rfl (show ac.eval (.tmp 2) = .pointer (some ⟨b, 0, none⟩) from hA.other 2 (by decide)) hbx.c hbx.fz rfl) ⟨hsv.then hk6, hbx.set _⟩ (fun _ _ => trivial) fun j _ hv => ?_
                match j, hv with
                | 0, hv => exact hv
                | 1, hv => exact hv
                | 2, hv => exact hv
                | 3, hv => exact hv
                | 4, hv => obtain ⟨g, hu, hN, hc0, hc1⟩ := hv; exact ⟨g, hu, hN, hk6.cell hc0 (by simp only; omega), hk6.cell hc1 (by simp only; omega)⟩
                | 5, hv => obtain ⟨g, hu, hN, hc0, hc1⟩ := hv; exact ⟨g, hu, hN, hk6.cell hc0 (by simp only; omega), hk6.cell hc1 (by simp only; omega)⟩
                | 6, hv => trivial
                | j + 7, hv => trivial
              | k + 7, hk => exact absurd (show k + 7 < 7 from hk) (by omega)
            · intro vs7 w7 ⟨hsv, hbx⟩ hv7
              have HSV := Lib.hid hsv
              have H7 := Lib.hid (H6.out.savb HB.out.symm hsv hbx)
              obtain ⟨g, vz, hN, hc0, hc1⟩ := hv7 5 (by omega)
              have HN0 := Lib.hid hN
              have HC0 := Lib.hid hc0
              have HC1 := Lib.hid hc1
              clear hv7 hsv hbx hN hc0 hc1
              simp only [putN, List.drop_succ_cons, List.drop_zero, List.getElem?_cons_succ, List.getElem?_cons_zero, List.getElem?_nil, vz]
              clear vz
              generalize vs7 0 = y0
              generalize vs7 1 = y1
              generalize vs7 2 = y2
              generalize vs7 3 = y3
              generalize vs7 4 = y4
              generalize vs7 6 = y6
              have z2 := H7.out.r1.c
              have z3 := H7.out.r1.fz
              go_wp2
              gi_wp2
              exact HI.out.tell HB.out.symm H7.out ((HK6.out.mono fun q h => h.elim .inl fun e => .inr (.inr e)).then (HSV.out.mono fun q h => .inr (.inl h))) HGO.out HLT.out HMX.out.1 (Nat.le_trans HK6.out.size HN0.out) HC0.out HC1.out rfl
  case done =>
    rintro W ⟨out, P, v, hI⟩ hD
    obtain ⟨va, vc, hve⟩ := Row.shape hI.row
    subst hve
    have HI := Lib.hid hI
    have HD := Lib.hid hD
    have f1 := hI.ob.c
    have z0 := hI.r0.c
    have z1 := hI.r0.fz
    have z2 := hI.r1.c
    have z3 := hI.r1.fz
    have HGO : Hid (ipAll t = .ok out) := Lib.hid (by rw [← hI.go]; exact ipGo_nil _ _)
    clear hI hD
    gi_wp2
    obtain ⟨W3, hW3⟩ : ∃ W3, W3 = (W.setCell ⟨b, 0, none⟩ (.slice va out.length vc)).setCell ⟨b + 1, 0, none⟩ .nilIface := ⟨_, rfl⟩
    have k3 : Sav (fun q => q = b ∨ q = b + 1) W W3 := by
      rw [hW3]
      exact ((Sav.set b 0 _).mono fun _ h => .inl h).then ((Sav.set (b + 1) 0 _).mono fun _ h => .inr h)
    have b0 : Bx W3 b (.slice va out.length vc) 22 := by
      rw [hW3]
      exact (HI.out.r0.set _).to (set_other _ _ (by omega))
    have b1 : Bx W3 (b + 1) .nilIface 29 := by
      rw [hW3]
      exact (HI.out.r1.to (set_other _ _ (by omega))).set _
    have hD3 : W3.heap[w2.heap.size]? = some (.deferred (some [])) := (k3.block _ (by have := (Array.getElem?_eq_some_iff.1 HD.out).1; omega) (by have := HG2.out.2.1; omega)).trans HD.out
    rw [← hW3]
    clear hW3
    refine ⟨by simp, .inl ⟨_, _, rfl, run_takeDeferred hD3, ?_⟩⟩
    have hP := sav_put W3 w2.heap.size (.deferred none)
    have y0 := (b0.to (hP.block b b0.lt (by have := HG2.out.2.1; omega))).c
    have y1 := (b1.to (hP.block (b + 1) b1.lt (by have := HG2.out.2.1; omega))).c
    have k4 : Sav (fun q => q = b ∨ q = b + 1 ∨ q = b + 7) W (W3.putObj w2.heap.size (.deferred none)) := (k3.mono fun q h => h.elim .inl fun e => .inr (.inl e)).then (hP.mono fun q h => .inr (.inr (by have := HG2.out.2.1; omega)))
    have hrow : IRow (W3.putObj w2.heap.size (.deferred none)) (.slice va out.length vc) out := Row.sav HI.out.row k4 fun g hg hd => by have := HI.out.own g hg; omega
    exact ⟨.tuple #[.slice va out.length vc, .nilIface], by simp [results, Tryd.results5, go_sem, y0, y1], k4.gr HI.out.gr fun q hq => by have := HB.out; omega, by rw [HGO.out]; exact ⟨_, rfl, hrow.items⟩⟩
  case stop =>
    rintro W hX hD
    gi_wp2
    refine ⟨by simp, .inl ⟨_, _, rfl, run_takeDeferred hD, ?_⟩⟩
    have hP := sav_put W w2.heap.size (.deferred none)
    obtain ⟨c, p, g, h1, h2, h3, h4, h5, h6, h7⟩ := hX
    have y0 := (h2.to (hP.block b h2.lt (by have := HG2.out.2.1; omega))).c
    have y1 := (h3.to (hP.block (b + 1) h3.lt (by have := HG2.out.2.1; omega))).c
    have y2 := hP.cell h4 (by have := HG2.out.2.1; simp only; omega)
    have y3 := hP.cell h5 (by have := HG2.out.2.1; simp only; omega)
    exact ⟨.tuple #[.slice none 0 0, .iface 50 (.pointer (some ⟨g, 0, none⟩))], by simp [results, Tryd.results5, go_sem, y0, y1], hP.gr h7 fun q hq => by have := HG2.out.2.1; have := HB.out; omega, by rw [h1]; exact ⟨_, rfl, ⟨_, _, rfl⟩, .inr (.inr ⟨g, 0, rfl, y2, y3⟩)⟩⟩
end Go.Proofs.YtofhmbbodoedjaaDoor

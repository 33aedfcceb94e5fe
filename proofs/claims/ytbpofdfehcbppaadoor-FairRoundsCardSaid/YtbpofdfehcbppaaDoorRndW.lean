/-
  millracelaw.FairRounds, walked.
-/
import Derived.Test.YtbpofdfehcbppaaDoorRndN
import Derived.Test.YtbpofdfehcbppaaDoorPlayD
namespace Go.Proofs.YtbpofdfehcbppaaDoor
open Go.RowKit Go.Extern.Stop Go.Stop Go.Extern

def zeroRV : RRV := ⟨.slice none 0 0, .slice none 0 0, [], [], false, fun _ => 0, fun _ => false, 0⟩
theorem alloc_freeR (w : World) (n : Nat) (hn : n = w.heap.size) {cs : Array Value} {t : TypeId} {o : Nat} : (w.alloc (.cells cs t)).frozen? ⟨n, o, none⟩ = false := by subst hn; simp
theorem ints_lowR {w : World} {v : Value} {xs : List Int} (h : Ints w v xs) : ∀ g, xs ≠ [] → v.ownBlock = some g → g < w.heap.size := by
  rcases h with ⟨_, _, _, rfl⟩ | ⟨b, off, cap, rfl, h2, h3, h4⟩
  · intro g h0; exact absurd rfl h0
  · intro g _ hg
    cases hg
    exact cell_lt (h4 0 h2)
theorem rnd_play (W Wn : World) {q : RndP} (hq : q.Ok) {p pr mb rb xb : Nat} {zv : Value} {zs : List Int} (hz : 0 < zs.length ∧ zs.length ≤ 16) (hqz : ∀ f, q.quanta f = qz zs f) (ha : RndC Wn p q zeroV) (hr : RRC Wn W.heap.size pr mb q.room zv zs zeroRV)
    (hrb : Wn.cell? ⟨rb, 0, none⟩ = some (.pointer (some ⟨p, 0, none⟩))) (hxb : Wn.cell? ⟨xb, 0, none⟩ = some (.pointer (some ⟨pr, 0, none⟩))) (hg : Gr W Wn)
    (h1 : W.heap.size ≤ p) (h2 : p < rb) (h3 : rb < mb) (h4 : mb < pr) (h5 : pr < xb) {v : Value} {xs : List Stp} (hx : StpIn Wn v xs) (hl : xs.length ≤ 120) :
    Calls Tryd.prog 12 #[.iface 77 (.pointer (some ⟨p, 0, none⟩)), .iface 81 (.pointer (some ⟨pr, 0, none⟩)), v, .func (.func 24) #[] #[.pointer (some ⟨rb, 0, none⟩), .pointer (some ⟨xb, 0, none⟩)]] Wn fun e w' => e = .returned (.bool true) ∧ Gr W w' := by
  have ok0 : RndOk q ⟨[], [], false, fun _ => 0⟩ 0 := ⟨.nil, (fun x hx => by cases hx), List.nodup_nil, (fun x hx => by cases hx), (fun x hx => by cases hx), (fun k => ⟨(fun e => by cases e), (fun e => absurd rfl e)⟩), List.nodup_nil, Nat.le_refl _, (fun f => ⟨Int.le_refl _, (by decide : (0 : Int) ≤ 1010000)⟩), (fun f hf => by cases hf), (fun e => by cases e)⟩
  have sh0 : Shows zeroV ⟨[], [], false, fun _ => 0⟩ := ⟨fun _ _ => rfl, rfl, rfl, fun _ _ => rfl, rfl, rfl⟩
  have sr0 : RShows zeroRV ⟨[], [], false, fun _ => 0⟩ 0 := ⟨rfl, rfl, rfl, (fun _ _ => rfl), (fun k hk => by cases hk), Nat.le_refl _⟩
  have hfp : ∀ g, RFoot p zeroV g → g = p := by
    intro g hg
    rcases hg with e | e | ⟨k, _, e⟩
    · exact e
    · cases e
    · cases e
  have hfr : ∀ g, RRFoot pr mb zeroRV g → g = pr ∨ g = mb := by
    intro g hg
    rcases hg with e | e | e | e
    · exact .inl e
    · exact .inr e
    · cases e
    · cases e
  have hI : ((rndSide W.heap.size p q).boxed rb (.pointer (some ⟨p, 0, none⟩))).I Wn zeroV ⟨[], [], false, fun _ => 0⟩ 0 :=
    ⟨⟨ha, sh0, ok0, fun g hg => by rw [hfp g hg]; exact h1⟩, hrb, by omega, fun e => by have := hfp _ e; omega⟩
  have hJ : ((rrndSide W.heap.size pr mb q zv zs).boxed xb (.pointer (some ⟨pr, 0, none⟩))).I Wn zeroRV ⟨[], [], false, fun _ => 0⟩ 0 :=
    ⟨⟨hr, sr0, ok0⟩, hxb, by omega, fun e => by have := hfr _ e; omega⟩
  refine (played_any ((rnd_pside hq).boxed rb _) ((rrnd_side hq hz hqz).boxed xb _) Wn _ _ _ ⟨hI, hJ, ?_⟩ hg.size v xs hx hl _ (.inr ⟨_, _, rfl, fun w => by kernel_rfl, ?_⟩)).mono fun e w' ⟨h3, h4⟩ => ⟨h3, Sav.gr hg h4 fun q hq => hq⟩
  · intro g hg hg'
    rcases hg with e | e
    · have k1 := hfp g e
      rcases hg' with e' | e'
      · have k2 := hfr g e'; omega
      · omega
    · rcases hg' with e' | e'
      · have k2 := hfr g e'; omega
      · omega
  · intro w b c a n hB
    exact rndthen rb xb p pr mb W.heap.size q zv zs b c w hB.s.2.1 hB.t.2.1 hB.s.1.at_ hB.t.1.at_ (fun k hk => (hB.s.1.sh.cr k hk).trans (hB.t.1.sh.cr k hk).symm)
set_option maxRecDepth 100000 in
set_option maxHeartbeats 8000000 in
theorem fairRounds_walk (W : World) (hg : Glob W) (room : Int) (_ : -9223372036854775808 ≤ room) (_ : room ≤ 9223372036854775807) {zv : Value} {zs : List Int} (hz : Ints W zv zs) (_ : ∀ x ∈ zs, Bd x) {v : Value} {xs : List Stp} (hx : StpIn W v xs) :
    Calls Tryd.prog 7 #[.int .i64 room, zv, v] W fun e W' => e = .returned (.bool true) ∧ Gr W W' := by
  have HX := Lib.hid hx
  have HGL := Lib.hid hg
  have HZ := Lib.hid hz
  obtain ⟨sa, sc, rfl, _⟩ := hx
  obtain ⟨za, zc, rfl⟩ := ints_shape hz
  clear hg hz
  by_cases hl : 120 < xs.length
  · go_enter Tryd.func7, Tryd.ntmps7
    go_wp2
    all_goals first
      | (exfalso; omega)
      | (go_ret; exact ⟨rfl, Gr.refl _⟩)
  · by_cases hzl : 40 < zs.length
    · go_enter Tryd.func7, Tryd.ntmps7
      go_wp2
      all_goals first
        | (exfalso; omega)
        | (go_ret; exact ⟨rfl, Gr.refl _⟩)
    · have HL := Lib.hid (show xs.length ≤ 120 by omega)
      have HZL := Lib.hid (show zs.length ≤ 40 by omega)
      go_enter Tryd.func7, Tryd.ntmps7
      go_wp2
      all_goals try (exfalso; omega)
      go_loopw [7] (fun s7 wr => ∃ (ii : Nat), ii ≤ zs.length ∧ s7 = .int .i64 (ii : Int) ∧ wr = W) (fun s _ => zs.length - (intOf s).toNat)
      case atStart => exact ⟨0, Nat.zero_le _, rfl, rfl⟩
      case round =>
        obtain ⟨ii, hi, rfl, rfl⟩ := hrel
        by_cases hlt : ii < zs.length
        · have i0 : (0 : Int) ≤ (ii : Int) := by omega
          have i1 : (ii : Int) < (zs.length : Int) := by omega
          obtain ⟨zb, zo, zc', hze, HC⟩ := ints_cells HZ.out (by omega)
          injection hze with e1 e2 e3
          subst e1 e3
          have c0 := HC.out ii hlt
          generalize zs.getD ii 0 = z at *
          by_cases h1 : 1 ≤ z
          · by_cases h2 : z < 20
            · go_wp2
              all_goals first
                | (exfalso; omega)
                | (go_ret; exact ⟨rfl, Gr.refl _⟩)
            · go_wp2
              all_goals try (exfalso; omega)
              go_roundw
              case measure => simp [intOf]; omega
              case rel => exact ⟨ii + 1, by omega, by go_num, trivial⟩
          · go_wp2
            all_goals try (exfalso; omega)
            go_roundw
            case measure => simp [intOf]; omega
            case rel => exact ⟨ii + 1, by omega, by go_num, trivial⟩
        · obtain rfl : ii = zs.length := by omega
          have i1 : ¬ (zs.length : Int) < (zs.length : Int) := by omega
          by_cases hq1 : zs.length < 1 ∨ 16 < zs.length
          · have HQ1 := Lib.hid hq1
            clear hq1
            go_wp2_with (first
              | (go_at_call 21; refine (rndck_len room _ zs _ HZ.out HQ1.out).mono ?_; rintro e w1 ⟨rfl, rfl⟩)
              | (go_at_call 22; refine (rndnew_len room _ zs _ HZ.out HQ1.out).mono ?_; rintro e w2 ⟨rfl, hg2⟩; have HG2 := Lib.hid hg2; clear hg2)
              | (go_at_call 11; refine (bare_true _ (HGL.out.gr (HG2.out.alloc _)) (ErrIs.no _ _)).mono ?_; rintro e w4 ⟨rfl, hg4⟩; have c5 := hg4.cell (alloc_cell w2 w2.heap.size rfl (cs := #[.pointer none]) (t := 77) (o := 0)); have HG4 := Lib.hid ((HG2.out.alloc _).trans hg4); clear hg4))
            all_goals first
              | (exfalso; omega)
              | (go_ret; exact ⟨rfl, HG4.out⟩)
          · have HN := Lib.hid (show 1 ≤ zs.length ∧ zs.length ≤ 16 by omega)
            clear hq1
            by_cases hr : room < 0 ∨ 1000000 < room
            · have HR := Lib.hid hr
              clear hr
              go_wp2_with (first
                | (go_at_call 21; refine (rndck_room room _ zs _ HZ.out HN.out HR.out).mono ?_; rintro e w1 ⟨rfl, rfl⟩)
                | (go_at_call 22; refine (rndnew_bad room _ zs _ HZ.out HN.out (.inl HR.out)).mono ?_; rintro e w2 ⟨rfl, hg2⟩; have HG2 := Lib.hid hg2; clear hg2)
                | (go_at_call 11; refine (bare_true _ (HGL.out.gr (HG2.out.alloc _)) (ErrIs.no _ _)).mono ?_; rintro e w4 ⟨rfl, hg4⟩; have c5 := hg4.cell (alloc_cell w2 w2.heap.size rfl (cs := #[.pointer none]) (t := 77) (o := 0)); have HG4 := Lib.hid ((HG2.out.alloc _).trans hg4); clear hg4))
              all_goals first
                | (exfalso; omega)
                | (go_ret; exact ⟨rfl, HG4.out⟩)
            · have HR := Lib.hid (show 0 ≤ room ∧ room ≤ 1000000 by omega)
              clear hr
              by_cases hgd : ∀ z ∈ zs, QOk z
              · have HGD := Lib.hid hgd
                clear hgd
                have HQ : Hid (RndP.Ok ⟨room, qz zs⟩) := Lib.hid ⟨HR.out, fun f => all_at HGD.out (by have := HN.out; omega)⟩
                go_upto_region 10 with (first
                  | (go_at_call 21; refine (rndck_ok room _ zs _ HZ.out HN.out HR.out HGD.out).mono ?_; rintro e w1 ⟨rfl, rfl⟩)
                  | (go_at_call 22; refine (rndnew_ok room HR.out _ zs _ HZ.out HN.out HGD.out).mono ?_; rintro e w2 ⟨p, rfl, hc, hg2, hp2⟩; have HC2 := Lib.hid hc; have HG2 := Lib.hid hg2; have HP2 := Lib.hid hp2; clear hc hg2 hp2))
                all_goals try (exfalso; omega)
                obtain ⟨w3, hw3⟩ : ∃ w3, w3 = w2.alloc (.cells #[.pointer (some ⟨p, 0, none⟩)] 77) := ⟨_, rfl⟩
                obtain ⟨rb, hrb⟩ : ∃ rb, rb = w2.heap.size := ⟨_, rfl⟩
                have HG3 : Hid (Gr w2 w3) := Lib.hid (by rw [hw3]; exact (Gr.refl _).alloc _)
                have c5 : w3.cell? ⟨rb, 0, none⟩ = some (.pointer (some ⟨p, 0, none⟩)) := by rw [hw3, hrb]; simp
                have HC5 := Lib.hid c5
                have HRB := Lib.hid (show p < rb ∧ rb < w3.heap.size from ⟨by rw [hrb]; exact HC2.out.lt, cell_lt c5⟩)
                rw [← hw3, ← hrb]
                clear hw3 hrb
                have hmm := @run_makeMap Tryd.prog
                have hb0 : rb < w3.heap.size := HRB.out.2
                go_upto_region 15 with (first
                  | (go_at_call 23; (with_reducible refine (rndcredit_off p (-1) (.inl (by decide)) _).mono ?_); rintro e w4 ⟨rfl, rfl⟩)
                  | (go_at_call 23; (with_reducible refine (rndcredit_off p 16 (.inr (by decide)) _).mono ?_); rintro e w4 ⟨rfl, rfl⟩))
                all_goals try (exfalso; omega)
                obtain ⟨w4, hw4⟩ : ∃ u, u = ((w3.alloc (.map #[] 0)).alloc (.cells #[.int .i64 room, .slice za zs.length zc, .slice none 0 0, .slice none 0 0, .bool false, .map (some w3.heap.size)] 84)).alloc (.cells #[.pointer (some ⟨w3.heap.size + 1, 0, none⟩)] 81) := ⟨_, rfl⟩
                obtain ⟨mb, hmb⟩ : ∃ u, u = w3.heap.size := ⟨_, rfl⟩
                obtain ⟨pr, hpr⟩ : ∃ u, u = w3.heap.size + 1 := ⟨_, rfl⟩
                obtain ⟨xb, hxb⟩ : ∃ u, u = w3.heap.size + 1 + 1 := ⟨_, rfl⟩
                have HG4 : Hid (Gr w3 w4) := Lib.hid (by rw [hw4]; exact (((Gr.refl _).alloc _).alloc _).alloc _)
                have HGW := Lib.hid (HG2.out.trans (HG3.out.trans HG4.out))
                have HOR : Hid (rb < mb ∧ mb < pr ∧ pr < xb ∧ wr.heap.size ≤ mb) := Lib.hid (by have h1 := HRB.out; have h2 := (HG2.out.trans HG3.out).size; omega)
                have hcell : ∀ (o : Nat) (u : Value), (#[Value.int .i64 room, .slice za zs.length zc, .slice none 0 0, .slice none 0 0, .bool false, .map (some mb)] : Array Value)[o]? = some u → w4.cell? ⟨pr, o, none⟩ = some u := fun o u h => by
                  rw [hw4]
                  refine ((Gr.refl _).alloc _).cell ?_
                  rw [← hmb, alloc_cell _ pr (by rw [hpr]; simp)]
                  exact h
                have hfz : ∀ o, w4.frozen? ⟨pr, o, none⟩ = false := fun o => by
                  have k1 : ((w3.alloc (.map #[] 0)).alloc (.cells #[.int .i64 room, .slice za zs.length zc, .slice none 0 0, .slice none 0 0, .bool false, .map (some w3.heap.size)] 84)).frozen? ⟨pr, o, none⟩ = false := alloc_freeR _ pr (by rw [hpr]; simp)
                  rw [hw4]
                  exact (((Gr.refl _).alloc _).frozen (p := ⟨pr, o, none⟩) (by rw [hpr]; simp)).trans k1
                have HR4 : Hid (RRC w4 wr.heap.size pr mb room (.slice za zs.length zc) zs zeroRV) := Lib.hid ⟨hcell 0 _ rfl, hcell 1 _ rfl, hcell 2 _ rfl, hcell 3 _ rfl, hcell 4 _ rfl, hcell 5 _ rfl, hfz, RowH.nil _ _, IntRow.nil _, HZ.out.gr HGW.out, by rw [hw4, hmb]; exact ((MapI.made w3).gr ((Gr.refl _).alloc _)).gr ((Gr.refl _).alloc _), (fun g hg => by cases hg), (fun g hg => by cases hg), by have := HOR.out; omega, (fun g hg => ints_lowR HZ.out g (fun e => by have := HN.out.1; rw [e] at this; simp at this) hg), fun g hg => by
                  rcases hg with e | e | e | e
                  · have := HOR.out; omega
                  · have := HOR.out; omega
                  · cases e
                  · cases e⟩
                have HXB : Hid (w4.cell? ⟨xb, 0, none⟩ = some (.pointer (some ⟨pr, 0, none⟩))) := Lib.hid (by rw [hw4, alloc_cell _ xb (by rw [hxb]; simp), ← hpr]; rfl)
                have c6 := HG4.out.cell HC5.out
                have c7 := HXB.out
                rw [← hw4, ← hxb, ← hpr]
                clear hw4 hmb hpr hxb hcell hfz c5 hb0 hmm
                go_wp2_with (go_at_call 12; refine (rnd_play wr w4 (q := ⟨room, qz zs⟩) HQ.out ⟨by have := HN.out; omega, HN.out.2⟩ (fun _ => rfl) (HC2.out.gr (HG3.out.trans HG4.out)) HR4.out (HG4.out.cell HC5.out) HXB.out HGW.out HP2.out HRB.out.1 HOR.out.1 HOR.out.2.1 HOR.out.2.2.1 (HX.out.gr HGW.out) HL.out).mono ?_; rintro e w5 ⟨rfl, hg5⟩; have HG5 := Lib.hid hg5; clear hg5)
                go_ret
                exact ⟨rfl, HG5.out⟩
              · have HGD := Lib.hid hgd
                clear hgd
                go_wp2_with (first
                  | (go_at_call 21; refine (rndck_bad room _ zs _ HZ.out HN.out HR.out HGD.out).mono ?_; rintro e w1 ⟨rfl, rfl⟩)
                  | (go_at_call 22; refine (rndnew_bad room _ zs _ HZ.out HN.out (.inr HGD.out)).mono ?_; rintro e w2 ⟨rfl, hg2⟩; have HG2 := Lib.hid hg2; clear hg2)
                  | (go_at_call 11; refine (bare_true _ (HGL.out.gr (HG2.out.alloc _)) (ErrIs.no _ _)).mono ?_; rintro e w4 ⟨rfl, hg4⟩; have c5 := hg4.cell (alloc_cell w2 w2.heap.size rfl (cs := #[.pointer none]) (t := 77) (o := 0)); have HG4 := Lib.hid ((HG2.out.alloc _).trans hg4); clear hg4))
                all_goals first
                  | (exfalso; omega)
                  | (go_ret; exact ⟨rfl, HG4.out⟩)
end Go.Proofs.YtbpofdfehcbppaaDoor

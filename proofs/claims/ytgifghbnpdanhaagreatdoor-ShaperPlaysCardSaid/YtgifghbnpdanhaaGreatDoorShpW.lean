/-
  millracelaw.ShaperPlays, walked.
-/
import Derived.Test.YtgifghbnpdanhaaGreatDoorShaperPlaysPart12
namespace Go.Proofs.YtgifghbnpdanhaaGreatDoor
open Go.RowKit Go.Extern.Stop Go.Stop Go.Extern

def tick12 (z : Int) : Int := z % 18446744073709551616 % 12
theorem tick12_in (z : Int) : 0 ≤ tick12 z ∧ tick12 z ≤ 11 := by unfold tick12; omega
theorem tick12_u (z : Int) : wrap64 ((IntKind.u64.wrap z).tmod 12) = tick12 z := by
  have h1 := tick12_in z
  have h0 : 0 ≤ IntKind.u64.wrap z := by rw [IntKind.wrap_u64]; omega
  rw [Int.tmod_eq_emod_of_nonneg h0, IntKind.wrap_u64]
  unfold tick12 at *
  unfold wrap64
  omega
theorem fifo_self (P R : Int) (head : Bool) : Emb (fifo P R head) (fifo P R head) id := ⟨fun _ _ _ => rfl, fun _ _ => rfl, fun _ _ => rfl, fun _ => rfl⟩
theorem into_foot {α α' β : Type} {M : Mach α} {U : Mach α'} {f : α → α'} {N0 : Nat} (S : Side M N0 β) : ∀ b g, (S.into U f).F b g ↔ b g := fun _ _ => Iff.rfl
/-- The queue within, as a side told by what it may write. -/
def pSub (N0 p1 : Nat) (k : Int) : Side (fifo k 1000000 false) N0 (Nat → Prop) := (fifoSide N0 p1 k 1000000 false).into (fifo k 1000000 false) id
def rSub (N0 p1 : Nat) (k : Int) : Side (fifo k 1000000 false) N0 (Nat → Prop) := (rfifoSide N0 p1 k 1000000 false).into (fifo k 1000000 false) id
theorem pSub_I {N0 p1 : Nat} {k : Int} {w : World} (h : FifoAt w p1 (.slice none 0 0) [] k 1000000 false) (hN : N0 ≤ p1) : (pSub N0 p1 k).I w (LFoot p1 (.slice none 0 0)) [] 0 :=
  ⟨.slice none 0 0, [], rfl, ⟨h, .nil, hN, fun g hg => by cases hg⟩, fun _ => Iff.rfl⟩
theorem rSub_I {N0 p1 : Nat} {k : Int} {w : World} (h : RFifoAt w p1 (.slice none 0 0) [] k 1000000 false) (hN : N0 ≤ p1) : (rSub N0 p1 k).I w (LFoot p1 (.slice none 0 0)) [] 0 :=
  ⟨.slice none 0 0, [], rfl, ⟨h, .nil, hN, fun g hg => by cases hg⟩, fun _ => Iff.rfl⟩
theorem S_lt {N0 p1 : Nat} {k : Int} {w : World} {F : Nat → Prop} {a : List Hel} {n g : Nat} (h : (pSub N0 p1 k).I w F a n) (hg : F g) : g < w.heap.size := (pSub N0 p1 k).lt h hg
theorem sh_play (W w : World) (hgw : Gr W w) (k : Int) (hk : 0 ≤ k ∧ k ≤ 11) (B : Bkt) {p1 p tp r1 rp rt M : Nat}
    (hP : ShpAt stP nkP 134 (pSub W.heap.size p1 k) (.iface 28 (.pointer (some ⟨p1, 0, none⟩))) B List.length p tp w (.slice none 0 0) (.pointer none) (LFoot p1 (.slice none 0 0)) ⟨[], B.full, none, []⟩ 0)
    (hR : ShpAt stR nkR 95 (rSub W.heap.size r1 k) (.iface 43 (.pointer (some ⟨r1, 0, none⟩))) B List.length rp rt w (.slice none 0 0) (.slice none 0 0) (LFoot r1 (.slice none 0 0)) ⟨[], B.full, none, []⟩ 0)
    (hl1 : p1 < M ∧ p < M ∧ tp < M) (hl2 : M ≤ r1 ∧ M ≤ rp ∧ M ≤ rt) {v : Value} {xs : List Stp} (hx : StpIn W v xs) (hl : xs.length ≤ 120) :
    Calls Tryz.prog 10 #[.iface 37 (.pointer (some ⟨p, 0, none⟩)), .iface 42 (.pointer (some ⟨rp, 0, none⟩)), v, .nilFunc] w fun e w' => e = .returned (.bool true) ∧ Gr W w' := by
  have hk2 : 0 ≤ k ∧ k ≤ 1000000 := by omega
  have h10 : (0 : Int) ≤ 1000000 ∧ (1000000 : Int) ≤ 1000000 := by decide
  have A1 := (fifo_pside (N0 := W.heap.size) (p := p1) (head := false) hk2 h10).into (fifo_self k 1000000 false)
  have A2 := (rfifo_side (N0 := W.heap.size) (p := r1) (head := false) hk2 h10).into (fifo_self k 1000000 false)
  have U1 := (fifo_more W.heap.size p1 k 1000000 false).into (mu' := List.length) (fifo_self k 1000000 false) (fun _ => rfl)
  have U2 := (rfifo_more W.heap.size r1 k 1000000 false).into (mu' := List.length) (fifo_self k 1000000 false) (fun _ => rfl)
  have P1 := shp_p (B := B) (p := p) (tp := tp) (hq := ⟨_, _, rfl⟩) (hF := into_foot _) A1 U1
  have P2 := shr_r (B := B) (p := rp) (tp := rt) (hq := ⟨_, _, rfl⟩) (hF := into_foot _) A2 U2
  refine (played_any P1 P2 w (SPF nkP p tp (.slice none 0 0) (.pointer none) (LFoot p1 (.slice none 0 0))) (SPF nkR rp rt (.slice none 0 0) (.slice none 0 0) (LFoot r1 (.slice none 0 0))) ⟨[], B.full, none, []⟩ ⟨⟨_, _, _, hP, fun _ => Iff.rfl⟩, ⟨_, _, _, hR, fun _ => Iff.rfl⟩, fun g hg hg' => ?_⟩ hgw.size v xs (hx.gr hgw) hl .nilFunc (.inl rfl)).mono fun e w' ⟨h3, h4⟩ => ⟨h3, Sav.gr hgw h4 fun q hq => hq⟩
  have h1 : g < M := by
    rcases hg with e | e | e | e | e | e
    · omega
    · omega
    · cases e
    · cases e
    · omega
    · cases e
  have h2 : M ≤ g := by
    rcases hg' with e | e | e | e | e | e
    · omega
    · omega
    · cases e
    · cases e
    · omega
    · cases e
  omega
set_option maxRecDepth 100000 in
set_option maxHeartbeats 4000000 in
theorem shaperPlays_walk (W : World) (hg : Glob W) (b t r : Int) (hb : Bd b ∧ Bd t ∧ Bd r) (z : Int) (_ : -9223372036854775808 ≤ z) (_ : z ≤ 9223372036854775807) {v : Value} {xs : List Stp} (hx : StpIn W v xs) :
    Calls Tryz.prog 3 #[bktV b t r, .int .i64 z, v] W fun e W' => e = .returned (.bool true) ∧ Gr W W' := by
  have HX := Lib.hid hx
  have HGL := Lib.hid hg
  obtain ⟨sa, sc, rfl, _⟩ := hx
  have HO := Lib.hid (fun b t r u => of_any b t r u)
  clear hg
  obtain ⟨w0, hw0⟩ : ∃ w0, w0 = W.alloc (.cells #[.int .i64 b, .int .i64 t, .int .i64 r] 25) := ⟨_, rfl⟩
  have HG0 : Hid (Gr W w0) := Lib.hid (by rw [hw0]; exact (Gr.refl _).alloc _)
  have HCC : Hid (Cells3 w0 W.heap.size (.int .i64 b) (.int .i64 t) (.int .i64 r)) := Lib.hid (by rw [hw0]; exact ⟨by simp, by simp, by simp⟩)
  by_cases hl : 120 < xs.length
  · unfold bktV
    go_enter Tryz.func3, Tryz.ntmps3
    go_wp2
    go_ret
    exact ⟨rfl, (Gr.refl _).alloc _⟩
  · have hll : xs.length ≤ 120 := by omega
    have HL := Lib.hid hll
    have HT := Lib.hid (tick12_u z)
    have HTI := Lib.hid (tick12_in z)
    generalize tick12 z = k at *
    have HBC := Lib.hid (fun u => rbcheck_any b t r u)
    have HSN := Lib.hid (fun u => snew_none b t r u)
    have HNF := Lib.hid (fun u => newfifo_ok k 1000000 false u ⟨by have := HTI.out; omega, by decide⟩)
    by_cases hc : BIn b t r
    · obtain ⟨B, rfl, rfl, rfl⟩ := bkt_of hc
      have HC0 := Lib.hid (ckB_ok hc)
      have HFL := Lib.hid (fun u => newFilled_any B u)
      have HSW := Lib.hid (fun (p1 : Nat) (u : World) (hN : W.heap.size ≤ p1) (h : FifoAt u p1 (.slice none 0 0) [] k 1000000 false) => snew_ok (S := pSub W.heap.size p1 k) (q := .iface 28 (.pointer (some ⟨p1, 0, none⟩))) (mu := List.length) ⟨_, _, rfl⟩ (into_foot _) B u (Nat.le_trans hN (Nat.le_of_lt (cell_lt h.c2))) (pSub_I h hN) ⟨Nat.le_refl _, by decide⟩)
      clear hl hc hb
      unfold bktV at *
      go_enter Tryz.func3, Tryz.ntmps3
      go_upto_region 1 with fail
      rw [← hw0]
      clear hw0
      go_upto_region 4 with fail
      rw [HT.out]
      clear hll
      go_upto_region 7 with (go_at_call 5; refine (HNF.out _).mono ?_; rintro e w1 ⟨rfl, hw1⟩; have HG1 := Lib.hid (show Gr w0 w1 from by rw [hw1]; exact (Gr.refl _).alloc _); have HF1 := Lib.hid (show FifoAt w1 w0.heap.size (.slice none 0 0) [] k 1000000 false from by rw [hw1]; exact fifo_born rfl); clear hw1)
      obtain ⟨p1, hp1⟩ : ∃ p1, p1 = w0.heap.size := ⟨_, rfl⟩
      have HP1 : Hid (W.heap.size ≤ p1) := Lib.hid (by rw [hp1]; exact HG0.out.size)
      rw [← hp1] at HF1
      rw [← hp1]
      clear hp1
      obtain ⟨x0, x1, x2⟩ := HCC.out.gr HG1.out
      have tok1 := trivial
      go_upto_region 8 with (first
        | (go_at_call 7; (with_reducible refine (HO.out _ _ _ _).mono ?_); rintro e w2 ⟨rfl, hg2⟩; have HG2 := Lib.hid (HG1.out.trans hg2); have HF2 := Lib.hid (HF1.out.gr hg2); clear hg2)
        | (go_at_call 6; (with_reducible refine (HBC.out _).mono ?_); rintro e w3 ⟨rfl, hg3⟩; rw [HC0.out]; have HG3 := Lib.hid (HG2.out.trans hg3); have HF3 := Lib.hid (HF2.out.gr hg3); clear hg3))
      clear x0 x1 x2
      obtain ⟨x0, x1, x2⟩ := HCC.out.gr HG3.out
      go_upto_region 9 with (go_at_call 8; (with_reducible refine (HSW.out p1 w3 HP1.out HF3.out).mono ?_); rintro e w4 ⟨p, rfl, tp, hpp, hsp, hg4⟩; have HG4 := Lib.hid (HG3.out.trans hg4); have HS4 := Lib.hid hsp; have HPP := Lib.hid hpp; clear hpp hsp hg4)
      clear x0 x1 x2
      obtain ⟨x0, x1, x2⟩ := HCC.out.gr HG4.out
      go_upto_region 10 with (go_at_call 8; (with_reducible refine (HSN.out w4).mono ?_); rintro e w5 ⟨rfl, hg5⟩; have HG5 := Lib.hid (HG4.out.trans hg5); have HS5 := Lib.hid (HS4.out.gr (into_foot _) hg5); clear hg5)
      clear x0 x1 x2
      go_upto_region 12 with (first
        | (go_at_call 9; have _ := tok1; (with_reducible refine (bare_true _ (HGL.out.gr (HG0.out.trans HG5.out)) (ErrIs.nil _)).mono ?_); rintro e w6 ⟨rfl, hg6⟩; have HG6 := Lib.hid (HG5.out.trans hg6); have HS6 := Lib.hid (HS5.out.gr (into_foot _) hg6); clear hg6 tok1)
        | (go_at_call 9; (with_reducible refine (bare_true _ (HGL.out.gr (HG0.out.trans HG6.out)) (ErrIs.no _ _)).mono ?_); rintro e w7 ⟨rfl, hg7⟩; have HG7 := Lib.hid (HG6.out.trans hg7); have HS7 := Lib.hid (HS6.out.gr (into_foot _) hg7); clear hg7))
      have HLT7 : Hid (p1 < w7.heap.size ∧ p < w7.heap.size ∧ tp < w7.heap.size) := Lib.hid ⟨S_lt HS7.out.sub (.inl rfl), HS7.out.plt, (stP.mine HS7.out.st).lt⟩
      have HW7 := Lib.hid (HG0.out.trans HG7.out)
      have HFIN : Hid (∀ w8 w9 rt rg, Gr (w7.alloc (.cells #[.int .i64 k, .int .i64 1000000, .bool false, .slice none 0 0] 46)) w8 → w8.heap.size ≤ rt → FAt w9 rt B B.full rg → Gr w8 w9 → Calls Tryz.prog 10 #[.iface 37 (.pointer (some ⟨p, 0, none⟩)), .iface 42 (.pointer (some ⟨w9.heap.size, 0, none⟩)), .slice sa xs.length sc, .nilFunc] (w9.alloc (.cells #[.iface 43 (.pointer (some ⟨w7.heap.size, 0, none⟩)), .pointer (some ⟨rt, 0, none⟩), .slice none 0 0, .slice none 0 0] 52)) fun e w' => e = .returned (.bool true) ∧ Gr W w') := Lib.hid (fun w8 w9 rt rg g8 hrt hf g9 => by
        have ha : Gr w7 (w7.alloc (.cells #[.int .i64 k, .int .i64 1000000, .bool false, .slice none 0 0] 46)) := (Gr.refl _).alloc _
        have hr9 := (rfifo_born (w := w7) (a := k) (b := 1000000) (head := false) rfl).gr (g8.trans g9)
        have hsz : w7.heap.size + 1 ≤ w8.heap.size := by have := g8.size; simp at this; omega
        have hN : W.heap.size ≤ w7.heap.size := HW7.out.size
        have hw9 := HW7.out.trans (ha.trans (g8.trans g9))
        have hb := shp_born (K := stR) (N := nkR) (E := 95) (T := 52) (q := .iface 43 (.pointer (some ⟨w7.heap.size, 0, none⟩))) (mu := List.length) (nv := .slice none 0 0) (into_foot _) hw9.size (rSub_I hr9 hN) (stR_close hf) hf.c0 hf.c2 ⟨fun e => e.elim (fun e => by omega) (fun e => by cases e), by omega⟩ (fun _ => RowH.nil _ _) rfl ⟨Nat.le_refl _, by decide⟩ rfl
        have hg9 : Gr w7 (w9.alloc (.cells #[.iface 43 (.pointer (some ⟨w7.heap.size, 0, none⟩)), .pointer (some ⟨rt, 0, none⟩), .slice none 0 0, .slice none 0 0] 52)) := (ha.trans (g8.trans g9)).alloc _
        exact sh_play W _ (HW7.out.trans hg9) k HTI.out B (M := w7.heap.size) (HS7.out.gr (into_foot _) hg9) hb HLT7.out ⟨Nat.le_refl _, by have := g9.size; omega, by omega⟩ HX.out HL.out)
      have hlt : W.heap.size < w7.heap.size := by have h1 := HG7.out.size; have h2 := cell_lt HCC.out.c0; simp at h2; omega
      obtain ⟨x0, x1, x2⟩ := HCC.out.gr HG7.out
      go_wp2_with (first
        | (go_at_call 7; (with_reducible refine (HO.out _ _ _ _).mono ?_); rintro e w8 ⟨rfl, hg8⟩; have HG8 := Lib.hid hg8; clear hg8)
        | (go_at_call 11; (with_reducible refine (HFL.out _).mono ?_); rintro e w9 ⟨rt, rg, rfl, hrt, hf, hg9⟩; have HFF := Lib.hid (HFIN.out w8 w9 rt rg HG8.out hrt hf hg9); clear hrt hf hg9)
        | (go_at_call 10; refine HFF.out.mono ?_; rintro e w10 ⟨rfl, hg10⟩; have HG10 := Lib.hid hg10; clear hg10))
      go_ret
      exact ⟨rfl, HG10.out⟩
    · have HC0 := Lib.hid (ckB_no hc)
      have HSW := Lib.hid (fun (p1 : Nat) (u : World) => snew_no b t r 28 (.pointer (some ⟨p1, 0, none⟩)) u hb.1 hb.2.1 hb.2.2 hc)
      clear hl hc hb
      unfold bktV at *
      go_enter Tryz.func3, Tryz.ntmps3
      go_upto_region 1 with fail
      rw [← hw0]
      clear hw0
      go_upto_region 4 with fail
      rw [HT.out]
      clear hll
      go_upto_region 7 with (go_at_call 5; refine (HNF.out _).mono ?_; rintro e w1 ⟨rfl, hw1⟩; have HG1 := Lib.hid (show Gr w0 w1 from by rw [hw1]; exact (Gr.refl _).alloc _); clear hw1)
      obtain ⟨p1, hp1⟩ : ∃ p1, p1 = w0.heap.size := ⟨_, rfl⟩
      rw [← hp1]
      clear hp1
      obtain ⟨x0, x1, x2⟩ := HCC.out.gr HG1.out
      have tok1 := trivial
      go_upto_region 8 with (first
        | (go_at_call 7; (with_reducible refine (HO.out _ _ _ _).mono ?_); rintro e w2 ⟨rfl, hg2⟩; have HG2 := Lib.hid (HG1.out.trans hg2); clear hg2)
        | (go_at_call 6; (with_reducible refine (HBC.out _).mono ?_); rintro e w3 ⟨rfl, hg3⟩; rw [HC0.out]; have HG3 := Lib.hid (HG2.out.trans hg3); clear hg3))
      clear x0 x1 x2
      obtain ⟨x0, x1, x2⟩ := HCC.out.gr HG3.out
      go_upto_region 9 with (go_at_call 8; (with_reducible refine (HSW.out p1 w3).mono ?_); rintro e w4 ⟨rfl, hg4⟩; have HG4 := Lib.hid (HG3.out.trans hg4); clear hg4)
      clear x0 x1 x2
      obtain ⟨x0, x1, x2⟩ := HCC.out.gr HG4.out
      go_upto_region 10 with (go_at_call 8; (with_reducible refine (HSN.out w4).mono ?_); rintro e w5 ⟨rfl, hg5⟩; have HG5 := Lib.hid (HG4.out.trans hg5); clear hg5)
      clear x0 x1 x2
      go_upto_region 12 with (first
        | (go_at_call 9; have _ := tok1; (with_reducible refine (bare_true _ (HGL.out.gr (HG0.out.trans HG5.out)) (ErrIs.no _ _)).mono ?_); rintro e w6 ⟨rfl, hg6⟩; have HG6 := Lib.hid (HG5.out.trans hg6); clear hg6 tok1)
        | (go_at_call 9; (with_reducible refine (bare_true _ (HGL.out.gr (HG0.out.trans HG6.out)) (ErrIs.no _ _)).mono ?_); rintro e w7 ⟨rfl, hg7⟩; have HG7 := Lib.hid (HG6.out.trans hg7); clear hg7))
      go_wp2
      go_ret
      exact ⟨rfl, HG0.out.trans HG7.out⟩
end Go.Proofs.YtgifghbnpdanhaaGreatDoor

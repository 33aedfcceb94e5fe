/-
  The reference's filter, walked: what is no list and no test.
-/
import Derived.Test.YthkccohigoejgaaGreatDoorFltRG
namespace Go.Proofs.YthkccohigoejgaaGreatDoor
open Go Go.RowKit

set_option maxRecDepth 100000 in
set_option maxHeartbeats 8000000 in
theorem rfilter_zero {w0 w : World} {p m : Nat} {L : List Tok} {e pl : Int} (h : RP w0 w p m L e 0 pl) :
    Calls Tryz.prog 10 #[.pointer (some ⟨p, 0, none⟩), .int .i64 20] w fun E w' => RAns w0 w w' p m 0 e E (pOne 0 L) := by
  have HR := Lib.hid h
  have g2 := h.c2
  clear h
  go_enter Tryz.func10, Tryz.ntmps10
  go_wp2_with (go_at_call 11; refine (rfail_ok HR.out _).mono ?_; rintro E w1 ⟨rfl, h1, h2⟩; have H1 := Lib.hid (And.intro h1 h2); clear h1 h2)
  go_ret
  exact ⟨_, rfl, ⟨⟨_, rfl⟩, by decide, L, H1.out.1⟩, H1.out.2⟩
theorem Kid.err_ok {w0 u : World} {p m d d' : Nat} {e : Int} {S S' : Nat → Prop} {v v' : Value} {c : Int} {R : List Tok} (h : Kid w0 p m d e S v u (.err c R)) (hv : isPt v') : Kid w0 p m d' e S' v' u (.err c R) := ⟨hv, h.2⟩
/-- not of it. -/
theorem Kid.not_ {w0 u : World} {p m d g q b0 : Nat} {e : Int} {v : Value} {a : Option Addr} {pr : PR} (h : Kid w0 p m d e (fun g => b0 ≤ g) v u pr) (hv : v = .pointer a) (hb : b0 ≤ u.heap.size) (hg : Gr w0 u) (hgg : g = u.heap.size) (hq : q = u.heap.size + 1) :
    Kid w0 p m (d + 1) e (fun g => b0 ≤ g) (.pointer (some ⟨q, 0, none⟩)) ((u.alloc (.cells #[.pointer a] 22)).alloc (.cells #[.string kNot, .int .i64 0, .int .i64 0, .int .i64 0, .slice (some ⟨g, 0, none⟩) 1 1] 56)) (pNot pr) := by
  subst hgg hq hv
  have k1 : Gr u (u.alloc (.cells #[.pointer a] 22)) := (Gr.refl u).alloc _
  have hs1 : (u.alloc (.cells #[Value.pointer a] 22)).heap.size = u.heap.size + 1 := by simp
  have k2 : Gr u ((u.alloc (.cells #[.pointer a] 22)).alloc (.cells #[.string kNot, .int .i64 0, .int .i64 0, .int .i64 0, .slice (some ⟨u.heap.size, 0, none⟩) 1 1] 56)) := k1.alloc _
  have h2 := h.gr k2 (hg.trans k2)
  cases pr with
  | err c R => exact h2.err_ok ⟨_, rfl⟩
  | ok f R =>
    have hrow : PtRow (u.alloc (.cells #[.pointer a] 22)) (.slice (some ⟨u.heap.size, 0, none⟩) 1 1) [.pointer a] := by
      refine ⟨rfl, .inr ⟨u.heap.size, 0, 1, #[.pointer a], rfl, heap_alloc_new u _, Nat.le_refl _, by unfold maxLen; omega, by simp, fun i x hx => ?_, fun j hj => ?_⟩⟩
      · match i, hx with
        | 0, hx => exact ⟨a, (by simpa using hx.symm)⟩
        | i + 1, hx => simp at hx
      · obtain rfl : j = 0 := by simp at hj; omega
        rfl
    refine ⟨⟨u.heap.size + 1, rfl, by omega, by simp, _, _, ?_, Row.gr hrow ((Gr.refl _).alloc _), fun g hg => ?_, h2.1⟩, h2.2⟩
    · rw [← hs1]; exact RB.new _ _ _ _ _ _
    · simp [Value.ownBlock] at hg; subst hg; exact hb
set_option maxRecDepth 100000 in
set_option maxHeartbeats 8000000 in
theorem rfilter_succ {w0 : World} {p m : Nat} {e : Int} (HE : Env w0) (d : Nat) (hd : d < 20)
    (IH : ∀ {w : World} {L : List Tok} {pl B : Int}, B + (d : Int) = 20 → RP w0 w p m L e 0 pl → Calls Tryz.prog 10 #[.pointer (some ⟨p, 0, none⟩), .int .i64 B] w fun E w' => RAns w0 w w' p m d e E (pOne d L))
    {w : World} {L : List Tok} {pl A : Int} (hA : A + (d : Int) = 19) (h : RP w0 w p m L e 0 pl) :
    Calls Tryz.prog 10 #[.pointer (some ⟨p, 0, none⟩), .int .i64 A] w fun E w' => RAns w0 w w' p m (d + 1) e E (pOne (d + 1) L) := by
  have HR := Lib.hid h
  have HEN := Lib.hid HE
  obtain ⟨fb, fo, fc, hf0, hf1⟩ := HE.rfd
  have HF0 := Lib.hid hf0
  have HFD := Lib.hid hf1
  clear hf0 hf1
  have g2 := h.c2
  have hA0 : 0 ≤ A := by omega
  have hA1 : A ≤ 19 := by omega
  have HAB : Hid (A + 1 + (d : Int) = 20) := Lib.hid (by omega)
  clear h HE hA
  go_enter Tryz.func10, Tryz.ntmps10
  go_wp2_with (first
    | (go_at_call 17; refine (is_any H5.out.2.2.1 _).mono ?_; rintro E w6 ⟨hb6, L6, rfl, h6⟩; have H6 := Lib.hid h6; clear h6; have hf0 := H6.out.2.2.1.gr.cell HF0.out)
    | (go_at_call 17; refine (is_any H4.out.2.2.1 _).mono ?_; rintro E w5 ⟨hb5, L5, rfl, h5⟩; have H5 := Lib.hid h5; clear h5)
    | (go_at_call 17; refine (is_any HR.out _).mono ?_; rintro E w4 ⟨hb4, L4, rfl, h4⟩; have H4 := Lib.hid h4; clear h4))
  · obtain rfl : hb4 = true := (by first | assumption | simp_all)
    go_ret
    exact ⟨_, rfl, by rw [po_any H4.out.yes]; exact ⟨⟨_, rfl, H4.out.2.2.2.size, by simp, RB.new _ _ _ _ _ _⟩, pl, H4.out.2.2.1.gr' ((Gr.refl _).alloc _)⟩, H4.out.2.2.2.then (.of_gr ((Gr.refl _).alloc _))⟩
  · obtain rfl : hb4 = false := (by first | assumption | simp_all)
    obtain rfl : hb5 = true := (by first | assumption | simp_all)
    obtain ⟨h4, rfl⟩ := H4.out.no
    have h5 := H5.out.yes
    have HP0 := Lib.hid (po_not (d := d) h4 h5)
    have HS := Lib.hid (H4.out.2.2.2.then H5.out.2.2.2)
    clear h4 h5
    refine (IH HAB.out H5.out.2.2.1).mono ?_
    rintro E w7 ⟨v, rfl, hk, hsv⟩
    obtain ⟨a, rfl⟩ := hk.pt
    have HK := Lib.hid hk
    have HV := Lib.hid hsv
    clear hk hsv
    go_wp2
    go_ret
    exact ⟨_, rfl, by rw [HP0.out]; exact (HK.out.mono (fun g hg _ => Nat.le_trans HS.out.size hg)).not_ rfl (Nat.le_trans HS.out.size HV.out.size) (HV.out.gr H5.out.2.2.1.gr (fun q e => by rw [e]; exact H5.out.2.2.1.fr)) rfl rfl, (HS.out.then HV.out).then (.of_gr (((Gr.refl _).alloc _).alloc _))⟩
  · obtain rfl : hb4 = false := (by first | assumption | simp_all)
    obtain rfl : hb5 = false := (by first | assumption | simp_all)
    obtain rfl : hb6 = true := (by first | assumption | simp_all)
    obtain ⟨h4, rfl⟩ := H4.out.no
    obtain ⟨h5, rfl⟩ := H5.out.no
    have h6 := H6.out.yes
    have HP0 := Lib.hid (po_open (d := d) h4 h5 h6)
    have HS6 := Lib.hid ((H4.out.2.2.2.then H5.out.2.2.2).then H6.out.2.2.2)
    have HR6 := Lib.hid H6.out.2.2.1
    clear h4 h5 h6 H4 H5 H6
    obtain ⟨R0, hR0⟩ : ∃ R0, R0 = pList (pOne d) (L6.length + 1) L6 [] 0 := ⟨_, rfl⟩
    have HQ0 := Lib.hid hR0
    clear hR0
    have HPL : Hid (pOne (d + 1) L5 = R0) := Lib.hid (by rw [HP0.out, HQ0.out])
    obtain ⟨b, hb⟩ : ∃ b, b = w6.heap.size := ⟨_, rfl⟩
    obtain ⟨w7, hw7⟩ : ∃ w7, w7 = w6.alloc (.cells #[.string ⟨#[97, 110, 100]⟩, .int .i64 0, .int .i64 0, .int .i64 0, .slice none 0 0] 56) := ⟨_, rfl⟩
    have HLS : Hid (RLs w0 w6 w7 p m b d L6 e pl [] (.slice none 0 0) [] (fun _ => False)) := Lib.hid (by
      have g : Gr w6 w7 := by rw [hw7]; exact (Gr.refl w6).alloc _
      refine ⟨HR6.out.gr' g, ?_, Row.nil _ _ _ _, rfl, fun i hi => by simp at hi, fun g hg => hg.elim, fun g hg => by simp [Value.ownBlock] at hg, by rw [hb]; exact HR6.out.ms, by rw [hb]; exact Nat.le_refl _, Sav.of_gr g, by have := HR6.out.hl; simp; omega⟩
      rw [hw7, hb]; exact RB.new _ _ _ _ _ _)
    rw [← hb, ← hw7]
    clear hb hw7
    go_loopw [6] (fun s wr => (∃ (L' : List Tok) (pl' : Int) (acc : List Flt) (sv : Value) (vs : List Value) (S : Nat → Prop) (wd n : Nat), ((s = .string ⟨#[]⟩ ∧ wd = 0) ∨ (s = .string ⟨#[97, 110, 100]⟩ ∧ wd = 1) ∨ (s = .string ⟨#[111, 114]⟩ ∧ wd = 2)) ∧ Hid (RLs w0 w6 wr p m b d L' e pl' acc sv vs S) ∧ Hid (L'.length < n ∧ pList (pOne d) n L' acc wd = R0)) ∨
      ∃ (c pl' : Int) (R L' : List Tok) (sv : Value), (s = .string ⟨#[]⟩ ∨ s = .string ⟨#[97, 110, 100]⟩ ∨ s = .string ⟨#[111, 114]⟩) ∧ Hid (RErr w0 w6 wr p m b L' e c pl' sv) ∧ Hid (pl' = placeOf e R ∧ R0 = .err c R)) (fun _ wr => mesR wr p)
    case atStart => exact .inl ⟨L6, pl, [], _, [], _, 0, _, .inl ⟨rfl, rfl⟩, HLS, Lib.hid ⟨Nat.lt_succ_self _, HQ0.out.symm⟩⟩
    case round =>
      clear HLS HQ0
      rcases hrel with ⟨L', pl', acc, sv, vs, S, wd, n, hwd, HRL, HQ⟩ | ⟨c, pl', R, L', sv, hs, HRE, HQ⟩
      · have g2' := HRL.out.rp.c2
        obtain ⟨sa, sc, hsv⟩ := Row.shape HRL.out.row
        subst hsv
        have HPB : Hid (p ≠ b) := Lib.hid (by have := HRL.out.rp.rm; have := HRL.out.tm; omega)
        have HNB : Hid (¬ (Value.slice sa vs.length sc).ownBlock = some b) := Lib.hid (fun e => by have := (HRL.out.own b e).1; omega)
        have HNP : Hid (¬ (Value.slice sa vs.length sc).ownBlock = some p) := Lib.hid (fun e => by have := (HRL.out.own p e).1; have := HRL.out.rp.rm; have := HRL.out.tm; omega)
        have HOW : Hid (∀ g, (Value.slice sa vs.length sc).ownBlock = some g → g < wr.heap.size) := Lib.hid (fun g e => Row.lt HRL.out.row e)
        have HFEW : Hid (vs.length ≤ 999999) := Lib.hid (by have := HRL.out.few; rw [HRL.out.len]; omega)
        have HWA : Hid (IntKind.i64.wrap (A + 1) = A + 1) := Lib.hid (by rw [IntKind.wrap_i64]; omega)
        go_wp2
        refine wp_region_l (n := 11) (fun bb u => Sav (fun q => (bb = true ∧ q = p) ∨ (Value.slice sa vs.length sc).ownBlock = some q) wr u ∧ PtRow u (.slice sa vs.length sc) vs ∧ Gr w0 u) 8 [Fv.of 0 (Fg.eq (.pointer (some ⟨b, 0, none⟩))), Fv.of 1 (Fg.eq (.pointer (some ⟨b, 0, none⟩))), Fv.of 2 (Fg.eq (.pointer (some ⟨b, 0, none⟩))), Fv.of 3 (Fg.eq (.pointer (some ⟨b, 4, none⟩))), Fv.of 4 (Fg.eq (.slice sa vs.length sc)), Fv.of 5 (Fg.eq (.pointer (some ⟨p, 0, none⟩))), Fv.of 6 (Fg.eq (.int .i64 A)), Fv.of 7 (Fg.eq (.int .i64 (A + 1))), Fv.of 8 (Fg.kid w0 p m d wr.heap.size e (pOne d L')), Fv.of 9 (Fg.kidS w0 p m d wr.heap.size e (pOne d L')), Fv.of 10 (Fg.kidR w0 p m d wr.heap.size e (pOne d L') (.slice sa vs.length sc) vs)] [45, 46, 47, 48, 49, 50, 51, 52, 53, 54, 55] ⟨.of_gr (Gr.refl wr).drew, Row.gr HRL.out.row (Gr.refl wr).drew, HRL.out.rp.gr.trans (Gr.refl wr).drew⟩ (by decide) (by kernel_rfl) (by kernel_rfl) (by kernel_rfl) (by kernel_rfl) ?_ ?_
        · intro L0 q o ac w1 hi' ho hA
          match q, hi' with
          | 0, _ =>
            obtain rfl := Option.some.inj ho
            exact lstep_val hA (by decide) (s_move rfl (show ac.eval (.tmp 5) = .pointer (some ⟨b, 0, none⟩) from hA.other 5 (by decide))) (fun _ hf => hf)
          | 1, _ =>
            obtain rfl := Option.some.inj ho
            exact lstep_val hA (by decide) (s_move rfl (show ac.eval (.tmp 5) = .pointer (some ⟨b, 0, none⟩) from hA.other 5 (by decide))) (fun _ hf => hf)
          | 2, _ =>
            obtain rfl := Option.some.inj ho
            exact lstep_val hA (by decide) (s_nil rfl (hA.fact 1 (hA.dep 1 (by kernel_rfl) (by decide)))) (fun _ hf => hf)
          | 3, _ =>
            obtain rfl := Option.some.inj ho
            exact lstep_val hA (by decide) (f_fa4 rfl (hA.fact 2 (hA.dep 2 (by kernel_rfl) (by decide)))) (fun _ hf => hf)
          | 4, _ =>
            obtain rfl := Option.some.inj ho
            have hld : w1.cell? ⟨b, 4, none⟩ = some (.slice sa vs.length sc) := hA.any (fun bb u hu => hu.1.cell HRL.out.ts.c4 (fun e => e.elim (fun e => HPB.out e.2.symm) (fun e => HNB.out e)))
            exact lstep_val hA (by decide) (f_load rfl (hA.fact 3 (hA.dep 3 (by kernel_rfl) (by decide))) hld) (fun _ hf => hf)
          | 5, _ =>
            obtain rfl := Option.some.inj ho
            exact lstep_val hA (by decide) (s_move rfl (show ac.eval (.tmp 0) = .pointer (some ⟨p, 0, none⟩) from hA.other 0 (by decide))) (fun _ hf => hf)
          | 6, _ =>
            obtain rfl := Option.some.inj ho
            exact lstep_val hA (by decide) (s_move rfl (show ac.eval (.tmp 1) = .int .i64 A from hA.other 1 (by decide))) (fun _ hf => hf)
          | 7, _ =>
            obtain rfl := Option.some.inj ho
            exact lstep_val hA (by decide) (f_add rfl (hA.fact 6 (hA.dep 6 (by kernel_rfl) (by decide))) rfl HWA.out) (fun _ hf => hf)
          | 8, _ =>
            obtain rfl := Option.some.inj ho
            refine lstep_callL hA rfl (f_call rfl rfl (hA.fact 5 (hA.dep 5 (by kernel_rfl) (by decide))) (hA.fact 7 (hA.dep 7 (by kernel_rfl) (by decide)))) (fun hI => ?_)
            have hrp : RP w0 w1 p m L' e 0 pl' := HRL.out.rp.old (fun q hq => hI.1.block q (Nat.lt_of_lt_of_le hq HRL.out.rp.ms) (fun e => e.elim (fun e => by cases e.1) (fun e => by have := (HRL.out.own q e).1; have := HRL.out.tm; omega))) hI.1.size hI.2.2
            refine (IH HAB.out hrp).mono ?_
            rintro E w8 ⟨v, rfl, hk, hsv⟩
            have hgr8 : Gr w0 w8 := hsv.gr hI.2.2 (fun q e => by rw [e]; exact HRL.out.rp.fr)
            refine ⟨v, rfl, ⟨(hI.1.mono fun q e => e.elim (fun e => by cases e.1) .inr).then (hsv.mono fun q e => .inl ⟨rfl, e⟩), Row.sav hI.2.1 hsv (fun g e e2 => HNP.out (by rw [← show g = p from e2]; exact e)), hgr8⟩, fun f hf => ?_, fun j hj hu => ?_⟩
            · rw [show fvAt _ 8 = Fv.of 8 (Fg.kid w0 p m d wr.heap.size e (pOne d L')) from rfl]
              show Kid w0 p m d e (fun g => wr.heap.size ≤ g) (f 8) w8 (pOne d L') ∧ Gr w0 w8
              rw [show f 8 = v from hf]
              exact ⟨hk.mono (fun g hg _ => Nat.le_trans hI.1.size hg), hgr8⟩
            match j, hj, hu with
            | 0, _, hu => exact hu
            | 1, _, hu => exact hu
            | 2, _, hu => exact hu
            | 3, _, hu => exact hu
            | 4, _, hu => exact hu
            | 5, _, hu => exact hu
            | 6, _, hu => exact hu
            | 7, _, hu => exact hu
            | 8, hj, _ => exact (hA.self hj).elim
            | 9, hj, _ => exact (hA.self (hA.closed 9 8 hj (by kernel_rfl) (by decide))).elim
            | 10, hj, _ => exact (hA.self (hA.closed 9 8 (hA.closed 10 9 hj (by kernel_rfl) (by decide)) (by kernel_rfl) (by decide))).elim
            | j + 11, hj, _ => exact absurd (hA.low _ hj) (by omega)
          | 9, _ =>
            obtain rfl := Option.some.inj ho
            have hI := hA.yes (hA.dep 8 (by kernel_rfl) (by decide))
            have hk : Kid w0 p m d e (fun g => wr.heap.size ≤ g) (valOf _ ac 8) w1 (pOne d L') ∧ Gr w0 w1 := (hA.fact 8 (hA.dep 8 (by kernel_rfl) (by decide)))
            obtain ⟨aa, haa⟩ := hk.1.pt
            refine lstep_new hA (by decide) (f_build rfl haa) ((Gr.refl _).alloc _) (fun b h => ⟨h.1.then (.of_gr ((Gr.refl _).alloc _)), Row.gr h.2.1 ((Gr.refl _).alloc _), h.2.2.trans ((Gr.refl _).alloc _)⟩) (fun f hf => ?_)
            exact ⟨⟨_, .pointer aa, hf, hI.1.size, by simp, by rw [← haa]; exact hk.1.gr ((Gr.refl _).alloc _) (hk.2.trans ((Gr.refl _).alloc _))⟩, hk.2.trans ((Gr.refl _).alloc _)⟩
          | 10, _ =>
            obtain rfl := Option.some.inj ho
            have hL9 : L0 9 := hA.dep 9 (by kernel_rfl) (by decide)
            have hI := hA.yes (hA.closed 9 8 hL9 (by kernel_rfl) (by decide))
            obtain ⟨⟨g, x, hv, hge, hcg, hk⟩, hgr⟩ := (hA.fact 9 (hA.dep 9 (by kernel_rfl) (by decide)))
            obtain ⟨v', w', hr, hrow, hgrow, hown, hold⟩ := PtRow.app (g := g) (c := 1) hI.2.1 hk.pt hcg HFEW.out
            have sv : Sav (fun g => (Value.slice sa vs.length sc).ownBlock = some g) w1 w' := .of_grown hgrow fun _ h => h
            have hgr' : Gr w0 w' := sv.gr hgr (fun q e => by have := (HRL.out.own q e).1; have := HRL.out.tm; have := HRL.out.rp.fr; have := HRL.out.rp.rm; omega)
            have hkb := hk.mono (S' := fun g => wr.heap.size ≤ g ∧ g < w1.heap.size) (fun g h1 h2 => ⟨h1, h2⟩)
            have hmB : ∀ g, (Value.slice sa vs.length sc).ownBlock = some g → m ≤ g := fun g e => by have := (HRL.out.own g e).1; have := HRL.out.tm; omega
            refine lstep_keep hA (by decide) (s_app rfl (hA.fact 4 (hA.dep 4 (by kernel_rfl) (by decide))) hv hr) (fun bb h => ⟨h.1.then (sv.mono fun q e => .inr e), hold, sv.gr h.2.2 (fun q e => by have := (HRL.out.own q e).1; have := HRL.out.tm; have := HRL.out.rp.fr; have := HRL.out.rp.rm; omega)⟩) (fun f hf _ => ?_) (fun j hj hu => ?_)
            · show (∃ (x : Value) (S2 : Nat → Prop), PtRow w' (f 10) (vs ++ [x]) ∧ (∀ g, (f 10).ownBlock = some g → (Value.slice sa vs.length sc).ownBlock = some g ∨ wr.heap.size ≤ g) ∧ Kid w0 p m d e S2 x w' (pOne d L') ∧ (∀ g, S2 g → wr.heap.size ≤ g ∧ g < w'.heap.size) ∧ ∀ g, (f 10).ownBlock = some g → ¬ S2 g) ∧ Gr w0 w'
              rw [show f 10 = v' from hf]
              refine ⟨⟨x, _, hrow, fun q hq => (hown q hq).imp id (Nat.le_trans hI.1.size), hkb.keep sv (fun g h1 h2 => by have := HOW.out g h2; omega) hmB hgr', fun g h => ⟨h.1, Nat.lt_of_lt_of_le h.2 sv.size⟩, fun q hq h1 => ?_⟩, hgr'⟩
              rcases hown q hq with h2 | h2
              · have := HOW.out q h2; omega
              · omega
            match j, hj, hu with
            | 0, _, hu => exact hu
            | 1, _, hu => exact hu
            | 2, _, hu => exact hu
            | 3, _, hu => exact hu
            | 4, _, hu => exact hu
            | 5, _, hu => exact hu
            | 6, _, hu => exact hu
            | 7, _, hu => exact hu
            | 8, _, hu => exact (show ∀ z, (Kid w0 p m d e (fun g => wr.heap.size ≤ g) z w1 (pOne d L') ∧ Gr w0 w1) → (Kid w0 p m d e (fun g => wr.heap.size ≤ g) z w' (pOne d L') ∧ Gr w0 w') from fun z hz => ⟨hz.1.keep sv (fun g h1 h2 => by have := HOW.out g h2; omega) hmB hgr', hgr'⟩) _ hu
            | 9, _, hu => exact (show ∀ z : Value, ((∃ (g : Nat) (x : Value), z = Value.slice (some ⟨g, 0, none⟩) 1 1 ∧ wr.heap.size ≤ g ∧ w1.cell? ⟨g, 0, none⟩ = some x ∧ Kid w0 p m d e (fun g => wr.heap.size ≤ g) x w1 (pOne d L')) ∧ Gr w0 w1) → ((∃ (g : Nat) (x : Value), z = Value.slice (some ⟨g, 0, none⟩) 1 1 ∧ wr.heap.size ≤ g ∧ w'.cell? ⟨g, 0, none⟩ = some x ∧ Kid w0 p m d e (fun g => wr.heap.size ≤ g) x w' (pOne d L')) ∧ Gr w0 w') from fun z ⟨⟨g, x, h1, h2, h3, h4⟩, _⟩ => ⟨⟨g, x, h1, h2, sv.cell h3 (fun e => by have := HOW.out g e; omega), h4.keep sv (fun g h1 h2 => by have := HOW.out g h2; omega) hmB hgr'⟩, hgr'⟩) (valOf _ ac 9) hu
            | 10, hj, _ => exact (hA.self hj).elim
            | j + 11, hj, _ => exact absurd (hA.low _ hj) (by omega)
          | q + 11, hk => exact absurd (show q + 11 < 11 from hk) (by omega)
        · intro vs' w5 hI hv
          obtain ⟨⟨x, S2, e1, o1, e2, e3, e4⟩, e5⟩ : (∃ (x : Value) (S2 : Nat → Prop), PtRow w5 (vs' 10) (vs ++ [x]) ∧ (∀ g, (vs' 10).ownBlock = some g → (Value.slice sa vs.length sc).ownBlock = some g ∨ wr.heap.size ≤ g) ∧ Kid w0 p m d e S2 x w5 (pOne d L') ∧ (∀ g, S2 g → wr.heap.size ≤ g ∧ g < w5.heap.size) ∧ ∀ g, (vs' 10).ownBlock = some g → ¬ S2 g) ∧ Gr w0 w5 := hv 10 (by omega)
          have v0 : vs' 0 = .pointer (some ⟨b, 0, none⟩) := hv 0 (by omega)
          have hsv := hI.1
          clear hv hI
          simp only [putN, List.drop_succ_cons, List.drop_zero, List.getElem?_cons_succ, List.getElem?_cons_zero]
          generalize vs' 10 = z1 at *
          generalize vs' 0 = y0 at *
          subst v0
          obtain ⟨ra, rc, er⟩ := Row.shape e1
          rw [show (vs ++ [x]).length = vs.length + 1 from by simp] at er
          subst er
          have HSV5 : Hid (Sav (fun q => q = p ∨ (Value.slice sa vs.length sc).ownBlock = some q) wr w5) := Lib.hid (hsv.mono fun q e => e.imp (fun h => h.2) id)
          have d4 := hsv.cell HRL.out.ts.c4 (fun e => e.elim (fun e => HPB.out e.2.symm) (fun e => HNB.out e))
          have d5 := hsv.frozen (p := ⟨b, 4, none⟩) HRL.out.ts.lt (HRL.out.ts.fz 4) (fun e => e.elim (fun e => HPB.out e.2.symm) (fun e => HNB.out e))
          have HK := Lib.hid e2
          have HZ := Lib.hid (And.intro e1 (And.intro o1 (And.intro e3 (And.intro e4 e5))))
          clear hsv e1 e2 o1 e3 e4 e5
          have HRC : Hid (∀ g, (Value.slice ra (vs.length + 1) rc).ownBlock = some g → (Value.slice sa vs.length sc).ownBlock = some g ∨ wr.heap.size ≤ g) := Lib.hid HZ.out.2.1
          go_upto_region 15 with fail
          cases hP : pOne d L' with
          | err c R =>
            rw [hP] at HK
            obtain ⟨hpt, hc, R', hrp⟩ := HK.out
            have HE5 : Hid (RErr w0 w6 (w5.setCell ⟨b, 4, none⟩ (.slice ra (vs.length + 1) rc)) p m b R' e c (placeOf e R) (.slice ra (vs.length + 1) rc)) := Lib.hid (HRL.out.fell HSV5.out hrp hc _)
            have HQ5 : Hid (R0 = .err c R) := Lib.hid (by obtain ⟨n', rfl⟩ : ∃ n', n = n' + 1 := ⟨n - 1, by have := HQ.out.1; omega⟩; rw [← HQ.out.2, pl_err hP])
            have HM : Hid (mesR wr p = L'.length + 1) := Lib.hid HRL.out.rp.mes
            obtain ⟨w8, hw8⟩ : ∃ w8, w8 = w5.setCell ⟨b, 4, none⟩ (.slice ra (vs.length + 1) rc) := ⟨_, rfl⟩
            rw [← hw8] at HE5 ⊢
            clear hw8 d4 d5 hpt hrp HK HZ HSV5 hP
            rcases hwd with ⟨rfl, rfl⟩ | ⟨rfl, rfl⟩ | ⟨rfl, rfl⟩
            · go_wp2_with (first
                | (go_at_call 17; refine (is_err HE5.out.rp hc _).mono ?_; rintro E w9 ⟨rfl, hww⟩; replace hww := hww.symm; subst hww)
                | (go_at_call 11; refine (rfail_err HE5.out.rp hc _).mono ?_; rintro E w9 ⟨rfl, hww⟩; replace hww := hww.symm; subst hww))
              go_roundw
              case rel => exact .inr ⟨c, _, R, R', _, .inl rfl, HE5, Lib.hid ⟨rfl, HQ5.out⟩⟩
              case measure => rw [HM.out, HE5.out.rp.mesE hc]; omega
            · go_wp2_with (first
                | (go_at_call 17; refine (is_err HE5.out.rp hc _).mono ?_; rintro E w9 ⟨rfl, hww⟩; replace hww := hww.symm; subst hww)
                | (go_at_call 11; refine (rfail_err HE5.out.rp hc _).mono ?_; rintro E w9 ⟨rfl, hww⟩; replace hww := hww.symm; subst hww))
              go_roundw
              case rel => exact .inr ⟨c, _, R, R', _, .inr (.inl rfl), HE5, Lib.hid ⟨rfl, HQ5.out⟩⟩
              case measure => rw [HM.out, HE5.out.rp.mesE hc]; omega
            · go_wp2_with (first
                | (go_at_call 17; refine (is_err HE5.out.rp hc _).mono ?_; rintro E w9 ⟨rfl, hww⟩; replace hww := hww.symm; subst hww)
                | (go_at_call 11; refine (rfail_err HE5.out.rp hc _).mono ?_; rintro E w9 ⟨rfl, hww⟩; replace hww := hww.symm; subst hww))
              go_roundw
              case rel => exact .inr ⟨c, _, R, R', _, .inr (.inr rfl), HE5, Lib.hid ⟨rfl, HQ5.out⟩⟩
              case measure => rw [HM.out, HE5.out.rp.mesE hc]; omega
          | ok f R =>
            have hlen := pOne_len hP
            rw [hP] at HK
            obtain ⟨hv, pl5, hrp⟩ := HK.out
            have HL5 : Hid (RLs w0 w6 (w5.setCell ⟨b, 4, none⟩ (.slice ra (vs.length + 1) rc)) p m b d R e pl5 (acc ++ [f]) (.slice ra (vs.length + 1) rc) (vs ++ [x]) (fun g => S g ∨ S2 g)) := Lib.hid (HRL.out.more HSV5.out hrp hv HZ.out.2.2.1 HZ.out.1 HZ.out.2.1 HZ.out.2.2.2.1 hlen)
            have HM : Hid (mesR wr p = L'.length + 1) := Lib.hid HRL.out.rp.mes
            have HP := Lib.hid hP
            have HLEN := Lib.hid hlen
            obtain ⟨w8, hw8⟩ : ∃ w8, w8 = w5.setCell ⟨b, 4, none⟩ (.slice ra (vs.length + 1) rc) := ⟨_, rfl⟩
            rw [← hw8] at HL5 ⊢
            clear hw8 d4 d5 hv hrp HK HZ HSV5 hP hlen
            obtain ⟨n, rfl⟩ : ∃ n', n = n' + 1 := ⟨n - 1, by have := HQ.out.1; omega⟩
            rcases hwd with ⟨rfl, rfl⟩ | ⟨rfl, rfl⟩ | ⟨rfl, rfl⟩
            · go_wp2_with (first
                | (go_at_call 17; refine (is_any K11.out.2.2.1 _).mono ?_; rintro E w12 ⟨hb12, M12, rfl, h12⟩; have K12 := Lib.hid h12; clear h12)
                | (go_at_call 17; refine (is_any K10.out.2.2.1 _).mono ?_; rintro E w11 ⟨hb11, M11, rfl, h11⟩; have K11 := Lib.hid h11; clear h11)
                | (go_at_call 17; refine (is_any HL5.out.rp _).mono ?_; rintro E w10 ⟨hb10, M10, rfl, h10⟩; have K10 := Lib.hid h10; clear h10)
                | (go_at_call 11; refine (rfail_ok K12.out.2.2.1 _).mono ?_; rintro E w13 ⟨rfl, h13, h14⟩; have K13 := Lib.hid (And.intro h13 h14); clear h13 h14))
              · obtain rfl : hb10 = true := (by first | assumption | simp_all)
                have hcl := pl_close (wd := 0) (n := n) (acc := acc) HP.out K10.out.yes
                have hw := HL5.out.whole (by simp) (K10.out.2.2.2.mono fun q e => .inl e) K10.out.2.2.1 false (HL5.out.ts.sav K10.out.2.2.2 (fun e => HPB.out e.symm))
                go_ret
                exact ⟨_, rfl, by rw [HPL.out, ← HQ.out.2, hcl]; exact hw.1.mono (fun g hg _ => Nat.le_trans HS6.out.size hg), HS6.out.then hw.2⟩
              · obtain rfl : hb10 = false := (by first | assumption | simp_all)
                obtain rfl : hb11 = true := (by first | assumption | simp_all)
                obtain ⟨h10, rfl⟩ := K10.out.no
                have hy := K11.out.yes
                have hl := isT_len hy
                have hq := HQ.out.1
                have hr := HLEN.out
                have HN := Lib.hid (HL5.out.took (K10.out.2.2.2.then K11.out.2.2.2) K11.out.2.2.1 (by omega))
                have HEE : Hid (M11.length < n ∧ pList (pOne d) n M11 (acc ++ [f]) 1 = R0) := Lib.hid ⟨by omega, by rw [← HQ.out.2, pl_and (wd := 0) HP.out h10 hy]⟩
                have HMM : Hid (mesR w11 p < mesR wr p) := Lib.hid (by rw [HM.out, K11.out.2.2.1.mes]; omega)
                clear hy hl hq hr
                go_roundw
                case rel => exact .inl ⟨_, _, _, _, _, _, 1, n, .inr (.inl ⟨rfl, rfl⟩), HN, HEE⟩
                case measure => exact HMM.out
              · obtain rfl : hb10 = false := (by first | assumption | simp_all)
                obtain rfl : hb11 = false := (by first | assumption | simp_all)
                obtain rfl : hb12 = true := (by first | assumption | simp_all)
                obtain ⟨h10, rfl⟩ := K10.out.no
                obtain ⟨h11, rfl⟩ := K11.out.no
                have hy := K12.out.yes
                have hl := isT_len hy
                have hq := HQ.out.1
                have hr := HLEN.out
                have HN := Lib.hid (HL5.out.took ((K10.out.2.2.2.then K11.out.2.2.2).then K12.out.2.2.2) K12.out.2.2.1 (by omega))
                have HEE : Hid (M12.length < n ∧ pList (pOne d) n M12 (acc ++ [f]) 2 = R0) := Lib.hid ⟨by omega, by rw [← HQ.out.2, pl_or (wd := 0) HP.out h10 h11 hy]⟩
                have HMM : Hid (mesR w12 p < mesR wr p) := Lib.hid (by rw [HM.out, K12.out.2.2.1.mes]; omega)
                clear hy hl hq hr
                go_roundw
                case rel => exact .inl ⟨_, _, _, _, _, _, 2, n, .inr (.inr ⟨rfl, rfl⟩), HN, HEE⟩
                case measure => exact HMM.out
              · obtain rfl : hb10 = false := (by first | assumption | simp_all)
                obtain rfl : hb11 = false := (by first | assumption | simp_all)
                obtain rfl : hb12 = false := (by first | assumption | simp_all)
                obtain ⟨h10, rfl⟩ := K10.out.no
                obtain ⟨h11, rfl⟩ := K11.out.no
                obtain ⟨h12, rfl⟩ := K12.out.no
                have HRE : Hid (RErr w0 w6 w13 p m b M12 e 3 (placeOf e M12) (.slice ra (vs.length + 1) rc)) := Lib.hid ⟨K13.out.1, by decide, HL5.out.ts.sav (((K10.out.2.2.2.then K11.out.2.2.2).then K12.out.2.2.2).then K13.out.2) (fun e => HPB.out e.symm), HL5.out.tm, HL5.out.tw, HL5.out.sv.then (((K10.out.2.2.2.then K11.out.2.2.2).then K12.out.2.2.2).then K13.out.2)⟩
                have HEE : Hid (R0 = .err 3 M12) := Lib.hid (by rw [← HQ.out.2, pl_bad (wd := 0) HP.out h10 h11 h12])
                have HMM : Hid (mesR w13 p < mesR wr p) := Lib.hid (by rw [HM.out, HRE.out.rp.mesE (by decide)]; omega)
                go_roundw
                case rel => exact .inr ⟨3, _, M12, M12, _, .inl rfl, HRE, Lib.hid ⟨rfl, HEE.out⟩⟩
                case measure => exact HMM.out
            · go_wp2_with (first
                | (go_at_call 17; refine (is_any K10.out.2.2.1 _).mono ?_; rintro E w11 ⟨hb11, M11, rfl, h11⟩; have K11 := Lib.hid h11; clear h11)
                | (go_at_call 17; refine (is_any HL5.out.rp _).mono ?_; rintro E w10 ⟨hb10, M10, rfl, h10⟩; have K10 := Lib.hid h10; clear h10)
                | (go_at_call 11; refine (rfail_ok K11.out.2.2.1 _).mono ?_; rintro E w13 ⟨rfl, h13, h14⟩; have K13 := Lib.hid (And.intro h13 h14); clear h13 h14))
              · obtain rfl : hb10 = true := (by first | assumption | simp_all)
                have hcl := pl_close (wd := 1) (n := n) (acc := acc) HP.out K10.out.yes
                have hw := HL5.out.whole (by simp) (K10.out.2.2.2.mono fun q e => .inl e) K10.out.2.2.1 false (HL5.out.ts.sav K10.out.2.2.2 (fun e => HPB.out e.symm))
                go_ret
                exact ⟨_, rfl, by rw [HPL.out, ← HQ.out.2, hcl]; exact hw.1.mono (fun g hg _ => Nat.le_trans HS6.out.size hg), HS6.out.then hw.2⟩
              · obtain rfl : hb10 = false := (by first | assumption | simp_all)
                obtain rfl : hb11 = true := (by first | assumption | simp_all)
                obtain ⟨h10, rfl⟩ := K10.out.no
                have hy := K11.out.yes
                have hl := isT_len hy
                have hq := HQ.out.1
                have hr := HLEN.out
                have HN := Lib.hid (HL5.out.took (K10.out.2.2.2.then K11.out.2.2.2) K11.out.2.2.1 (by omega))
                have HEE : Hid (M11.length < n ∧ pList (pOne d) n M11 (acc ++ [f]) 1 = R0) := Lib.hid ⟨by omega, by rw [← HQ.out.2, pl_and (wd := 1) HP.out h10 hy]⟩
                have HMM : Hid (mesR w11 p < mesR wr p) := Lib.hid (by rw [HM.out, K11.out.2.2.1.mes]; omega)
                clear hy hl hq hr
                go_roundw
                case rel => exact .inl ⟨_, _, _, _, _, _, 1, n, .inr (.inl ⟨rfl, rfl⟩), HN, HEE⟩
                case measure => exact HMM.out
              · obtain rfl : hb10 = false := (by first | assumption | simp_all)
                obtain rfl : hb11 = false := (by first | assumption | simp_all)
                obtain ⟨h10, rfl⟩ := K10.out.no
                obtain ⟨h11, rfl⟩ := K11.out.no
                have HRE : Hid (RErr w0 w6 w13 p m b M11 e 3 (placeOf e M11) (.slice ra (vs.length + 1) rc)) := Lib.hid ⟨K13.out.1, by decide, HL5.out.ts.sav ((K10.out.2.2.2.then K11.out.2.2.2).then K13.out.2) (fun e => HPB.out e.symm), HL5.out.tm, HL5.out.tw, HL5.out.sv.then ((K10.out.2.2.2.then K11.out.2.2.2).then K13.out.2)⟩
                have HEE : Hid (R0 = .err 3 M11) := Lib.hid (by rw [← HQ.out.2, pl_bad (wd := 1) HP.out h10 h11 rfl])
                have HMM : Hid (mesR w13 p < mesR wr p) := Lib.hid (by rw [HM.out, HRE.out.rp.mesE (by decide)]; omega)
                go_roundw
                case rel => exact .inr ⟨3, _, M11, M11, _, .inr (.inl rfl), HRE, Lib.hid ⟨rfl, HEE.out⟩⟩
                case measure => exact HMM.out
            · go_wp2_with (first
                | (go_at_call 17; refine (is_any K10.out.2.2.1 _).mono ?_; rintro E w11 ⟨hb11, M11, rfl, h11⟩; have K11 := Lib.hid h11; clear h11)
                | (go_at_call 17; refine (is_any HL5.out.rp _).mono ?_; rintro E w10 ⟨hb10, M10, rfl, h10⟩; have K10 := Lib.hid h10; clear h10; have hy := HL5.out.ts.sav K10.out.2.2.2 (fun e => HPB.out e.symm); have y0 := hy.c0; have y1 := hy.fz 0; have HY := Lib.hid hy; clear hy)
                | (go_at_call 11; refine (rfail_ok K11.out.2.2.1 _).mono ?_; rintro E w13 ⟨rfl, h13, h14⟩; have K13 := Lib.hid (And.intro h13 h14); clear h13 h14))
              · obtain rfl : hb10 = true := (by first | assumption | simp_all)
                have hcl := pl_close (wd := 2) (n := n) (acc := acc) HP.out K10.out.yes
                have hw := HL5.out.whole (w' := w10.setCell ⟨b, 0, none⟩ (.string ⟨#[111, 114]⟩)) (by simp) ((K10.out.2.2.2.mono fun q e => .inl e).then ((Sav.set b 0 _).mono fun q e => .inr e)) (K10.out.2.2.1.old (fun q hq => Below.heap_setCell _ _ _ _ (fun e => by have := HL5.out.tm; simp only at e; omega)) (by simp) (K10.out.2.2.1.gr.setCell (by have := HL5.out.tm; have := HL5.out.rp.rm; have := HL5.out.rp.fr; simp only; omega) _)) true (HY.out.s0 _)
                go_ret
                exact ⟨_, rfl, by rw [HPL.out, ← HQ.out.2, hcl]; exact hw.1.mono (fun g hg _ => Nat.le_trans HS6.out.size hg), HS6.out.then hw.2⟩
              · obtain rfl : hb10 = false := (by first | assumption | simp_all)
                obtain rfl : hb11 = true := (by first | assumption | simp_all)
                obtain ⟨h10, rfl⟩ := K10.out.no
                have hy := K11.out.yes
                have hl := isT_len hy
                have hq := HQ.out.1
                have hr := HLEN.out
                have HN := Lib.hid (HL5.out.took (K10.out.2.2.2.then K11.out.2.2.2) K11.out.2.2.1 (by omega))
                have HEE : Hid (M11.length < n ∧ pList (pOne d) n M11 (acc ++ [f]) 2 = R0) := Lib.hid ⟨by omega, by rw [← HQ.out.2, pl_or (wd := 2) HP.out h10 rfl hy]⟩
                have HMM : Hid (mesR w11 p < mesR wr p) := Lib.hid (by rw [HM.out, K11.out.2.2.1.mes]; omega)
                clear hy hl hq hr
                go_roundw
                case rel => exact .inl ⟨_, _, _, _, _, _, 2, n, .inr (.inr ⟨rfl, rfl⟩), HN, HEE⟩
                case measure => exact HMM.out
              · obtain rfl : hb10 = false := (by first | assumption | simp_all)
                obtain rfl : hb11 = false := (by first | assumption | simp_all)
                obtain ⟨h10, rfl⟩ := K10.out.no
                obtain ⟨h11, rfl⟩ := K11.out.no
                have HRE : Hid (RErr w0 w6 w13 p m b M11 e 3 (placeOf e M11) (.slice ra (vs.length + 1) rc)) := Lib.hid ⟨K13.out.1, by decide, HL5.out.ts.sav ((K10.out.2.2.2.then K11.out.2.2.2).then K13.out.2) (fun e => HPB.out e.symm), HL5.out.tm, HL5.out.tw, HL5.out.sv.then ((K10.out.2.2.2.then K11.out.2.2.2).then K13.out.2)⟩
                have HEE : Hid (R0 = .err 3 M11) := Lib.hid (by rw [← HQ.out.2, pl_bad (wd := 2) HP.out h10 rfl h11])
                have HMM : Hid (mesR w13 p < mesR wr p) := Lib.hid (by rw [HM.out, HRE.out.rp.mesE (by decide)]; omega)
                go_roundw
                case rel => exact .inr ⟨3, _, M11, M11, _, .inr (.inr rfl), HRE, Lib.hid ⟨rfl, HEE.out⟩⟩
                case measure => exact HMM.out
      · have g2' := HRE.out.rp.c2
        have hc := HRE.out.ne
        have y0 := HRE.out.ts.c0
        have y1 := HRE.out.ts.fz 0
        rcases hs with rfl | rfl | rfl
        · go_wp2
          go_ret
          exact ⟨_, rfl, by rw [HPL.out, HQ.out.2]; exact ⟨⟨_, rfl⟩, hc, L', by rw [← HQ.out.1]; exact HRE.out.rp⟩, HS6.out.then HRE.out.sv⟩
        · go_wp2
          go_ret
          exact ⟨_, rfl, by rw [HPL.out, HQ.out.2]; exact ⟨⟨_, rfl⟩, hc, L', by rw [← HQ.out.1]; exact HRE.out.rp⟩, HS6.out.then HRE.out.sv⟩
        · have hfb : w0.heap.size ≤ b := by have := HRE.out.tm; have := HRE.out.rp.rm; have := HRE.out.rp.fr; omega
          go_wp2
          go_ret
          exact ⟨_, rfl, by rw [HPL.out, HQ.out.2]; exact ⟨⟨_, rfl⟩, hc, L', by rw [← HQ.out.1]; exact HRE.out.rp.old (fun q hq => Below.heap_setCell _ _ _ _ (fun e => by have := HRE.out.tm; simp only at e; omega)) (by simp) (HRE.out.rp.gr.setCell hfb _)⟩, HS6.out.then (HRE.out.sv.trans (Sav.set b 0 _) (fun q hq => .inr (by rw [hq]; exact HRE.out.tw)))⟩
  · obtain rfl : hb4 = false := (by first | assumption | simp_all)
    obtain rfl : hb5 = false := (by first | assumption | simp_all)
    obtain rfl : hb6 = false := (by first | assumption | simp_all)
    obtain ⟨h4, rfl⟩ := H4.out.no
    obtain ⟨h5, rfl⟩ := H5.out.no
    obtain ⟨h6, rfl⟩ := H6.out.no
    have HP0 := Lib.hid (po_fld (d := d) h4 h5 h6)
    have HR0 := Lib.hid H6.out.2.2.1
    have HS0 := Lib.hid ((H4.out.2.2.2.then H5.out.2.2.2).then H6.out.2.2.2)
    clear h4 h5 h6 H4 H5 H6 hf0
    go_loopw [84] (fun s wr => ∃ i : Nat, i ≤ 5 ∧ s = .int .i64 (i : Int) ∧ Hid (RP w0 wr p m L6 e 0 pl) ∧ Hid (Sav (fun q => q = p) w wr) ∧ Hid (pFld 5 L6 = pFld (5 - i) L6)) (fun s _ => 5 - (intOf s).toNat)
    case atStart => exact ⟨0, by omega, rfl, HR0, HS0, Lib.hid rfl⟩
    case round =>
      clear HR0 HS0
      obtain ⟨i, hi, rfl, HR1, HS1, HF⟩ := hrel
      have i0 : (0 : Int) ≤ (i : Int) := by omega
      by_cases hlt : i < 5
      · have i1 : (i : Int) < 5 := by omega
        have hfi := HR1.out.gr.cell (HFD.out i hlt)
        go_wp2_with (go_at_call 17; refine (is_any HR1.out (fname i)).mono ?_; rintro E w7 ⟨hb7, L7, rfl, h7⟩; have H7 := Lib.hid h7; clear h7; refine Hid.out ?_)
        refine Lib.hid ?_
        cases hb7 with
        | false =>
          obtain ⟨h7, rfl⟩ := H7.out.no
          have HF2 : Hid (pFld 5 L7 = pFld (5 - (i + 1)) L7) := Lib.hid (by rw [HF.out, pf_miss' hlt h7])
          have HS2 := Lib.hid (HS1.out.then H7.out.2.2.2)
          clear h7
          go_wp2
          go_roundw
          case rel => exact ⟨i + 1, by omega, by go_num, H7.out.2.2.1, HS2, HF2⟩
          case measure => simp [intOf]; omega
        | true =>
          have HPT : Hid (pOne (d + 1) L6 = pTest i L7) := Lib.hid (by rw [HP0.out, HF.out, pf_hit' hlt H7.out.yes])
          have HSW := Lib.hid (HS1.out.then H7.out.2.2.2)
          have HR7 := Lib.hid H7.out.2.2.1
          have HLT := Lib.hid hlt
          clear hfi H7 HF HR1 HS1
          go_wp2_with (go_at_call 17; refine (is_any (HR7.out.gr' ((Gr.refl w7).alloc _)) _).mono ?_; rintro E w8 ⟨hb8, L8, rfl, h8⟩; have H8 := Lib.hid h8; clear h8; refine Hid.out ?_)
          refine Lib.hid ?_
          obtain ⟨b, hb⟩ : ∃ b, b = w7.heap.size := ⟨_, rfl⟩
          rw [← hb]
          have HT8 : Hid (RT w0 w7 w8 p m b i L8 e 0 pl kTest 0 0) := Lib.hid (by
            have g : Gr w7 (w7.alloc (.cells #[.string kTest, .int .i64 (i : Int), .int .i64 0, .int .i64 0, .slice none 0 0] 56)) := (Gr.refl w7).alloc _
            have t0 : RT w0 w7 (w7.alloc (.cells #[.string kTest, .int .i64 (i : Int), .int .i64 0, .int .i64 0, .slice none 0 0] 56)) p m b i L7 e 0 pl kTest 0 0 := ⟨HR7.out.gr' g, by rw [hb]; exact RB.new _ _ _ _ _ _, Sav.of_gr g, by rw [hb]; exact Nat.le_refl _, by rw [hb]; exact HR7.out.ms⟩
            exact t0.call H8.out.2.2.2 H8.out.2.2.1)
          have HPH : Hid (pOne (d + 1) L6 = pHeld i hb8 L8) := Lib.hid (by
            rw [HPT.out]
            unfold pTest
            rw [show kHas = ⟨#[104, 97, 115]⟩ from rfl, H8.out.1]
            cases hb8 with
            | true => rfl
            | false => have := H8.out.2.1 rfl; subst this; rfl)
          clear hb H8 HPT
          cases hb8 with
          | true =>
            have y0 := HT8.out.ts.c0
            have y1 := HT8.out.ts.fz 0
            go_upto_region 31 with fail
            obtain ⟨w9, hw9⟩ : ∃ w9, w9 = w8.setCell ⟨b, 0, none⟩ (.string ⟨#[104, 97, 115]⟩) := ⟨_, rfl⟩
            have HT9 : Hid (RT w0 w7 w9 p m b i L8 e 0 pl kHas 0 0) := Lib.hid (by rw [hw9]; exact HT8.out.s0 _)
            rw [← hw9]
            clear hw9 y0 y1 HT8
            cases L8 with
            | nil =>
              obtain ⟨a8, k8, g8, _⟩ := HT9.out.rp.ls
              simp only [List.length_nil] at g8
              go_wp2_with (go_at_call 11; refine (rfail_ok HT9.out.rp _).mono ?_; rintro E w10 ⟨rfl, h1, h2⟩; have H10 := Lib.hid (And.intro h1 h2); clear h1 h2)
              go_ret
              exact RAns.from HSW.out (by rw [HPH.out]; exact (HT9.out.call H10.out.2 H10.out.1).bad (L' := []) (by decide) _)
            | cons x L9 =>
              obtain ⟨u, up⟩ := x
              obtain ⟨tb, tq, kc, g0, g1, _, htb, hk1, hk2, _⟩ := HT9.out.rp.cut1
              have hnl := HT9.out.rp.hl
              have HU : Hid (u.size ≤ 2001) := Lib.hid (HT9.out.rp.sz (u, up) (by simp))
              have hbp := HT9.out.ne
              have hpb : p ≠ b := fun e => hbp e.symm
              have htb2 : tb ≠ b := by
                obtain ⟨a8, k8, g8, _, _, hA8⟩ := HT9.out.rp.ls
                rw [g0] at g8
                obtain ⟨tb', tq', e8, _, hlm, _⟩ := hA8 (by simp)
                injection g8 with g8
                injection g8 with g9 _ _
                rw [e8] at g9
                injection g9 with g9
                injection g9 with g9 _
                have := HT9.out.mb
                omega
              simp only [List.length_cons] at hnl
              simp only at g1
              obtain ⟨n9, hn9⟩ : ∃ n9, n9 = L9.length := ⟨_, rfl⟩
              rw [← hn9] at g0 hnl hk1
              have n90 : (0 : Int) ≤ (n9 : Int) := by omega
              have n91 : (n9 : Int) ≤ 2000 := by omega
              have HN9 := Lib.hid hn9
              clear hn9
              have hge := Lib.index_ge u.data.toList kDots.data.toList
              by_cases hix : Lib.index u.data.toList kDots.data.toList < 0
              · have HIX : Hid (Lib.index u.data.toList kDots.data.toList = -1) := Lib.hid (by omega)
                have HCN := Lib.hid (cut_none hix)
                have HSA := HU
                clear hix hge
                by_cases hcA : codeOf u = 0
                · have HVA := Lib.hid (numOf_in hcA)
                  have HC := Lib.hid hcA
                  have HPE : Hid (pHeld i true ((u, up) :: L9) = .ok (.has i (numOf u)) L9) := Lib.hid (by rw [pHeld_cons, HCN.out.1, HCN.out.2, if_neg (by simp), if_neg (by simp [hcA]), if_neg (by simp)]; rfl)
                  go_wp2_with (first
                    | (go_at_call 18; refine (index_g u HU.out _ (HEN.out.gr HT9.out.rp.gr)).mono ?_; rintro E w10 ⟨rfl, hww⟩; replace hww := hww.symm; subst hww; rw [HIX.out])
                    | (go_at_call 19; refine (field_ok HEN.out HT9.out.rp _ HSA.out).mono ?_; rintro E w11 ⟨rfl, h1, h2⟩; have HT11 := Lib.hid (HT9.out.call h2 h1); clear h1 h2; have z2 := HT11.out.ts.c2; have z3 := HT11.out.ts.c3; have zf2 := HT11.out.ts.fz 2; have zf3 := HT11.out.ts.fz 3; have z0 := HT11.out.ts.c0; have q2 := HT11.out.rp.c2; obtain ⟨tb1, to1, kc1, q0, _, _, _, hk3, hk4, _⟩ := HT11.out.rp.cut1; have qf := HT11.out.rp.fz 0; rw [← HN9.out] at q0 hk3; rw [HC.out] at q2))
                  all_goals (go_ret; exact RAns.from HSW.out (by rw [HPH.out, HPE.out]; exact (RT.gone ((by have := (HT11.out.s2 (numOf u)).s3 (numOf u); rw [HC.out, plOf_at] at this; exact this) : RT _ _ _ _ _ _ _ _ _ 0 pl kHas _ _) (by rw [World.cell?_setCell_other _ _ _ _ (by simp), World.cell?_setCell_other _ _ _ _ (by simp), ← HN9.out]; exact q0) (by rw [← HN9.out]; simp_all)).has HLT.out HVA.out d))
                · have HC := Lib.hid hcA
                  have HPE : Hid (pHeld i true ((u, up) :: L9) = .err (codeOf u) ((u, up) :: L9)) := Lib.hid (by rw [pHeld_cons, HCN.out.1, HCN.out.2, if_neg (by simp), if_pos hcA])
                  go_wp2_with (first
                    | (go_at_call 18; refine (index_g u HU.out _ (HEN.out.gr HT9.out.rp.gr)).mono ?_; rintro E w10 ⟨rfl, hww⟩; replace hww := hww.symm; subst hww; rw [HIX.out])
                    | (go_at_call 19; refine (field_ok HEN.out HT9.out.rp _ HSA.out).mono ?_; rintro E w11 ⟨rfl, h1, h2⟩; have HT11 := Lib.hid (HT9.out.call h2 h1); clear h1 h2; have z2 := HT11.out.ts.c2; have z3 := HT11.out.ts.c3; have zf2 := HT11.out.ts.fz 2; have zf3 := HT11.out.ts.fz 3; have z0 := HT11.out.ts.c0; have q2 := HT11.out.rp.c2; obtain ⟨tb1, to1, kc1, q0, _, _, _, hk3, hk4, _⟩ := HT11.out.rp.cut1; have qf := HT11.out.rp.fz 0; rw [← HN9.out] at q0 hk3))
                  go_ret
                  exact RAns.from HSW.out (by rw [HPH.out, HPE.out]; exact ((by have := (HT11.out.s2 (numOf u)).s3 (numOf u); rw [plOf_no HC.out] at this; exact this) : RT _ _ _ _ _ _ _ _ _ _ (placeOf e ((u, up) :: L9)) _ _ _).bad HC.out _)
              · obtain ⟨j, hj⟩ : ∃ j : Nat, Lib.index u.data.toList kDots.data.toList = (j : Int) := ⟨(Lib.index u.data.toList kDots.data.toList).toNat, by omega⟩
                have HIX := Lib.hid hj
                obtain ⟨ct, ca, cb, hjs⟩ := cut_some hj
                have HCT := Lib.hid (And.intro ct (And.intro ca cb))
                have j0 : (0 : Int) ≤ (j : Int) := by omega
                have j1 : (j : Int) + 2 ≤ (u.size : Int) := by omega
                have j2 : (u.size : Int) ≤ 2001 := by have := HU.out; omega
                clear hix hge hj ct ca cb hjs
                have y0 : w9.cell? ⟨b, 0, none⟩ = some (.string ⟨#[104, 97, 115]⟩) := HT9.out.ts.c0
                have HPE : Hid (pHeld i true ((u, up) :: L9) = .err 3 ((u, up) :: L9)) := Lib.hid (by rw [pHeld_cons, HCT.out.1, if_pos (by simp)])
                go_wp2_with (first
                  | (go_at_call 18; refine (index_g u HU.out _ (HEN.out.gr HT9.out.rp.gr)).mono ?_; rintro E w10 ⟨rfl, hww⟩; replace hww := hww.symm; subst hww; rw [HIX.out])
                  | (go_at_call 11; refine (rfail_ok HT9.out.rp _).mono ?_; rintro E w12 ⟨rfl, h1, h2⟩; have HT12 := Lib.hid (HT9.out.call h2 h1); clear h1 h2; have q2 := HT12.out.rp.c2))
                go_ret
                exact RAns.from HSW.out (by rw [HPH.out, HPE.out]; exact HT12.out.bad (by decide) _)
          | false =>
            have HT9 := HT8
            obtain ⟨w9, hw9⟩ : ∃ w9, w9 = w8 := ⟨_, rfl⟩
            subst hw9
            clear HT8
            cases L8 with
            | nil =>
              obtain ⟨a8, k8, g8, _⟩ := HT9.out.rp.ls
              simp only [List.length_nil] at g8
              go_wp2_with (go_at_call 11; refine (rfail_ok HT9.out.rp _).mono ?_; rintro E w10 ⟨rfl, h1, h2⟩; have H10 := Lib.hid (And.intro h1 h2); clear h1 h2)
              go_ret
              exact RAns.from HSW.out (by rw [HPH.out]; exact (HT9.out.call H10.out.2 H10.out.1).bad (L' := []) (by decide) _)
            | cons x L9 =>
              obtain ⟨u, up⟩ := x
              obtain ⟨tb, tq, kc, g0, g1, _, htb, hk1, hk2, _⟩ := HT9.out.rp.cut1
              have hnl := HT9.out.rp.hl
              have HU : Hid (u.size ≤ 2001) := Lib.hid (HT9.out.rp.sz (u, up) (by simp))
              have hbp := HT9.out.ne
              have hpb : p ≠ b := fun e => hbp e.symm
              have htb2 : tb ≠ b := by
                obtain ⟨a8, k8, g8, _, _, hA8⟩ := HT9.out.rp.ls
                rw [g0] at g8
                obtain ⟨tb', tq', e8, _, hlm, _⟩ := hA8 (by simp)
                injection g8 with g8
                injection g8 with g9 _ _
                rw [e8] at g9
                injection g9 with g9
                injection g9 with g9 _
                have := HT9.out.mb
                omega
              simp only [List.length_cons] at hnl
              simp only at g1
              obtain ⟨n9, hn9⟩ : ∃ n9, n9 = L9.length := ⟨_, rfl⟩
              rw [← hn9] at g0 hnl hk1
              have n90 : (0 : Int) ≤ (n9 : Int) := by omega
              have n91 : (n9 : Int) ≤ 2000 := by omega
              have HN9 := Lib.hid hn9
              clear hn9
              have hge := Lib.index_ge u.data.toList kDots.data.toList
              by_cases hix : Lib.index u.data.toList kDots.data.toList < 0
              · have HIX : Hid (Lib.index u.data.toList kDots.data.toList = -1) := Lib.hid (by omega)
                have HCN := Lib.hid (cut_none hix)
                have HSA := HU
                clear hix hge
                by_cases hcA : codeOf u = 0
                · have HVA := Lib.hid (numOf_in hcA)
                  have HC := Lib.hid hcA
                  have HPE : Hid (pHeld i false ((u, up) :: L9) = .ok (.test i (numOf u) (numOf u)) L9) := Lib.hid (by rw [pHeld_cons, HCN.out.1, HCN.out.2, if_neg (by simp), if_neg (by simp [hcA]), if_neg (by simp)]; rfl)
                  go_wp2_with (first
                    | (go_at_call 18; refine (index_g u HU.out _ (HEN.out.gr HT9.out.rp.gr)).mono ?_; rintro E w10 ⟨rfl, hww⟩; replace hww := hww.symm; subst hww; rw [HIX.out])
                    | (go_at_call 19; refine (field_ok HEN.out HT9.out.rp _ HSA.out).mono ?_; rintro E w11 ⟨rfl, h1, h2⟩; have HT11 := Lib.hid (HT9.out.call h2 h1); clear h1 h2; have z2 := HT11.out.ts.c2; have z3 := HT11.out.ts.c3; have zf2 := HT11.out.ts.fz 2; have zf3 := HT11.out.ts.fz 3; have z0 := HT11.out.ts.c0; have q2 := HT11.out.rp.c2; obtain ⟨tb1, to1, kc1, q0, _, _, _, hk3, hk4, _⟩ := HT11.out.rp.cut1; have qf := HT11.out.rp.fz 0; rw [← HN9.out] at q0 hk3; rw [HC.out] at q2))
                  all_goals (go_ret; exact RAns.from HSW.out (by rw [HPH.out, HPE.out]; exact (RT.gone ((by have := (HT11.out.s2 (numOf u)).s3 (numOf u); rw [HC.out, plOf_at] at this; exact this) : RT _ _ _ _ _ _ _ _ _ 0 pl kTest _ _) (by rw [World.cell?_setCell_other _ _ _ _ (by simp), World.cell?_setCell_other _ _ _ _ (by simp), ← HN9.out]; exact q0) (by rw [← HN9.out]; simp_all)).test HLT.out HVA.out HVA.out d))
                · have HC := Lib.hid hcA
                  have HPE : Hid (pHeld i false ((u, up) :: L9) = .err (codeOf u) ((u, up) :: L9)) := Lib.hid (by rw [pHeld_cons, HCN.out.1, HCN.out.2, if_neg (by simp), if_pos hcA])
                  go_wp2_with (first
                    | (go_at_call 18; refine (index_g u HU.out _ (HEN.out.gr HT9.out.rp.gr)).mono ?_; rintro E w10 ⟨rfl, hww⟩; replace hww := hww.symm; subst hww; rw [HIX.out])
                    | (go_at_call 19; refine (field_ok HEN.out HT9.out.rp _ HSA.out).mono ?_; rintro E w11 ⟨rfl, h1, h2⟩; have HT11 := Lib.hid (HT9.out.call h2 h1); clear h1 h2; have z2 := HT11.out.ts.c2; have z3 := HT11.out.ts.c3; have zf2 := HT11.out.ts.fz 2; have zf3 := HT11.out.ts.fz 3; have z0 := HT11.out.ts.c0; have q2 := HT11.out.rp.c2; obtain ⟨tb1, to1, kc1, q0, _, _, _, hk3, hk4, _⟩ := HT11.out.rp.cut1; have qf := HT11.out.rp.fz 0; rw [← HN9.out] at q0 hk3))
                  go_ret
                  exact RAns.from HSW.out (by rw [HPH.out, HPE.out]; exact ((by have := (HT11.out.s2 (numOf u)).s3 (numOf u); rw [plOf_no HC.out] at this; exact this) : RT _ _ _ _ _ _ _ _ _ _ (placeOf e ((u, up) :: L9)) _ _ _).bad HC.out _)
              · obtain ⟨j, hj⟩ : ∃ j : Nat, Lib.index u.data.toList kDots.data.toList = (j : Int) := ⟨(Lib.index u.data.toList kDots.data.toList).toNat, by omega⟩
                have HIX := Lib.hid hj
                obtain ⟨ct, ca, cb, hjs⟩ := cut_some hj
                have HCT := Lib.hid (And.intro ct (And.intro ca cb))
                have j0 : (0 : Int) ≤ (j : Int) := by omega
                have j1 : (j : Int) + 2 ≤ (u.size : Int) := by omega
                have j2 : (u.size : Int) ≤ 2001 := by have := HU.out; omega
                clear hix hge hj ct ca cb hjs
                have y0 : w9.cell? ⟨b, 0, none⟩ = some (.string ⟨#[116, 101, 115, 116]⟩) := HT9.out.ts.c0
                obtain ⟨qa, hqa⟩ : ∃ qa, qa = u.extract 0 j := ⟨_, rfl⟩
                obtain ⟨qb, hqb⟩ : ∃ qb, qb = u.extract (j + 2) u.size := ⟨_, rfl⟩
                have HQA := Lib.hid hqa
                have HQB := Lib.hid hqb
                have HSA : Hid ((u.extract 0 j).size ≤ 2001) := Lib.hid (Nat.le_trans (extract_le _ _ _) HU.out)
                have HSB : Hid ((u.extract (j + 2) u.size).size ≤ 2001) := Lib.hid (Nat.le_trans (extract_le _ _ _) HU.out)
                clear hqa hqb
                by_cases hcA : codeOf (u.extract 0 j) = 0
                · have HCA := Lib.hid hcA
                  have HVA := Lib.hid (numOf_in hcA)
                  by_cases hcB : codeOf (u.extract (j + 2) u.size) = 0
                  · have HVB := Lib.hid (numOf_in hcB)
                    have HCB := Lib.hid hcB
                    by_cases hlt9 : (numOf (u.extract (j + 2) u.size)) < (numOf (u.extract 0 j))
                    · have HPE : Hid (pHeld i false ((u, up) :: L9) = .err 10 ((u, up) :: L9)) := Lib.hid (by rw [pHeld_cons, HCT.out.1, HCT.out.2.1, HCT.out.2.2, if_neg (by simp), if_neg (by simp [hcA]), if_pos rfl, if_neg (by simp [hcB]), if_pos hlt9])
                      go_wp2_with (first
                        | (go_at_call 18; refine (index_g u HU.out _ (HEN.out.gr HT9.out.rp.gr)).mono ?_; rintro E w10 ⟨rfl, hww⟩; replace hww := hww.symm; subst hww; rw [HIX.out])
                        | (go_at_call 19; have _ := tokA; refine (field_ok HEN.out (by have := (HT11.out.s2 (numOf (u.extract 0 j))).rp; rw [HCA.out, plOf_at] at this; exact this) _ HSB.out).mono ?_; rintro E w13 ⟨rfl, h1, h2⟩; have HT13 := Lib.hid ((HT11.out.s2 (numOf (u.extract 0 j))).call h2 h1); clear h1 h2; clear z2 z3 zf2 zf3 q2 q0 hk3 hk4 qf; have z2 := HT13.out.ts.c2; have z3 := HT13.out.ts.c3; have zf2 := HT13.out.ts.fz 2; have zf3 := HT13.out.ts.fz 3; have q2 := HT13.out.rp.c2; obtain ⟨tb1, tq1, kc1, q0, _, _, _, hk3, hk4, _⟩ := HT13.out.rp.cut1; have qf := HT13.out.rp.fz 0; rw [← HN9.out] at q0 hk3; rw [HCB.out] at q2)
                        | (go_at_call 19; refine (field_ok HEN.out HT9.out.rp _ HSA.out).mono ?_; rintro E w11 ⟨rfl, h1, h2⟩; have HT11 := Lib.hid (HT9.out.call h2 h1); clear h1 h2; have z2 := HT11.out.ts.c2; have z3 := HT11.out.ts.c3; have zf2 := HT11.out.ts.fz 2; have zf3 := HT11.out.ts.fz 3; have z0 := HT11.out.ts.c0; have q2 := HT11.out.rp.c2; obtain ⟨tb1, to1, kc1, q0, _, _, _, hk3, hk4, _⟩ := HT11.out.rp.cut1; have qf := HT11.out.rp.fz 0; rw [← HN9.out] at q0 hk3; clear HSA; have tokA := trivial))
                      go_quiet (fail)
                      have HE : Hid (RT w0 w7 ((w13.setCell ⟨b, 3, none⟩ (.int .i64 (numOf (u.extract (j + 2) u.size)))).drewN nq) p m b i ((u, up) :: L9) e 0 pl kTest (numOf (u.extract 0 j)) (numOf (u.extract (j + 2) u.size))) := Lib.hid (by have h9 := (HT13.out.s3 (numOf (u.extract (j + 2) u.size))).gr ((Gr.refl (w13.setCell ⟨b, 3, none⟩ (.int .i64 (numOf (u.extract (j + 2) u.size))))).drewN nq); rw [HCB.out, plOf_at] at h9; exact h9)
                      go_wp2_with (first
                        | (go_at_call 11; refine (rfail_ok HE.out.rp _).mono ?_; rintro E w15 ⟨rfl, h1, h2⟩; have HT15 := Lib.hid (HE.out.call h2 h1); have q3 := h1.c2; clear h1 h2))
                      all_goals (try (exfalso; omega))
                      go_ret
                      exact RAns.from HSW.out (by rw [HPH.out, HPE.out]; exact HT15.out.bad (by decide) _)
                    · have HPE : Hid (pHeld i false ((u, up) :: L9) = .ok (.test i (numOf (u.extract 0 j)) (numOf (u.extract (j + 2) u.size))) L9) := Lib.hid (by rw [pHeld_cons, HCT.out.1, HCT.out.2.1, HCT.out.2.2, if_neg (by simp), if_neg (by simp [hcA]), if_pos rfl, if_neg (by simp [hcB]), if_neg hlt9])
                      go_wp2_with (first
                        | (go_at_call 18; refine (index_g u HU.out _ (HEN.out.gr HT9.out.rp.gr)).mono ?_; rintro E w10 ⟨rfl, hww⟩; replace hww := hww.symm; subst hww; rw [HIX.out])
                        | (go_at_call 19; have _ := tokA; refine (field_ok HEN.out (by have := (HT11.out.s2 (numOf (u.extract 0 j))).rp; rw [HCA.out, plOf_at] at this; exact this) _ HSB.out).mono ?_; rintro E w13 ⟨rfl, h1, h2⟩; have HT13 := Lib.hid ((HT11.out.s2 (numOf (u.extract 0 j))).call h2 h1); clear h1 h2; clear z2 z3 zf2 zf3 q2 q0 hk3 hk4 qf; have z2 := HT13.out.ts.c2; have z3 := HT13.out.ts.c3; have zf2 := HT13.out.ts.fz 2; have zf3 := HT13.out.ts.fz 3; have q2 := HT13.out.rp.c2; obtain ⟨tb1, tq1, kc1, q0, _, _, _, hk3, hk4, _⟩ := HT13.out.rp.cut1; have qf := HT13.out.rp.fz 0; rw [← HN9.out] at q0 hk3; rw [HCB.out] at q2)
                        | (go_at_call 19; refine (field_ok HEN.out HT9.out.rp _ HSA.out).mono ?_; rintro E w11 ⟨rfl, h1, h2⟩; have HT11 := Lib.hid (HT9.out.call h2 h1); clear h1 h2; have z2 := HT11.out.ts.c2; have z3 := HT11.out.ts.c3; have zf2 := HT11.out.ts.fz 2; have zf3 := HT11.out.ts.fz 3; have z0 := HT11.out.ts.c0; have q2 := HT11.out.rp.c2; obtain ⟨tb1, to1, kc1, q0, _, _, _, hk3, hk4, _⟩ := HT11.out.rp.cut1; have qf := HT11.out.rp.fz 0; rw [← HN9.out] at q0 hk3; clear HSA; have tokA := trivial))
                      go_quiet (fail)
                      have HE : Hid (RT w0 w7 ((w13.setCell ⟨b, 3, none⟩ (.int .i64 (numOf (u.extract (j + 2) u.size)))).drewN nq) p m b i ((u, up) :: L9) e 0 pl kTest (numOf (u.extract 0 j)) (numOf (u.extract (j + 2) u.size))) := Lib.hid (by have h9 := (HT13.out.s3 (numOf (u.extract (j + 2) u.size))).gr ((Gr.refl (w13.setCell ⟨b, 3, none⟩ (.int .i64 (numOf (u.extract (j + 2) u.size))))).drewN nq); rw [HCB.out, plOf_at] at h9; exact h9)
                      have hE0 : ((w13.setCell ⟨b, 3, none⟩ (.int .i64 (numOf (u.extract (j + 2) u.size)))).drewN nq).cell? ⟨p, 0, none⟩ = some (.slice (some ⟨tb1, tq1, none⟩) (L9.length + 1) kc1) := by rw [← HN9.out]; show (w13.setCell ⟨b, 3, none⟩ _).cell? _ = _; rw [World.cell?_setCell_other _ _ _ _ (by simp)]; exact q0
                      have HE0 := Lib.hid hE0
                      clear hE0
                      go_wp2
                      all_goals (try (exfalso; omega))
                      all_goals (go_ret; exact RAns.from HSW.out (by rw [HPH.out, HPE.out]; exact (HE.out.gone HE0.out (by rw [← HN9.out]; simp_all)).test HLT.out HVA.out HVB.out d))
                  · have HCB := Lib.hid hcB
                    have HPE : Hid (pHeld i false ((u, up) :: L9) = .err (codeOf (u.extract (j + 2) u.size)) ((u, up) :: L9)) := Lib.hid (by rw [pHeld_cons, HCT.out.1, HCT.out.2.1, HCT.out.2.2, if_neg (by simp), if_neg (by simp [hcA]), if_pos rfl, if_pos hcB])
                    go_wp2_with (first
                      | (go_at_call 18; refine (index_g u HU.out _ (HEN.out.gr HT9.out.rp.gr)).mono ?_; rintro E w10 ⟨rfl, hww⟩; replace hww := hww.symm; subst hww; rw [HIX.out])
                      | (go_at_call 19; have _ := tokA; refine (field_ok HEN.out (by have := (HT11.out.s2 (numOf (u.extract 0 j))).rp; rw [HCA.out, plOf_at] at this; exact this) _ HSB.out).mono ?_; rintro E w13 ⟨rfl, h1, h2⟩; have HT13 := Lib.hid ((HT11.out.s2 (numOf (u.extract 0 j))).call h2 h1); clear h1 h2; clear z2 z3 zf2 zf3 q2 q0 hk3 hk4 qf; have z2 := HT13.out.ts.c2; have z3 := HT13.out.ts.c3; have zf2 := HT13.out.ts.fz 2; have zf3 := HT13.out.ts.fz 3; have q2 := HT13.out.rp.c2; obtain ⟨tb1, tq1, kc1, q0, _, _, _, hk3, hk4, _⟩ := HT13.out.rp.cut1; have qf := HT13.out.rp.fz 0; rw [← HN9.out] at q0 hk3)
                      | (go_at_call 19; refine (field_ok HEN.out HT9.out.rp _ HSA.out).mono ?_; rintro E w11 ⟨rfl, h1, h2⟩; have HT11 := Lib.hid (HT9.out.call h2 h1); clear h1 h2; have z2 := HT11.out.ts.c2; have z3 := HT11.out.ts.c3; have zf2 := HT11.out.ts.fz 2; have zf3 := HT11.out.ts.fz 3; have z0 := HT11.out.ts.c0; have q2 := HT11.out.rp.c2; obtain ⟨tb1, to1, kc1, q0, _, _, _, hk3, hk4, _⟩ := HT11.out.rp.cut1; have qf := HT11.out.rp.fz 0; rw [← HN9.out] at q0 hk3; clear HSA; have tokA := trivial))
                    go_quiet (fail)
                    have HE : Hid (RT w0 w7 ((w13.setCell ⟨b, 3, none⟩ (.int .i64 (numOf (u.extract (j + 2) u.size)))).drewN nq) p m b i ((u, up) :: L9) e (codeOf (u.extract (j + 2) u.size)) (placeOf e ((u, up) :: L9)) kTest (numOf (u.extract 0 j)) (numOf (u.extract (j + 2) u.size))) := Lib.hid (by have h9 := (HT13.out.s3 (numOf (u.extract (j + 2) u.size))).gr ((Gr.refl (w13.setCell ⟨b, 3, none⟩ (.int .i64 (numOf (u.extract (j + 2) u.size))))).drewN nq); rw [plOf_no HCB.out] at h9; exact h9)
                    go_wp2_with (first
                      | (go_at_call 11; refine (rfail_err HE.out.rp HCB.out _).mono ?_; rintro E w15 ⟨rfl, hww⟩; replace hww := hww.symm; subst hww))
                    all_goals (go_ret; exact RAns.from HSW.out (by rw [HPH.out, HPE.out]; exact HE.out.bad HCB.out _))
                · have HCA := Lib.hid hcA
                  have HPE : Hid (pHeld i false ((u, up) :: L9) = .err (codeOf (u.extract 0 j)) ((u, up) :: L9)) := Lib.hid (by rw [pHeld_cons, HCT.out.1, HCT.out.2.1, HCT.out.2.2, if_neg (by simp), if_pos hcA])
                  go_wp2_with (first
                    | (go_at_call 18; refine (index_g u HU.out _ (HEN.out.gr HT9.out.rp.gr)).mono ?_; rintro E w10 ⟨rfl, hww⟩; replace hww := hww.symm; subst hww; rw [HIX.out])
                    | (go_at_call 19; have _ := tokA; refine (field_err HEN.out (HT11.out.s2 (numOf (u.extract 0 j))).rp HCA.out _ HSB.out).mono ?_; rintro E w13 ⟨rfl, h1⟩; have HT13 := Lib.hid ((HT11.out.s2 (numOf (u.extract 0 j))).gr h1); clear h1; clear z2 z3 zf2 zf3 q2 q0 hk3 hk4 qf; have z2 := HT13.out.ts.c2; have z3 := HT13.out.ts.c3; have zf2 := HT13.out.ts.fz 2; have zf3 := HT13.out.ts.fz 3; have q2 := HT13.out.rp.c2; obtain ⟨tb1, tq1, kc1, q0, _, _, _, hk3, hk4, _⟩ := HT13.out.rp.cut1; have qf := HT13.out.rp.fz 0; rw [← HN9.out] at q0 hk3)
                    | (go_at_call 19; refine (field_ok HEN.out HT9.out.rp _ HSA.out).mono ?_; rintro E w11 ⟨rfl, h1, h2⟩; have HT11 := Lib.hid (HT9.out.call h2 h1); clear h1 h2; have z2 := HT11.out.ts.c2; have z3 := HT11.out.ts.c3; have zf2 := HT11.out.ts.fz 2; have zf3 := HT11.out.ts.fz 3; have z0 := HT11.out.ts.c0; have q2 := HT11.out.rp.c2; obtain ⟨tb1, to1, kc1, q0, _, _, _, hk3, hk4, _⟩ := HT11.out.rp.cut1; have qf := HT11.out.rp.fz 0; rw [← HN9.out] at q0 hk3; clear HSA; have tokA := trivial))
                  go_quiet (fail)
                  have HE : Hid (RT w0 w7 ((w13.setCell ⟨b, 3, none⟩ (.int .i64 (numOf (u.extract (j + 2) u.size)))).drewN nq) p m b i ((u, up) :: L9) e (codeOf (u.extract 0 j)) (placeOf e ((u, up) :: L9)) kTest (numOf (u.extract 0 j)) (numOf (u.extract (j + 2) u.size))) := Lib.hid (by have h9 := (HT13.out.s3 (numOf (u.extract (j + 2) u.size))).gr ((Gr.refl (w13.setCell ⟨b, 3, none⟩ (.int .i64 (numOf (u.extract (j + 2) u.size))))).drewN nq); rw [plOf_no HCA.out] at h9; exact h9)
                  go_wp2_with (first
                    | (go_at_call 11; refine (rfail_err HE.out.rp HCA.out _).mono ?_; rintro E w15 ⟨rfl, hww⟩; replace hww := hww.symm; subst hww))
                  all_goals (go_ret; exact RAns.from HSW.out (by rw [HPH.out, HPE.out]; exact HE.out.bad HCA.out _))
      · obtain rfl : i = 5 := by omega
        go_wp2_with (go_at_call 11; refine (rfail_ok HR1.out _).mono ?_; rintro E w9 ⟨rfl, h1, h2⟩; have H9 := Lib.hid (And.intro h1 h2); clear h1 h2)
        go_ret
        exact ⟨_, rfl, by rw [HP0.out, HF.out]; exact ⟨⟨_, rfl⟩, by decide, _, H9.out.1⟩, HS1.out.then H9.out.2⟩
end Go.Proofs.YthkccohigoejgaaGreatDoor

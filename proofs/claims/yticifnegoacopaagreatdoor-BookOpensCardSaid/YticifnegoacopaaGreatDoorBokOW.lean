/-
  The law BookOpens, walked. (Printed by genbokow.py.)
-/
import Derived.Test.YticifnegoacopaaGreatDoorBokOC
namespace Go.Proofs.YticifnegoacopaaGreatDoor
open Go Go.RowKit

theorem en_rjournal : ∀ args w, (callFunc 11 args).run Tryz.prog w = .ok (.enter 11 args) w := enters_of Tryz.func11 (by kernel_rfl) rfl
theorem s_eqPN {ev : Operand → Value} {o : Oper} {w : World} {x : Operand} {ad : Addr} (ho : o.op = .binOp .eql 48 x (.const (.pointer none)) 48) (h : ev x = .pointer (some ad)) (k : ev (.const (.pointer none)) = .pointer none := by rfl) : (execOp ev o).run Tryz.prog w = .ok (.value (.bool false)) w := by
  simp [execOp, ho, h, k, go_sem]
theorem ext_all (d : ByteArray) : d.extract 0 d.size = d := by
  apply ba_eq
  rw [Lib.extract_data]
  have hsz : d.data.toList.length = d.size := Array.length_toList
  simp only [List.drop_zero, Nat.sub_zero]
  exact List.take_of_length_le (by omega)
theorem name_size {L : List Ent} (h : EntOk L) {i : Nat} (hi : i < (namesOf L).length) : ((namesOf L).getD i ⟨#[]⟩).size ≤ 3000 := by
  rw [List.getD_eq_getElem?_getD, List.getElem?_eq_getElem hi]
  obtain ⟨e, he, h1⟩ := namesOf_mem.1 (List.getElem_mem hi)
  have := (h.2 e he).1
  show ((namesOf L)[i]'hi).size ≤ 3000
  rw [← h1]
  omega

set_option maxRecDepth 100000 in
set_option maxHeartbeats 16000000 in
theorem bookOpens_walk (W : World) (he : Env W) {a : Option Addr} {n c : Nat} {d : ByteArray} (h : BytesC W a n c d) : Calls Tryz.prog 4 #[.slice a n c] W fun e W' => e = .returned (.bool true) ∧ Gr W W' := by
  have HEN := Lib.hid he
  have HTB := Lib.hid he.tab
  have HD := Lib.hid h
  have HDL := Lib.hid h.len
  have n9 : (0 : Int) ≤ (n : Int) := by omega
  clear he h
  by_cases hbig : 3000 < n
  · have y0 : (3000 : Int) < (n : Int) := by omega
    go_enter Tryz.func4, Tryz.ntmps4
    go_wp2
    go_ret
    exact ⟨rfl, Gr.refl _⟩
  have y0 : ¬ (3000 : Int) < (n : Int) := by omega
  have HDS : Hid (d.size ≤ 3000) := Lib.hid (by have := HDL.out; omega)
  clear hbig
  go_enter Tryz.func4, Tryz.ntmps4
  go_upto_region 5 with (first
    | (go_at_call 19; refine (open_any HD.out HDS.out HEN.out).mono ?_; rintro e w1 ⟨p, L, A, rfl, hb1, hat1, hend1, hg1⟩; have HB1 := Lib.hid hb1; have HAT := Lib.hid hat1; have HE1 := Lib.hid hend1; have HG1 := Lib.hid hg1; clear hb1 hat1 hend1 hg1)
    | (refine wpList_convB (by rfl) (.tmp 20) (by rfl) (by rfl) (HD.out.b.gr HG1.out) ?_)
    | (go_at_call 20; refine (ropen_any HDS.out (HEN.out.gr HG1.out)).mono ?_; rintro e w7 ⟨r, L2, A2, rfl, hr2, hend2, hg2⟩; obtain ⟨e1, e2⟩ := hend2.one HE1.out; subst e1 e2; have HB := Lib.hid (HB1.out.gr hg2); have HR := Lib.hid hr2; have HG7 := Lib.hid (HG1.out.trans hg2); clear hr2 hend2 hg2 HE1 HB1 HG1))
  have HOK : Hid (EntOk L2) := Lib.hid HB.out.ok
  obtain ⟨L, hL⟩ : ∃ L, L = L2 := ⟨_, rfl⟩
  obtain ⟨A, hA2⟩ : ∃ A, A = A2 := ⟨_, rfl⟩
  subst hL hA2
  have HL5 : Hid (L.length ≤ 500) := Lib.hid HOK.out.1
  have HNL : Hid ((namesOf L).length ≤ 100000) := Lib.hid (Nat.le_trans (namesOf_len _) (by have := HOK.out.1; omega))
  obtain ⟨lv, hlv⟩ := HR.out
  obtain ⟨la, lc, rfl⟩ := hlv.shape
  have HRC := Lib.hid hlv.c0
  have HJZ := Lib.hid HOK.out.size
  clear hlv
  refine wp_region_gg (n := 24) [Fg.eq (.pointer (some ⟨p, 0, none⟩)), Fg.eq (.bool false), Fg.eq (.bool false), Fg.eq (.int .i64 (A : Int)), Fg.eq (.int .i64 (A : Int)), Fg.eq (.bool false), Fg.eq (.bool false), Fg.eq (.bool false), Fg.eq (.pointer (some ⟨p, 0, none⟩)), Fg.eq (.int .i64 (L.length : Int)), Fg.eq (.pointer (some ⟨r, 0, none⟩)), Fg.eq (.pointer (some ⟨r, 0, none⟩)), Fg.eq (.pointer (some ⟨r, 0, none⟩)), Fg.eq (.slice la L.length lc), Fg.eq (.int .i64 (L.length : Int)), Fg.eq (.bool false), Fg.eq (.bool false), Fg.eq (.bool false), Fg.eq (.pointer (some ⟨p, 0, none⟩)), Fg.nameR (namesOf L), Fg.eq (.pointer (some ⟨r, 0, none⟩)), Fg.strR (namesOf L), Fg.eq (.bool true), Fg.eq (.bool false)] [25, 26, 27, 28, 29, 30, 31, 32, 33, 34, 35, 36, 37, 38, 39, 40, 41, 42, 43, 44, 45, 46, 47, 48] (by kernel_rfl) (by kernel_rfl) (by kernel_rfl) ?_ ?_
  · intro Ls i' o' ac w1' hi' ho hA
    have hgr : Gr w7 w1' := ((Gr.refl w7).drew).trans hA.gr
    match i', hi' with
    | 0, _ =>
      obtain rfl := Option.some.inj ho
      exact gg_plain rfl (gstep_val (s_move rfl (show ac.eval (.tmp 3) = .pointer (some ⟨p, 0, none⟩) from hA.other 3 (by decide))) rfl)
    | 1, _ =>
      obtain rfl := Option.some.inj ho
      exact gg_plain rfl (gstep_val (s_eqPN rfl (hA.fact 0 (hA.dep 0 (by kernel_rfl) (by decide)))) rfl)
    | 2, _ =>
      obtain rfl := Option.some.inj ho
      exact gg_plain rfl (gstep_val (s_move rfl (hA.fact 1 (hA.dep 1 (by kernel_rfl) (by decide)))) rfl)
    | 3, _ =>
      obtain rfl := Option.some.inj ho
      exact gg_yes rfl (hA.fact 2 (hA.dep 2 (by kernel_rfl) (by decide))) (gstep_val (s_move rfl (show ac.eval (.tmp 4) = .int .i64 (A : Int) from hA.other 4 (by decide))) rfl)
    | 4, _ =>
      obtain rfl := Option.some.inj ho
      exact gg_yes rfl (hA.fact 2 (hA.dep 2 (by kernel_rfl) (by decide))) (gstep_val (s_move rfl (show ac.eval (.tmp 6) = .int .i64 (A : Int) from hA.other 6 (by decide))) rfl)
    | 5, _ =>
      obtain rfl := Option.some.inj ho
      exact gg_yes rfl (hA.fact 2 (hA.dep 2 (by kernel_rfl) (by decide))) (gstep_val (s_neqI rfl (hA.fact 3 (hA.dep 3 (by kernel_rfl) (by decide))) (hA.fact 4 (hA.dep 4 (by kernel_rfl) (by decide)))) rfl)
    | 6, _ =>
      obtain rfl := Option.some.inj ho
      exact gg_plain rfl (gstep_val (s_pickT rfl (hA.fact 2 (hA.dep 2 (by kernel_rfl) (by decide))) (hA.fact 5 (hA.dep 5 (by kernel_rfl) (by decide)))) rfl)
    | 7, _ =>
      obtain rfl := Option.some.inj ho
      exact gg_plain rfl (gstep_val (s_move rfl (hA.fact 6 (hA.dep 6 (by kernel_rfl) (by decide)))) rfl)
    | 8, _ =>
      obtain rfl := Option.some.inj ho
      exact gg_yes rfl (hA.fact 7 (hA.dep 7 (by kernel_rfl) (by decide))) (gstep_val (s_move rfl (show ac.eval (.tmp 3) = .pointer (some ⟨p, 0, none⟩) from hA.other 3 (by decide))) rfl)
    | 9, _ =>
      obtain rfl := Option.some.inj ho
      exact gg_yes rfl (hA.fact 7 (hA.dep 7 (by kernel_rfl) (by decide))) (gstep_call (s_fn1 en_lines rfl rfl (hA.fact 8 (hA.dep 8 (by kernel_rfl) (by decide)))) ((lines_any (HB.out.gr hgr)).mono (fun e w2 ⟨h1, h2⟩ => ⟨_, h1, by subst h2; exact Gr.refl _, rfl⟩)))
    | 10, _ =>
      obtain rfl := Option.some.inj ho
      exact gg_yes rfl (hA.fact 7 (hA.dep 7 (by kernel_rfl) (by decide))) (gstep_val (s_move rfl (show ac.eval (.tmp 5) = .pointer (some ⟨r, 0, none⟩) from hA.other 5 (by decide))) rfl)
    | 11, _ =>
      obtain rfl := Option.some.inj ho
      exact gg_yes rfl (hA.fact 7 (hA.dep 7 (by kernel_rfl) (by decide))) (gstep_val (s_nil rfl (hA.fact 10 (hA.dep 10 (by kernel_rfl) (by decide)))) rfl)
    | 12, _ =>
      obtain rfl := Option.some.inj ho
      exact gg_yes rfl (hA.fact 7 (hA.dep 7 (by kernel_rfl) (by decide))) (gstep_val (s_frb rfl (hA.fact 11 (hA.dep 11 (by kernel_rfl) (by decide)))) rfl)
    | 13, _ =>
      obtain rfl := Option.some.inj ho
      exact gg_yes rfl (hA.fact 7 (hA.dep 7 (by kernel_rfl) (by decide))) (gstep_val (s_loadE ⟨_, _, _, rfl⟩ rfl (hA.fact 12 (hA.dep 12 (by kernel_rfl) (by decide))) (hgr.cell HRC.out)) rfl)
    | 14, _ =>
      obtain rfl := Option.some.inj ho
      exact gg_yes rfl (hA.fact 7 (hA.dep 7 (by kernel_rfl) (by decide))) (gstep_val (s_lenE rfl (hA.fact 13 (hA.dep 13 (by kernel_rfl) (by decide))) HL5.out) rfl)
    | 15, _ =>
      obtain rfl := Option.some.inj ho
      exact gg_yes rfl (hA.fact 7 (hA.dep 7 (by kernel_rfl) (by decide))) (gstep_val (s_neqI rfl (hA.fact 9 (hA.dep 9 (by kernel_rfl) (by decide))) (hA.fact 14 (hA.dep 14 (by kernel_rfl) (by decide)))) rfl)
    | 16, _ =>
      obtain rfl := Option.some.inj ho
      exact gg_plain rfl (gstep_val (s_pickT rfl (hA.fact 7 (hA.dep 7 (by kernel_rfl) (by decide))) (hA.fact 15 (hA.dep 15 (by kernel_rfl) (by decide)))) rfl)
    | 17, _ =>
      obtain rfl := Option.some.inj ho
      exact gg_plain rfl (gstep_val (s_move rfl (hA.fact 16 (hA.dep 16 (by kernel_rfl) (by decide)))) rfl)
    | 18, _ =>
      obtain rfl := Option.some.inj ho
      exact gg_yes rfl (hA.fact 17 (hA.dep 17 (by kernel_rfl) (by decide))) (gstep_val (s_move rfl (show ac.eval (.tmp 3) = .pointer (some ⟨p, 0, none⟩) from hA.other 3 (by decide))) rfl)
    | 19, _ =>
      obtain rfl := Option.some.inj ho
      exact gg_yes rfl (hA.fact 17 (hA.dep 17 (by kernel_rfl) (by decide))) (gstep_call (s_fn1 en_names rfl rfl (hA.fact 18 (hA.dep 18 (by kernel_rfl) (by decide)))) ((names_any (HB.out.gr hgr)).mono (fun e w2 ⟨v, h1, h2, h3⟩ => ⟨v, h1, h3, h2⟩)))
    | 20, _ =>
      obtain rfl := Option.some.inj ho
      exact gg_yes rfl (hA.fact 17 (hA.dep 17 (by kernel_rfl) (by decide))) (gstep_val (s_move rfl (show ac.eval (.tmp 5) = .pointer (some ⟨r, 0, none⟩) from hA.other 5 (by decide))) rfl)
    | 21, _ =>
      obtain rfl := Option.some.inj ho
      exact gg_yes rfl (hA.fact 17 (hA.dep 17 (by kernel_rfl) (by decide))) (gstep_call (s_fn1 en_rnames rfl rfl (hA.fact 20 (hA.dep 20 (by kernel_rfl) (by decide)))) ((rnames_any (HR.out.gr hgr)).mono (fun e w2 ⟨v, h1, h2, h3⟩ => ⟨v, h1, h3, h2⟩)))
    | 22, _ =>
      obtain rfl := Option.some.inj ho
      have hn1 : NameRow w1' (valOf _ ac 19) (namesOf L) := (hA.fact 19 (hA.dep 19 (by kernel_rfl) (by decide)))
      have hn2 : StrRow w1' (valOf _ ac 21) (namesOf L) := (hA.fact 21 (hA.dep 21 (by kernel_rfl) (by decide)))
      exact gg_yes rfl (hA.fact 17 (hA.dep 17 (by kernel_rfl) (by decide))) (gstep_call (s_fn2 en_same rfl rfl rfl rfl) ((same_any hn1.strs hn2.strs HNL.out).mono (fun e w2 ⟨h1, h2⟩ => ⟨_, h1, h2, rfl⟩)))
    | 23, _ =>
      obtain rfl := Option.some.inj ho
      exact gg_yes rfl (hA.fact 17 (hA.dep 17 (by kernel_rfl) (by decide))) (gstep_val (s_not rfl (hA.fact 22 (hA.dep 22 (by kernel_rfl) (by decide)))) rfl)
    | k' + 24, hk' => exact absurd (show k' + 24 < 24 from hk') (by omega)
  · intro vs5 w8 hg8 hv
    have v16 : vs5 16 = .bool false := hv 16 (by omega)
    have v17 : vs5 17 = .bool false := hv 17 (by omega)
    have v23 : vs5 23 = .bool false := hv 23 (by omega)
    have HGX := Lib.hid (((Gr.refl w7).drew).trans hg8)
    clear hv hg8
    simp only [putN, List.drop_succ_cons, List.drop_zero, List.getElem?_cons_succ, List.getElem?_cons_zero, v16, v17, v23]
    clear v16 v17 v23
    generalize vs5 0 = z0 at *
    generalize vs5 1 = z1 at *
    generalize vs5 2 = z2 at *
    generalize vs5 3 = z3 at *
    generalize vs5 4 = z4 at *
    generalize vs5 5 = z5 at *
    generalize vs5 6 = z6 at *
    generalize vs5 7 = z7 at *
    generalize vs5 8 = z8 at *
    generalize vs5 9 = z9 at *
    generalize vs5 10 = z10 at *
    generalize vs5 11 = z11 at *
    generalize vs5 12 = z12 at *
    generalize vs5 13 = z13 at *
    generalize vs5 14 = z14 at *
    generalize vs5 15 = z15 at *
    generalize vs5 18 = z18 at *
    generalize vs5 19 = z19 at *
    generalize vs5 20 = z20 at *
    generalize vs5 21 = z21 at *
    generalize vs5 22 = z22 at *
    have HBN := Lib.hid (HB.out.gr HGX.out)
    have HRN := Lib.hid (HR.out.gr HGX.out)
    have HGN := Lib.hid (HG7.out.trans HGX.out)
    clear HGX HB HR HG7 HRC
    go_wp2_with (go_at_call 17; refine (rnames_any HRN.out).mono ?_; rintro e w9 ⟨lv, rfl, hs9, hg9⟩; have HS9 := Lib.hid hs9.strs; obtain ⟨a0, c0, rfl⟩ := Row.shape hs9; have HBM := Lib.hid (HBN.out.gr hg9); have HRM := Lib.hid (HRN.out.gr hg9); have HGM := Lib.hid (HGN.out.trans hg9); clear hs9 hg9)
    clear HBN HRN HGN
    have HBN := HBM
    have HRN := HRM
    obtain ⟨k0, hk0⟩ : ∃ k, k = (namesOf L).length := ⟨_, rfl⟩
    have HK0 := Lib.hid hk0
    rw [← hk0] at HS9 HNL ⊢
    have k9 : (0 : Int) ≤ (k0 : Int) := by omega
    have k8 : (k0 : Int) ≤ 100000 := by have := HNL.out; omega
    clear hk0 HBM HRM
    go_loopw [8] (fun s8 wr => ∃ i : Nat, i ≤ k0 ∧ s8 = .int .i64 (i : Int) ∧ Hid (Gr w9 wr)) (fun s _ => k0 - (intOf s).toNat)
    case atStart => exact ⟨0, Nat.zero_le _, rfl, Lib.hid (Gr.refl w9)⟩
    case round =>
      obtain ⟨i, hi, rfl, HGR⟩ := hrel
      by_cases hlt : i < k0
      · obtain ⟨a0', c0', e0, hs⟩ := HS9.out
        obtain ⟨b0, o0, ea, hs1⟩ := hs (by omega)
        obtain ⟨e1, e2, e3⟩ := Value.slice.inj e0
        clear e2
        subst ea
        subst e1 e3
        have hsi : w9.cell? ⟨b0, o0 + i, none⟩ = some (.string ((namesOf L).getD i ⟨#[]⟩)) := hs1 i hlt
        have hxs := name_size HOK.out (i := i) (by rw [← HK0.out]; exact hlt)
        clear hs hs1 e0
        generalize (namesOf L).getD i ⟨#[]⟩ = x at *
        have HSX : Hid (w9.cell? ⟨b0, o0 + i, none⟩ = some (.string x)) := Lib.hid hsi
        have HX := Lib.hid hxs
        have HLT := Lib.hid hlt
        have i0 : (0 : Int) ≤ (i : Int) := by omega
        have i1 : (i : Int) < (k0 : Int) := by omega
        clear hsi hxs
        go_upto_region 11 with fail
        refine wp_region_gg (n := 12) [Fg.eq (.pointer (some ⟨p, 0, none⟩)), Fg.eq (.slice (some ⟨b0, o0, none⟩) k0 c0), Fg.eq (.int .i64 (i : Int)), Fg.eq (.pointer (some ⟨b0, o0 + i, none⟩)), Fg.eq (.string x), Fg.eq (.int .i64 (getN L x)), Fg.eq (.pointer (some ⟨r, 0, none⟩)), Fg.eq (.slice (some ⟨b0, o0, none⟩) k0 c0), Fg.eq (.int .i64 (i : Int)), Fg.eq (.pointer (some ⟨b0, o0 + i, none⟩)), Fg.eq (.string x), Fg.eq (.int .i64 (getN L x))] [58, 59, 60, 61, 62, 63, 64, 65, 66, 67, 68, 69] (by kernel_rfl) (by kernel_rfl) (by kernel_rfl) ?_ ?_
        · intro Ls i' o' ac w1' hi' ho hA
          have hgr : Gr wr w1' := ((Gr.refl wr).drew).trans hA.gr
          match i', hi' with
          | 0, _ =>
            obtain rfl := Option.some.inj ho
            exact gg_plain rfl (gstep_val (s_move rfl (show ac.eval (.tmp 3) = .pointer (some ⟨p, 0, none⟩) from hA.other 3 (by decide))) rfl)
          | 1, _ =>
            obtain rfl := Option.some.inj ho
            exact gg_plain rfl (gstep_val (s_move rfl (show ac.eval (.tmp 7) = .slice (some ⟨b0, o0, none⟩) k0 c0 from hA.other 7 (by decide))) rfl)
          | 2, _ =>
            obtain rfl := Option.some.inj ho
            exact gg_plain rfl (gstep_val (s_move rfl (show ac.eval (.tmp 8) = .int .i64 (i : Int) from hA.other 8 (by decide))) rfl)
          | 3, _ =>
            obtain rfl := Option.some.inj ho
            exact gg_plain rfl (gstep_val (s_idxS rfl (hA.fact 1 (hA.dep 1 (by kernel_rfl) (by decide))) (hA.fact 2 (hA.dep 2 (by kernel_rfl) (by decide))) HLT.out) rfl)
          | 4, _ =>
            obtain rfl := Option.some.inj ho
            exact gg_plain rfl (gstep_val (s_loadT rfl (hA.fact 3 (hA.dep 3 (by kernel_rfl) (by decide))) ((HGR.out.trans hgr).cell HSX.out)) rfl)
          | 5, _ =>
            obtain rfl := Option.some.inj ho
            exact gg_plain rfl (gstep_call (s_fn2 en_get rfl rfl (hA.fact 0 (hA.dep 0 (by kernel_rfl) (by decide))) (hA.fact 4 (hA.dep 4 (by kernel_rfl) (by decide)))) ((get_any (HBN.out.gr (HGR.out.trans hgr)) x HX.out).mono (fun e w2 ⟨h1, h2⟩ => ⟨_, h1, by subst h2; exact Gr.refl _, rfl⟩)))
          | 6, _ =>
            obtain rfl := Option.some.inj ho
            exact gg_plain rfl (gstep_val (s_move rfl (show ac.eval (.tmp 5) = .pointer (some ⟨r, 0, none⟩) from hA.other 5 (by decide))) rfl)
          | 7, _ =>
            obtain rfl := Option.some.inj ho
            exact gg_plain rfl (gstep_val (s_move rfl (show ac.eval (.tmp 7) = .slice (some ⟨b0, o0, none⟩) k0 c0 from hA.other 7 (by decide))) rfl)
          | 8, _ =>
            obtain rfl := Option.some.inj ho
            exact gg_plain rfl (gstep_val (s_move rfl (show ac.eval (.tmp 8) = .int .i64 (i : Int) from hA.other 8 (by decide))) rfl)
          | 9, _ =>
            obtain rfl := Option.some.inj ho
            exact gg_plain rfl (gstep_val (s_idxS rfl (hA.fact 7 (hA.dep 7 (by kernel_rfl) (by decide))) (hA.fact 8 (hA.dep 8 (by kernel_rfl) (by decide))) HLT.out) rfl)
          | 10, _ =>
            obtain rfl := Option.some.inj ho
            exact gg_plain rfl (gstep_val (s_loadT rfl (hA.fact 9 (hA.dep 9 (by kernel_rfl) (by decide))) ((HGR.out.trans hgr).cell HSX.out)) rfl)
          | 11, _ =>
            obtain rfl := Option.some.inj ho
            exact gg_plain rfl (gstep_call (s_fn2 en_rget rfl rfl (hA.fact 6 (hA.dep 6 (by kernel_rfl) (by decide))) (hA.fact 10 (hA.dep 10 (by kernel_rfl) (by decide)))) ((rget_any (HRN.out.gr (HGR.out.trans hgr)) x).mono (fun e w2 ⟨h1, h2⟩ => ⟨_, h1, h2, rfl⟩)))
          | k' + 12, hk' => exact absurd (show k' + 12 < 12 from hk') (by omega)
        · intro vs5 w8 hg8 hv
          have v5 : vs5 5 = .int .i64 (getN L x) := hv 5 (by omega)
          have v11 : vs5 11 = .int .i64 (getN L x) := hv 11 (by omega)
          have HGX := Lib.hid (((Gr.refl wr).drew).trans hg8)
          clear hv hg8
          simp only [putN, List.drop_succ_cons, List.drop_zero, List.getElem?_cons_succ, List.getElem?_cons_zero, v5, v11]
          clear v5 v11
          generalize vs5 0 = z0 at *
          generalize vs5 1 = z1 at *
          generalize vs5 2 = z2 at *
          generalize vs5 3 = z3 at *
          generalize vs5 4 = z4 at *
          generalize vs5 6 = z6 at *
          generalize vs5 7 = z7 at *
          generalize vs5 8 = z8 at *
          generalize vs5 9 = z9 at *
          generalize vs5 10 = z10 at *
          have HGR2 := Lib.hid (HGR.out.trans HGX.out)
          clear HGX
          go_wp2
          go_roundw
          case rel => exact ⟨i + 1, by omega, by go_num, HGR2⟩
          case measure => simp [intOf]; omega
      · obtain rfl : i = k0 := by omega
        have HB9 := Lib.hid (HBN.out.gr HGR.out)
        have HR9 := Lib.hid (HRN.out.gr HGR.out)
        have HG9 := Lib.hid (HGM.out.trans HGR.out)
        have HCR : Hid (Calls Tryz.prog 18 #[.pointer (some ⟨p, 0, none⟩), .int .i64 0, .slice none 0 0] wr fun e w' => ∃ v, e = .returned (.tuple #[v, .nilIface]) ∧ OwnB w' wr.heap.size v (journal L) ∧ Gr wr w') := Lib.hid (by
          have h1 := crash_yes (k := 0) HB9.out (tv := .slice none 0 0) (x := ⟨#[]⟩) ⟨none, 0, rfl, .inl rfl⟩ (Nat.zero_le _) (by have := HAT.out; omega)
          rw [bapp_nil, Nat.add_zero, HAT.out, ext_all] at h1
          exact h1)
        go_upto_region 14 with (go_at_call 18; refine HCR.out.mono ?_; rintro e w12 ⟨z, rfl, hz, hg12⟩; have HZ := Lib.hid hz; have HRX := Lib.hid (HR9.out.gr hg12); have HG12 := Lib.hid (HG9.out.trans hg12); clear hz hg12)
        clear HG9
        have HG9 := HG12
        refine wp_region_gg (n := 9) [Fg.eq (.nilIface), Fg.eq (.bool true), Fg.eq (.bool true), Fg.eq (z), Fg.eq (.string (journal L)), Fg.eq (.pointer (some ⟨r, 0, none⟩)), Fg.eq (.string (journal L)), Fg.eq (.bool true), Fg.eq (.bool true)] [76, 77, 78, 79, 80, 81, 82, 83, 84] (by kernel_rfl) (by kernel_rfl) (by kernel_rfl) ?_ ?_
        · intro Ls i' o' ac w1' hi' ho hA
          have hgr : Gr w12 w1' := ((Gr.refl w12).drew).trans hA.gr
          match i', hi' with
          | 0, _ =>
            obtain rfl := Option.some.inj ho
            exact gg_plain rfl (gstep_val (s_move rfl (show ac.eval (.tmp 10) = .nilIface from hA.other 10 (by decide))) rfl)
          | 1, _ =>
            obtain rfl := Option.some.inj ho
            exact gg_plain rfl (gstep_val (s_eqNil rfl (hA.fact 0 (hA.dep 0 (by kernel_rfl) (by decide)))) rfl)
          | 2, _ =>
            obtain rfl := Option.some.inj ho
            exact gg_plain rfl (gstep_val (s_move rfl (hA.fact 1 (hA.dep 1 (by kernel_rfl) (by decide)))) rfl)
          | 3, _ =>
            obtain rfl := Option.some.inj ho
            exact gg_yes rfl (hA.fact 2 (hA.dep 2 (by kernel_rfl) (by decide))) (gstep_val (s_move rfl (show ac.eval (.tmp 9) = z from hA.other 9 (by decide))) rfl)
          | 4, _ =>
            obtain rfl := Option.some.inj ho
            exact gg_yes rfl (hA.fact 2 (hA.dep 2 (by kernel_rfl) (by decide))) (gstep_val (s_conv rfl (hA.fact 3 (hA.dep 3 (by kernel_rfl) (by decide))) ((HZ.out.gr hgr).bytes)) rfl)
          | 5, _ =>
            obtain rfl := Option.some.inj ho
            exact gg_yes rfl (hA.fact 2 (hA.dep 2 (by kernel_rfl) (by decide))) (gstep_val (s_move rfl (show ac.eval (.tmp 5) = .pointer (some ⟨r, 0, none⟩) from hA.other 5 (by decide))) rfl)
          | 6, _ =>
            obtain rfl := Option.some.inj ho
            exact gg_yes rfl (hA.fact 2 (hA.dep 2 (by kernel_rfl) (by decide))) (gstep_call (s_fn1 en_rjournal rfl rfl (hA.fact 5 (hA.dep 5 (by kernel_rfl) (by decide)))) ((rjournal_any (HRX.out.gr hgr) (HTB.out.gr (HG9.out.trans hgr))).mono (fun e w2 ⟨h1, h2⟩ => ⟨_, h1, h2, rfl⟩)))
          | 7, _ =>
            obtain rfl := Option.some.inj ho
            exact gg_yes rfl (hA.fact 2 (hA.dep 2 (by kernel_rfl) (by decide))) (gstep_val (s_eqS rfl (hA.fact 4 (hA.dep 4 (by kernel_rfl) (by decide))) (hA.fact 6 (hA.dep 6 (by kernel_rfl) (by decide)))) rfl)
          | 8, _ =>
            obtain rfl := Option.some.inj ho
            exact gg_plain rfl (gstep_val (s_pickF rfl (hA.fact 2 (hA.dep 2 (by kernel_rfl) (by decide))) (hA.fact 7 (hA.dep 7 (by kernel_rfl) (by decide)))) rfl)
          | k' + 9, hk' => exact absurd (show k' + 9 < 9 from hk') (by omega)
        · intro vs5 w8 hg8 hv
          have v8 : vs5 8 = .bool true := hv 8 (by omega)
          have HGX := Lib.hid (((Gr.refl w12).drew).trans hg8)
          clear hv hg8
          simp only [putN, List.drop_succ_cons, List.drop_zero, List.getElem?_cons_succ, List.getElem?_cons_zero, v8]
          clear v8
          generalize vs5 0 = z0 at *
          generalize vs5 1 = z1 at *
          generalize vs5 2 = z2 at *
          generalize vs5 3 = z3 at *
          generalize vs5 4 = z4 at *
          generalize vs5 5 = z5 at *
          generalize vs5 6 = z6 at *
          generalize vs5 7 = z7 at *
          go_wp2
          go_ret
          exact ⟨rfl, HG9.out.trans HGX.out⟩
end Go.Proofs.YticifnegoacopaaGreatDoor

/-
  The reference's Rounds: Take. (Printed by genrnd.py.)
-/
import Derived.Test.YtbpofdfehcbppaaDoorRndG
import Derived.Test.YtbpofdfehcbppaaDoorRedF
namespace Go.Proofs.YtbpofdfehcbppaaDoor
open Go.RowKit Go.Extern.Stop Go.Stop Go.Extern

section
variable {ev : Operand → Value} {o : Oper} {w : World} {x y z : Operand} {u : Value}
theorem rrt_fa_millraceref_Rounds_1 {p o' : Nat} (ho : o.op = .fieldAddr 84 x 1) (h : ev x = .pointer (some ⟨p, o', none⟩)) : (execOp ev o).run Tryd.prog w = .ok (.value (.pointer (some ⟨p, o' + 1, none⟩))) w := by
  simp [execOp, ho, h, go_sem]
theorem rrt_loadS___int {ad : Addr} {a : Option Addr} {n c : Nat} (ho : o.op = .load 42 x) (h : ev x = .pointer (some ad)) (hc : w.cell? ad = some (.slice a n c)) : (execOp ev o).run Tryd.prog w = .ok (.value (.slice a n c)) w := by
  simp [execOp, ho, h, hc, go_sem]
theorem rrt_len___int {a : Option Addr} {n c : Nat} (ho : o.op = .call { callee := .builtin .len, args := #[x], argTypes := #[42] }) (h : ev x = .slice a n c) : (execOp ev o).run Tryd.prog w = .ok (.value (.int .i64 (n : Int))) w := by
  simp [execOp, ho, h, resolve, invoke, builtin, Builtin.len_, go_sem]
theorem rrt_sub {m n r : Int} (ho : o.op = .binOp .sub 3 x y 3) (h : ev x = .int .i64 m) (k : ev y = .int .i64 n) (hb : IntKind.i64.wrap (m - n) = r) : (execOp ev o).run Tryd.prog w = .ok (.value (.int .i64 r)) w := by
  subst hb
  simp [execOp, ho, h, k, go_sem]
theorem rrt_idxs___int {b off n c j : Nat} (ho : o.op = .indexAddr 42 x y) (h : ev x = .slice (some ⟨b, off, none⟩) n c) (k : ev y = .int .i64 (j : Int)) (hj : j < n) : (execOp ev o).run Tryd.prog w = .ok (.value (.pointer (some ⟨b, off + j, none⟩))) w := by
  have h0 : (0 : Int) ≤ (j : Int) := by omega
  have h1 : (j : Int) < (n : Int) := by omega
  simp [execOp, ho, h, k, h0, h1, go_sem]
theorem rrt_fa_millraceref_Rounds_5 {p o' : Nat} (ho : o.op = .fieldAddr 84 x 5) (h : ev x = .pointer (some ⟨p, o', none⟩)) : (execOp ev o).run Tryd.prog w = .ok (.value (.pointer (some ⟨p, o' + 5, none⟩))) w := by
  simp [execOp, ho, h, go_sem]
theorem rrt_look {b : Nat} {kk : Int} {u : Value} (ho : o.op = .lookup 82 x y false) (h : ev x = .map (some b)) (k : ev y = .int .i64 kk) (hr : (Instr.lookup 82 (.map (some b)) (.int .i64 kk) false).run Tryd.prog w = .ok u w) : (execOp ev o).run Tryd.prog w = .ok (.value u) w := by
  simp [execOp, ho, h, k, hr, Result.andThen]
theorem rrt_fa_millraceref_Pack_0 {p o' : Nat} (ho : o.op = .fieldAddr 108 x 0) (h : ev x = .pointer (some ⟨p, o', none⟩)) : (execOp ev o).run Tryd.prog w = .ok (.value (.pointer (some ⟨p, o', none⟩))) w := by
  simp [execOp, ho, h, go_sem]
theorem rrt_fa_api_Item_1 {p o' : Nat} (ho : o.op = .fieldAddr 103 x 1) (h : ev x = .pointer (some ⟨p, o', none⟩)) : (execOp ev o).run Tryd.prog w = .ok (.value (.pointer (some ⟨p, o' + 1, none⟩))) w := by
  simp [execOp, ho, h, go_sem]
end

theorem outN_app2 (l r : List Hel) (m : Int) : outN (l ++ r) m = outN l m ++ outN r m := List.filter_append ..
theorem outN_le2 (l : List Hel) (m : Int) : (outN l m).length ≤ l.length := List.length_filter_le _ _
/-- append([]int{}, v...) -/
theorem wpList_append_intE {ops : Array Oper} {rest : List Oper} {o : Oper} {a : Act} {Q : Exit → Act → World → Prop} {w : World} (hgd : o.guard = none) (s x : Operand)
    (ho : o.op = .call { callee := .builtin .append, args := #[s, x], argTypes := #[42, 42] }) (hty : o.type = 42) (g : Nat) (hs : a.eval s = .slice (some ⟨g, 0, none⟩) 0 0) (h : IntRow w (.slice (some ⟨g, 0, none⟩) 0 0) []) (v : Value) (ys : List Int) (hx : a.eval x = v) (hv : Ints w v ys) (hn : ys.length ≤ 999990)
    (hK : ∀ v' w', IntRow w' v' ys → Gr w w' → (∀ k, v'.ownBlock = some k → g = k ∨ w.heap.size ≤ k) → wpList Tryd.prog ops Q rest (a.put o.dst v') w') : wpList Tryd.prog ops Q (o :: rest) a w := by
  obtain ⟨v', w', hr, h2, h3, h4⟩ := IntRow.app0 h hv hn
  refine wpList_plain hgd fun _ hK' => ?_
  unfold Oper.wp
  simp [execOp, ho, resolve, invoke, builtin, hs, hx, hty, hr, Result.andThen]
  exact hK' _ _ (hK v' w' h2 h3 (fun k hk => (h4 k hk).imp (fun e => Option.some.inj e) id))
theorem ints_at {w : World} {b off n c : Nat} {xs : List Int} (h : Ints w (.slice (some ⟨b, off, none⟩) n c) xs) {j : Nat} (hj : j < xs.length) : w.cell? ⟨b, off + j, none⟩ = some (.int .i64 (xs.getD j 0)) := by
  rcases h with ⟨_, _, _, rfl⟩ | ⟨b', off', c', e, _, _, h4⟩
  · simp at hj
  · cases e; exact h4 j hj
theorem fI_keep {g : Int → Bool} {k j : Int} (h : g j = true) : fI g k true j = true := by
  by_cases e : j = k
  · rw [e, fI_at]
  · rw [fI_ne _ _ e]; exact h
/-- The first one has its quantum. -/
structure MidR (s s' : RRV) (f : Nat) (c : Int) : Prop where
  tv : s'.tv = s.tv
  turn : s'.turn = s.turn
  l : s'.l = s.l
  begun : s'.begun = true
  mn : s'.mn = s.mn
  at_ : s'.f (f : Int) = c
  other : ∀ j : Nat, j < 16 → j ≠ f → s'.f (j : Int) = s.f (j : Int)
  g : ∀ j : Nat, s.g (j : Int) = true → s'.g (j : Int) = true
theorem RShows.pass {s s' s2 : RRV} {a : RndS} {n f : Nat} {r : List Nat} {c : Int} (h : RShows s a n) (ht : a.turn = f :: r) (m : MidR s s' f c) (e1 : s2.l = s'.l) (e2 : s2.turn = intL r ++ [(f : Int)]) (e3 : s2.begun = false) (e4 : s2.f = s'.f) (e5 : s2.g = s'.g) (e6 : s2.mn = s'.mn) : RShows s2 (a.pass f r c) n := by
  refine ⟨by rw [e1, m.l]; exact h.l, by rw [e2]; exact (intL_app r f).symm, e3, fun k hk => ?_, fun k hk => ?_, by rw [e6, m.mn]; exact h.few⟩
  · rw [e4]
    show s'.f (k : Int) = fu a.credit f c k
    by_cases e : k = f
    · rw [e, fu_at]; exact m.at_
    · rw [fu_ne _ _ e, m.other k hk e]; exact h.cr k hk
  · rw [e5]
    replace hk : k ∈ r ++ [f] := hk
    refine m.g k (h.has k ?_)
    rw [ht]
    simpa [or_comm] using hk
theorem RShows.gone {s s' s2 : RRV} {a : RndS} {n f : Nat} {r : List Nat} {c : Int} {x : Hel} {sx : List Hel} (h : RShows s a n) (ht : a.turn = f :: r) (m : MidR s s' f c) (e1 : s2.l = outN a.l x.n) (e2 : s2.turn = intL (if sx = [] then r else f :: r)) (e3 : s2.begun = if sx = [] then false else true) (e4 : s2.f = fI s'.f (f : Int) (c - x.len)) (e5 : s2.g = fI s'.g (f : Int) true) (e6 : s2.mn = s'.mn) : RShows s2 (a.gone f r x sx c) n := by
  refine ⟨e1, e2, e3, fun k hk => ?_, fun k hk => ?_, by rw [e6, m.mn]; exact h.few⟩
  · rw [e4]
    show fI s'.f (f : Int) (c - x.len) (k : Int) = fu a.credit f (c - x.len) k
    by_cases e : k = f
    · rw [e, fu_at, fI_at]
    · rw [fu_ne _ _ e, fI_ne _ _ (by omega), m.other k hk e]; exact h.cr k hk
  · rw [e5]
    replace hk : k ∈ (if sx = [] then r else f :: r) := hk
    by_cases e : k = f
    · rw [e, fI_at]
    · rw [fI_ne _ _ (by omega)]
      refine m.g k (h.has k ?_)
      rw [ht]
      by_cases hs : sx = []
      · rw [if_pos hs] at hk; exact List.mem_cons_of_mem _ hk
      · rw [if_neg hs] at hk; exact hk
set_option maxRecDepth 100000 in
set_option maxHeartbeats 40000000 in
theorem rrtake_any (N0 p mb : Nat) (q : RndP) (hq : q.Ok) (zv : Value) (zs : List Int) (hz : 0 < zs.length ∧ zs.length ≤ 16) (hqz : ∀ f, q.quanta f = zs.getD (min f (zs.length - 1)) 0) (sb : RRV) (a : RndS) (n : Nat) (ok : RndOk q a n) (sh : RShows sb a n) (now : Int) (w : World) (h : RRC w N0 p mb q.room zv zs sb) :
    Calls Tryd.prog 113 #[.pointer (some ⟨p, 0, none⟩), .int .i64 now] w fun e w' => e = .returned (.tuple #[(takeR q a.fuel a).2.1.val, .slice none 0 0, .bool (takeR q a.fuel a).2.2.2]) ∧ ∃ s', RRM w w' N0 p mb q.room zv zs sb [] s' ∧ RShows s' (takeR q a.fuel a).1 n := by
  obtain ⟨zb, zo, zc, rfl, _⟩ := ints_cells h.zs hz.1
  obtain ⟨m, hm⟩ : ∃ m, zs.length = m + 1 := ⟨zs.length - 1, by omega⟩
  have HQM := Lib.hid (show ∀ f, q.quanta f = zs.getD (min f m) 0 from fun f => by rw [hqz f, hm]; rfl)
  have HML := Lib.hid (show m < 16 ∧ m < zs.length ∧ zs.length = m + 1 by omega)
  rw [hm] at h ⊢
  have HA := Lib.hid h
  have HQ := Lib.hid hq
  have HOK := Lib.hid ok
  have HSH := Lib.hid sh
  have HN2 := Lib.hid ok.l.n
  have DM := Lib.hid (show IntKind.i64.wrap (((m + 1 : Nat) : Int) - 1) = (m : Int) from by have := HML.out; rw [IntKind.wrap_i64]; omega)
  obtain ⟨R, hR⟩ : ∃ R, R = takeR q a.fuel a := ⟨_, rfl⟩
  rw [← hR]
  have HR := Lib.hid hR.symm
  clear h hq ok sh hR hqz hz hm
  obtain ⟨i0', hi0, hz0, hz1, hz2⟩ := info_parts packInfo
  unfold Hel.val
  go_enter Tryd.func113, Tryd.ntmps113
  go_wp2
  obtain ⟨w0, hw0⟩ : ∃ w0, w0 = w.alloc (.cells #[.int .i64 0, .int .i64 0, .int .i64 0, .int .i64 0, .int .i64 0, .int .i64 0] 108) := ⟨_, rfl⟩
  obtain ⟨rb, hrb⟩ : ∃ rb, rb = w.heap.size := ⟨_, rfl⟩
  have HR0 : Hid (HelRes w0 rb .zero ∧ rb = w.heap.size) := Lib.hid (by rw [hw0]; exact ⟨helRes_new w .zero hrb, hrb⟩)
  have HG0 : Hid (Gr w w0) := Lib.hid (by rw [hw0]; exact (Gr.refl _).alloc _)
  have HA0 := Lib.hid (HA.out.gr HG0.out)
  rw [← hw0, ← hrb]
  clear hw0 hrb
  have HM0 := Lib.hid ((RRM.first HA.out).res_add HG0.out (show w.heap.size ≤ rb by have := HR0.out.2; omega) (cell_lt HR0.out.1.at_.c0))
  have HZ0 := Lib.hid HR0.out.1
  clear HR0 HG0 HA0
  go_loopg [] (a.fuel) (fun g wr => ∃ (a1 : RndS) (s1 : RRV), Hid (takeR q g a1 = R) ∧ Hid (RndOk q a1 n) ∧ Hid (a1.fuel ≤ g) ∧ Hid (RShows s1 a1 n) ∧ Hid (RRM w wr N0 p mb q.room (.slice (some ⟨zb, zo, none⟩) (m + 1) zc) zs sb [rb] s1) ∧ Hid (HelRes wr rb .zero))
  case atStart => exact ⟨a, sb, HR, HOK, Lib.hid (Nat.le_refl _), HSH, HM0, HZ0⟩
  case round =>
    clear HM0 HZ0 HR HOK HSH HA
    obtain ⟨a1, s1, HRR, HO, HF, HS, HM, HZ⟩ := hrel
    obtain ⟨g', rfl⟩ : ∃ g', gk = g' + 1 := ⟨gk - 1, by have h1 := HF.out; unfold RndS.fuel at h1; omega⟩
    have c3 := HM.out.at_.c3
    cases hturn : a1.turn with
    | nil =>
      have HTT := Lib.hid (show R = (a1, .zero, [], false) from by rw [← HRR.out, takeR_none hturn])
      have htu : IntRow wr s1.tv [] := by rw [← show s1.turn = [] from by rw [HS.out.turn, hturn]; rfl]; exact HM.out.at_.turn
      obtain ⟨ta, tc, htv⟩ := htu.shape
      rw [htv, List.length_nil] at c3
      clear htu htv hturn
      obtain ⟨⟨r0, r1, r2, r3, r4, r5⟩, e0, e1, e2, e3, e4, e5⟩ := HZ.out
      go_wp2
      obtain ⟨w9, hw9⟩ : ∃ w9, w9 = ((((((wr.setCell ⟨rb, 0, none⟩ (.int .i64 Hel.zero.t)).setCell ⟨rb, 1, none⟩ (.int .i64 Hel.zero.len)).setCell ⟨rb, 2, none⟩ (.int .i64 Hel.zero.flow)).setCell ⟨rb, 3, none⟩ (.int .i64 Hel.zero.band)).setCell ⟨rb, 4, none⟩ (.int .i64 Hel.zero.mark)).setCell ⟨rb, 5, none⟩ (.int .i64 Hel.zero.n)) := ⟨_, rfl⟩
      have HR9 := Lib.hid (show HelRes w9 rb .zero ∧ Sav (fun g => g = rb) wr w9 from by rw [hw9]; exact hel_set6 HZ.out .zero)
      unfold Hel.zero at hw9
      simp only at hw9
      rw [← hw9]
      clear hw9 r0 r1 r2 r3 r4 r5 e0 e1 e2 e3 e4 e5
      obtain ⟨⟨q0, q1, q2, q3, q4, q5⟩, _⟩ := HR9.out.1
      unfold Hel.zero at q0 q1 q2 q3 q4 q5
      simp only [Nat.zero_add] at q0 q1 q2 q3 q4 q5
      refine bodyPost_ret (v := .tuple #[.agg #[.int .i64 0, .int .i64 0, .int .i64 0, .int .i64 0, .int .i64 0, .int .i64 0], .slice none 0 0, .bool false]) (by simp [results, Tryd.results113, go_sem, q0, q1, q2, q3, q4, q5]) rfl ?_
      rw [HTT.out]
      exact ⟨rfl, _, (HM.out.off HR9.out.2 (fun g e => by simp [e])).did, HS.out⟩
    | cons f r =>
      obtain ⟨x, sx, hs, hxl, hxf, hx1, hx2⟩ := HO.out.head hturn
      have HK := Lib.hid (show f < 16 from by have := HO.out.small (f := f) (by rw [hturn]; exact List.mem_cons_self ..); omega)
      have HT1 := Lib.hid hturn
      have HS1 := Lib.hid hs
      have HXL := Lib.hid (And.intro hx1 hx2)
      have HCB := Lib.hid (HO.out.credB HQ.out hturn)
      have HGF := Lib.hid (HS.out.has f (by rw [hturn]; exact List.mem_cons_self ..))
      have HTU : Hid (s1.turn = (f : Int) :: intL r) := Lib.hid (by rw [HS.out.turn, hturn]; rfl)
      have HLL : Hid (ofF s1.l f = x :: sx) := Lib.hid (by rw [HS.out.l]; exact hs)
      have HRL : Hid ((intL r).length ≤ 300) := Lib.hid (by have h1 := HO.out.few; have h2 := HO.out.l.n; rw [hturn] at h1; rw [intL_len]; simp at h1; omega)
      have HLN : Hid (s1.l.length ≤ 200) := Lib.hid (by rw [HS.out.l]; have h2 := HO.out.l.few; have h3 := HO.out.l.n; omega)
      have HMN : Hid (s1.mn ≤ 200) := Lib.hid (by have h2 := HS.out.few; have h3 := HO.out.l.n; omega)
      have HBD := Lib.hid (show Bd (f : Int) from by have := HK.out; unfold Bd; omega)
      obtain ⟨tg, toff, cap, htv, hcap, hcm, hc⟩ := Row.cells (show IntRow wr s1.tv ((f : Int) :: intL r) from by rw [← HTU.out]; exact HM.out.at_.turn) (by simp)
      rw [List.length_cons] at htv hcap
      have HTV := Lib.hid htv
      rw [htv] at c3
      have ce := hc 0 (.int .i64 (f : Int)) (by simp)
      rw [Nat.add_zero] at ce
      have e1 : 1 ≤ cap := by omega
      have i2 : (((intL r).length + 1 : Nat) : Int) ≤ (cap : Int) := by omega
      have i3 : (0 : Int) < (((intL r).length + 1 : Nat) : Int) := by omega
      have HE := Lib.hid (And.intro e1 (And.intro i2 i3))
      have c4 := HM.out.at_.c4
      rw [HS.out.begun] at c4
      clear hc hcm htv hs hxl hxf hx1 hx2 hcap hturn
      cases hb : a1.begun with
      | false =>
        rw [hb] at c4
        go_upto_region 4 with fail
        clear c3 ce c4 e1 i2 i3
        have HC1 := Lib.hid HM.out.at_.c1
        obtain ⟨zl, hzl⟩ : ∃ u, u = zs.getD m 0 := ⟨_, rfl⟩
        have HZM := Lib.hid (show wr.cell? ⟨zb, zo + m, none⟩ = some (.int .i64 zl) from by rw [hzl]; exact ints_at HM.out.at_.zs HML.out.2.1)
        have HZL := Lib.hid hzl
        clear hzl
        have HCRED := Lib.hid (show a1.cred q f = s1.f (f : Int) + q.quanta f from by rw [HS.out.cr f HK.out]; unfold RndS.cred; rw [hb]; rfl)
        have HWC := Lib.hid (show wrap64 (s1.f (f : Int) + q.quanta f) = a1.cred q f from by have h1 := HCB.out; rw [← HCRED.out]; unfold wrap64; omega)
        refine wp_region_gg (n := 12) [Fg.eq (.pointer (some ⟨p, 0, none⟩)), Fg.eq (.pointer (some ⟨p, 0, none⟩)), Fg.eq (.pointer (some ⟨p, 1, none⟩)), Fg.eq (.slice (some ⟨zb, zo, none⟩) (m + 1) zc), Fg.eq (.pointer (some ⟨p, 0, none⟩)), Fg.eq (.pointer (some ⟨p, 0, none⟩)), Fg.eq (.pointer (some ⟨p, 1, none⟩)), Fg.eq (.slice (some ⟨zb, zo, none⟩) (m + 1) zc), Fg.eq (.int .i64 (((m + 1 : Nat) : Int) : Int)), Fg.eq (.int .i64 ((m : Int))), Fg.eq (.pointer (some ⟨zb, zo + m, none⟩)), Fg.eq (.int .i64 zl)] [30, 31, 32, 33, 34, 35, 36, 37, 38, 39, 40, 41] (by kernel_rfl) (by kernel_rfl) (by kernel_rfl) ?_ ?_
        · intro L i o' ac w1 hi ho hA
          have hgr : Gr wr w1 := (Gr.refl wr).drew.trans hA.gr
          match i, hi with
          | 0, _ =>
            obtain rfl := Option.some.inj ho
            exact gg_plain rfl (gstep_val (q_move rfl (show ac.eval (.tmp 0) = .pointer (some ⟨p, 0, none⟩) from hA.other 0 (by decide))) rfl)
          | 1, _ =>
            obtain rfl := Option.some.inj ho
            exact gg_plain rfl (gstep_val (q_nil rfl (hA.fact 0 (hA.dep 0 (by kernel_rfl) (by decide)))) rfl)
          | 2, _ =>
            obtain rfl := Option.some.inj ho
            exact gg_plain rfl (gstep_val (rrt_fa_millraceref_Rounds_1 rfl (hA.fact 1 (hA.dep 1 (by kernel_rfl) (by decide)))) rfl)
          | 3, _ =>
            obtain rfl := Option.some.inj ho
            exact gg_plain rfl (gstep_val (rrt_loadS___int rfl (hA.fact 2 (hA.dep 2 (by kernel_rfl) (by decide))) (hgr.cell HC1.out)) rfl)
          | 4, _ =>
            obtain rfl := Option.some.inj ho
            exact gg_plain rfl (gstep_val (q_move rfl (show ac.eval (.tmp 0) = .pointer (some ⟨p, 0, none⟩) from hA.other 0 (by decide))) rfl)
          | 5, _ =>
            obtain rfl := Option.some.inj ho
            exact gg_plain rfl (gstep_val (q_nil rfl (hA.fact 4 (hA.dep 4 (by kernel_rfl) (by decide)))) rfl)
          | 6, _ =>
            obtain rfl := Option.some.inj ho
            exact gg_plain rfl (gstep_val (rrt_fa_millraceref_Rounds_1 rfl (hA.fact 5 (hA.dep 5 (by kernel_rfl) (by decide)))) rfl)
          | 7, _ =>
            obtain rfl := Option.some.inj ho
            exact gg_plain rfl (gstep_val (rrt_loadS___int rfl (hA.fact 6 (hA.dep 6 (by kernel_rfl) (by decide))) (hgr.cell HC1.out)) rfl)
          | 8, _ =>
            obtain rfl := Option.some.inj ho
            exact gg_plain rfl (gstep_val (rrt_len___int rfl (hA.fact 7 (hA.dep 7 (by kernel_rfl) (by decide)))) rfl)
          | 9, _ =>
            obtain rfl := Option.some.inj ho
            exact gg_plain rfl (gstep_val (rrt_sub rfl (hA.fact 8 (hA.dep 8 (by kernel_rfl) (by decide))) rfl (DM.out)) rfl)
          | 10, _ =>
            obtain rfl := Option.some.inj ho
            exact gg_plain rfl (gstep_val (rrt_idxs___int rfl (hA.fact 3 (hA.dep 3 (by kernel_rfl) (by decide))) (hA.fact 9 (hA.dep 9 (by kernel_rfl) (by decide))) (Nat.lt_succ_self m)) rfl)
          | 11, _ =>
            obtain rfl := Option.some.inj ho
            exact gg_plain rfl (gstep_val (q_loadI rfl (hA.fact 10 (hA.dep 10 (by kernel_rfl) (by decide))) (hgr.cell HZM.out)) rfl)
          | k + 12, hk => exact absurd (show k + 12 < 12 from hk) (by omega)
        · intro vz wa hg5 hv
          have HGX := Lib.hid ((Gr.refl wr).drew.trans hg5)
          have v41 : vz 11 = .int .i64 zl := hv 11 (by omega)
          clear hv hg5
          simp only [putN, List.drop_succ_cons, List.drop_zero, List.getElem?_cons_succ, List.getElem?_cons_zero]
          generalize vz 11 = z41 at *
          subst v41
          generalize vz 0 = z30 at *
          generalize vz 1 = z31 at *
          generalize vz 2 = z32 at *
          generalize vz 3 = z33 at *
          generalize vz 4 = z34 at *
          generalize vz 5 = z35 at *
          generalize vz 6 = z36 at *
          generalize vz 7 = z37 at *
          generalize vz 8 = z38 at *
          generalize vz 9 = z39 at *
          generalize vz 10 = z40 at *
          have HM2 := Lib.hid (HM.out.gr HGX.out)
          have HZ2 := Lib.hid (HZ.out.gr HGX.out)
          clear HM HZ HGX HC1 HZM
          by_cases hfl : f < m + 1
          · have i5 : (f : Int) < ((m + 1 : Nat) : Int) := by omega
            have i6 : (0 : Int) ≤ (f : Int) := by omega
            have HQF := Lib.hid (show zs.getD f 0 = q.quanta f from by rw [HQM.out f, Nat.min_eq_left (by omega)])
            have c1 := HM2.out.at_.c1
            have cz := ints_at HM2.out.at_.zs (show f < zs.length by have := HML.out; omega)
            rw [HQF.out] at cz
            go_upto_region 7 with fail
            clear c1 cz i5 i6 hfl
            have c5 := HM2.out.at_.c5
            have HMP := Lib.hid HM2.out.at_.map
            go_upto_region 8 with (first
              | (at_lookup; refine wpList_look_mapI (by rfl) _ _ (by rfl) mb s1.mn s1.f s1.g (by rfl) HMP.out (f : Int) (by rfl) HBD.out ?_)
              | (at_mapUpdate; rw [HWC.out]; refine wpList_set_mapI (by rfl) _ _ _ (by rfl) mb s1.mn s1.f s1.g (by rfl) HMP.out (by have := HMN.out; omega) (f : Int) (a1.cred q f) (by rfl) (by rfl) HBD.out (by have := HCB.out; unfold Bd; omega) ?_; intro w3 _ hmp hsv; have HM3 := Lib.hid (HM2.out.setM hsv (f : Int) (a1.cred q f) s1.mn (hmp HGF.out)); have HZ3 := Lib.hid (HZ2.out.sav hsv (fun e => HM2.out.nin (r := rb) (by simp) (.inr (.inl e)))); clear hmp hsv))
            clear c5 HMP HM2 HZ2
            have HV := Lib.hid (show MidR s1 ((s1.setM (f : Int) (a1.cred q f) s1.mn).setB true) f (a1.cred q f) from ⟨rfl, rfl, rfl, rfl, rfl, fI_at _ _ _, fun j _ hj => fI_ne _ _ (by omega), fun j hj => fI_keep hj⟩)
            generalize s1.setM (f : Int) (a1.cred q f) s1.mn = s3 at *
            clear hb
            have c4 := HM3.out.at_.c4
            have f4 := HM3.out.at_.free 4
            go_upto_region 9 with fail
            have HM4 := Lib.hid (HM3.out.setB true)
            have HZ4 := Lib.hid (HZ3.out.sav (.set p 4 (.bool true)) (fun e => HM3.out.nin (r := rb) (by simp) (.inl e)))
            generalize w3.setCell ⟨p, 4, none⟩ (.bool true) = w4 at *
            generalize s3.setB true = s4 at *
            clear c4 f4 HM3 HZ3
            have HOF := Lib.hid (fun u (hu : RRC u N0 p mb q.room (.slice (some ⟨zb, zo, none⟩) (m + 1) zc) zs s4) => hu.of_any (by rw [HV.out.l]; have := HLN.out; omega) f)
            have HL4 := Lib.hid (show ofF s4.l f = x :: sx from by rw [HV.out.l]; exact HLL.out)
            go_upto_region 10 with (go_at_call 115; refine (HOF.out _ HM4.out.at_).mono ?_; rintro e w5 ⟨rr, rfl, hrow, hg5, _⟩; rw [HL4.out] at hrow; obtain ⟨ra, rc, rfl, _, _, hce⟩ := hrow.any; obtain ⟨b, o, rfl, hcell⟩ := hce.out (by simp); have hel := hcell 0 (by simp); simp only [Nat.zero_mul, Nat.add_zero, List.getD_cons_zero] at hel; have HM5 := Lib.hid (HM4.out.gr hg5); have HZ5 := Lib.hid (HZ4.out.gr hg5); have j0 : (0 : Int) < ((x :: sx).length : Int) := (by rw [List.length_cons]; omega); obtain ⟨x0, x1, x2, x3, x4, x5⟩ := hel; clear hce hcell hrow hg5)
            clear x0 x1 x2 x3 x4 x5 j0
            obtain ⟨w6, hw6⟩ : ∃ u, u = w5.alloc (.cells #[.int .i64 x.t, .int .i64 x.len, .int .i64 x.flow, .int .i64 x.band, .int .i64 x.mark, .int .i64 x.n] 108) := ⟨_, rfl⟩
            obtain ⟨xb, hxb⟩ : ∃ u, u = w5.heap.size := ⟨_, rfl⟩
            have HX6 : Hid (HelAt w6 xb 0 x) := Lib.hid (by rw [hw6]; exact held_new w5 x hxb)
            have HG6 : Hid (Gr w5 w6) := Lib.hid (by rw [hw6]; exact (Gr.refl _).alloc _)
            have HM6 := Lib.hid (HM5.out.res_add HG6.out (show w5.heap.size ≤ xb by omega) (cell_lt HX6.out.c0))
            have HZ6 := Lib.hid (HZ5.out.gr HG6.out)
            rw [← hw6, ← hxb]
            clear hw6 hxb HM4 HM5 HZ4 HZ5 HG6 HL4
            have HXC := Lib.hid (show w6.cell? ⟨xb, 1, none⟩ = some (.int .i64 x.len) from by have := HX6.out.c1; rw [Nat.zero_add] at this; exact this)
            have HC5 := Lib.hid HM6.out.at_.c5
            have HLK := Lib.hid (fun u (g : Gr w6 u) => (show (Instr.lookup 82 (.map (some mb)) (.int .i64 (f : Int)) false).run Tryd.prog u = .ok (.int .i64 (a1.cred q f)) u from by rw [← HV.out.at_]; exact (HM6.out.at_.map.gr g).look HBD.out))
            by_cases hc : a1.cred q f < x.len
            · have CB := Lib.hid (decide_eq_false (show ¬ x.len ≤ a1.cred q f by omega))
              have HPASS := Lib.hid (HO.out.pass HQ.out HT1.out HS1.out hc)
              have HRN := Lib.hid (show takeR q g' (a1.pass f r (a1.cred q f)) = R from by rw [← HRR.out, takeR_pass HT1.out HS1.out hc])
              clear hc
              refine wp_region_gg (n := 9) [Fg.eq (.pointer (some ⟨xb, 0, none⟩)), Fg.eq (.pointer (some ⟨xb, 1, none⟩)), Fg.eq (.int .i64 x.len), Fg.eq (.pointer (some ⟨p, 0, none⟩)), Fg.eq (.pointer (some ⟨p, 0, none⟩)), Fg.eq (.pointer (some ⟨p, 5, none⟩)), Fg.eq (.map (some mb)), Fg.eq (.int .i64 (f : Int)), Fg.eq (.int .i64 (a1.cred q f))] [72, 73, 74, 75, 76, 77, 78, 79, 80] (by kernel_rfl) (by kernel_rfl) (by kernel_rfl) ?_ ?_
              · intro L i o' ac w1 hi ho hA
                have hgr : Gr w6 w1 := (Gr.refl w6).drew.trans hA.gr
                match i, hi with
                | 0, _ =>
                  obtain rfl := Option.some.inj ho
                  exact gg_plain rfl (gstep_val (rrt_fa_millraceref_Pack_0 rfl (show ac.eval (.tmp 9) = .pointer (some ⟨xb, 0, none⟩) from hA.other 9 (by decide))) rfl)
                | 1, _ =>
                  obtain rfl := Option.some.inj ho
                  exact gg_plain rfl (gstep_val (rrt_fa_api_Item_1 rfl (hA.fact 0 (hA.dep 0 (by kernel_rfl) (by decide)))) rfl)
                | 2, _ =>
                  obtain rfl := Option.some.inj ho
                  exact gg_plain rfl (gstep_val (q_loadI rfl (hA.fact 1 (hA.dep 1 (by kernel_rfl) (by decide))) (hgr.cell HXC.out)) rfl)
                | 3, _ =>
                  obtain rfl := Option.some.inj ho
                  exact gg_plain rfl (gstep_val (q_move rfl (show ac.eval (.tmp 0) = .pointer (some ⟨p, 0, none⟩) from hA.other 0 (by decide))) rfl)
                | 4, _ =>
                  obtain rfl := Option.some.inj ho
                  exact gg_plain rfl (gstep_val (q_nil rfl (hA.fact 3 (hA.dep 3 (by kernel_rfl) (by decide)))) rfl)
                | 5, _ =>
                  obtain rfl := Option.some.inj ho
                  exact gg_plain rfl (gstep_val (rrt_fa_millraceref_Rounds_5 rfl (hA.fact 4 (hA.dep 4 (by kernel_rfl) (by decide)))) rfl)
                | 6, _ =>
                  obtain rfl := Option.some.inj ho
                  exact gg_plain rfl (gstep_val (q_loadM rfl (hA.fact 5 (hA.dep 5 (by kernel_rfl) (by decide))) (hgr.cell HC5.out)) rfl)
                | 7, _ =>
                  obtain rfl := Option.some.inj ho
                  exact gg_plain rfl (gstep_val (q_move rfl (show ac.eval (.tmp 7) = .int .i64 (f : Int) from hA.other 7 (by decide))) rfl)
                | 8, _ =>
                  obtain rfl := Option.some.inj ho
                  exact gg_plain rfl (gstep_val (rrt_look rfl (hA.fact 6 (hA.dep 6 (by kernel_rfl) (by decide))) (hA.fact 7 (hA.dep 7 (by kernel_rfl) (by decide))) (HLK.out _ hgr)) rfl)
                | k + 9, hk => exact absurd (show k + 9 < 9 from hk) (by omega)
              · intro vz wc hg5 hv
                have HGY := Lib.hid ((Gr.refl w6).drew.trans hg5)
                have v74 : vz 2 = .int .i64 x.len := hv 2 (by omega)
                have v80 : vz 8 = .int .i64 (a1.cred q f) := hv 8 (by omega)
                clear hv hg5
                simp only [putN, List.drop_succ_cons, List.drop_zero, List.getElem?_cons_succ, List.getElem?_cons_zero]
                generalize vz 2 = z74 at *
                subst v74
                generalize vz 8 = z80 at *
                subst v80
                generalize vz 0 = z72 at *
                generalize vz 1 = z73 at *
                generalize vz 3 = z75 at *
                generalize vz 4 = z76 at *
                generalize vz 5 = z77 at *
                generalize vz 6 = z78 at *
                generalize vz 7 = z79 at *
                have hroom := of_decide_eq_false CB.out
                have HM7 := Lib.hid (HM6.out.gr HGY.out)
                have HZ7 := Lib.hid (HZ6.out.gr HGY.out)
                have HTW := Lib.hid (show IntRow wc (.slice (some ⟨tg, toff, none⟩) ((intL r).length + 1) cap) ((f : Int) :: intL r) from by rw [← HTV.out, ← HV.out.tv, ← HTU.out, ← HV.out.turn]; exact HM7.out.at_.turn)
                have c3 : wc.cell? ⟨p, 3, none⟩ = some (.slice (some ⟨tg, toff, none⟩) ((intL r).length + 1) cap) := by rw [← HTV.out, ← HV.out.tv]; exact HM7.out.at_.c3
                have HTC := Lib.hid (fun u (g : Gr wc u) => And.intro (g.cell c3) (And.intro ((g.frozen (p := ⟨p, 3, none⟩) HM7.out.at_.lt).trans (HM7.out.at_.free 3)) (And.intro (g.cell HM7.out.at_.c4) ((g.frozen (p := ⟨p, 4, none⟩) HM7.out.at_.lt).trans (HM7.out.at_.free 4)))))
                obtain ⟨e1, i2, i3⟩ := HE.out
                have hp0 : p < wc.heap.size := HM7.out.at_.lt
                go_wp2_with (first
                  | (at_builtin; have _ := tok8; refine wpList_append_intR rfl _ _ _ (by rfl) (by kernel_rfl) _ (intL r) (f : Int) (by rfl) (HR8.out.gr ((Gr.refl w8).alloc (.cells #[.int .i64 (f : Int)] 3))) ⟨w8.heap.size, 0, none⟩ 1 (by rfl) (by simp) (by have := HRL.out; omega) ?_; intro v9 w9 hrow9 hgr9 hown9; have hg9 : Gr wc w9 := (HG8.out.trans ((Gr.refl w8).alloc (.cells #[.int .i64 (f : Int)] 3))).grown hgr9 (fun g hg => HO8.out g hg); have HM9 := Lib.hid (HM7.out.setT (.of_gr hg9) hrow9 (fun g e => .inr ((hown9 g e).elim (HO8.out g) (fun e => by have := HG8.out.size; simp at e; omega)))); have HZ9 := Lib.hid ((HZ7.out.gr hg9).sav (.set p 3 v9) (fun e => HM7.out.nin (r := rb) (by simp) (.inl e))); obtain ⟨d3, g3, d4, g4⟩ := HTC.out _ hg9; obtain ⟨a9, c9, rfl⟩ := hrow9.shape; clear hrow9 hgr9 hown9 hg9; rw [show (intL r ++ [(f : Int)]).length = (intL r).length + 1 from by simp] at HM9 HZ9)
                  | (at_builtin; refine wpList_append_intE rfl _ _ (by rfl) (by rfl) wc.heap.size (by rfl) (IntRow.empty rfl) _ (intL r) (by rfl) (by obtain ⟨t, ht, hrow⟩ := IntRow.rest (HTW.out.gr ((Gr.refl wc).alloc (.cells #[] 3))); rw [ht]; exact hrow.ints) (by have := HRL.out; omega) ?_; intro v8 w8 hrow8 hgr8 hown8; have HG8 := Lib.hid (show Gr wc w8 from ((Gr.refl wc).alloc (.cells #[] 3)).trans hgr8); have HR8 := Lib.hid hrow8; have HO8 := Lib.hid (show ∀ g, v8.ownBlock = some g → wc.heap.size ≤ g from fun g hg => (hown8 g hg).elim (fun e => Nat.le_of_eq e) (fun e => by simp at e; omega)); obtain ⟨a8, c8, rfl⟩ := hrow8.shape; clear hrow8 hgr8 hown8; have tok8 := trivial))
                all_goals
                  clear HM6 HZ6 HM7 HZ7 HTW HTC hroom e1 i2 i3 HX6 HXC HC5 HLK HGY
                  have HSH := Lib.hid (show RShows ((s4.setT (.slice a9 ((intL r).length + 1) c9) (intL r ++ [(f : Int)])).setB false) (a1.pass f r (a1.cred q f)) n from HS.out.pass HT1.out HV.out rfl rfl rfl rfl rfl rfl)
                  go_roundg g'
                  case measure => omega
                  case rel => exact ⟨a1.pass f r (a1.cred q f), _, HRN, Lib.hid HPASS.out.1, Lib.hid (by have h1 := HPASS.out.2; have h2 := HF.out; omega), HSH, Lib.hid ((HM9.out.setB false).less (fun g e => by simp at e; simp [e])), Lib.hid (HZ9.out.sav (.set p 4 (.bool false)) (fun e => HM9.out.nin (r := rb) (by simp) (.inl e)))⟩
            · have CB := Lib.hid (decide_eq_true (show x.len ≤ a1.cred q f by omega))
              have HGONE := Lib.hid (HO.out.gone HQ.out HT1.out HS1.out hc)
              have HTT := Lib.hid (show R = (a1.gone f r x sx (a1.cred q f), x, [], true) from by rw [← HRR.out, takeR_gone HT1.out HS1.out hc])
              clear hc
              refine wp_region_gg (n := 9) [Fg.eq (.pointer (some ⟨xb, 0, none⟩)), Fg.eq (.pointer (some ⟨xb, 1, none⟩)), Fg.eq (.int .i64 x.len), Fg.eq (.pointer (some ⟨p, 0, none⟩)), Fg.eq (.pointer (some ⟨p, 0, none⟩)), Fg.eq (.pointer (some ⟨p, 5, none⟩)), Fg.eq (.map (some mb)), Fg.eq (.int .i64 (f : Int)), Fg.eq (.int .i64 (a1.cred q f))] [72, 73, 74, 75, 76, 77, 78, 79, 80] (by kernel_rfl) (by kernel_rfl) (by kernel_rfl) ?_ ?_
              · intro L i o' ac w1 hi ho hA
                have hgr : Gr w6 w1 := (Gr.refl w6).drew.trans hA.gr
                match i, hi with
                | 0, _ =>
                  obtain rfl := Option.some.inj ho
                  exact gg_plain rfl (gstep_val (rrt_fa_millraceref_Pack_0 rfl (show ac.eval (.tmp 9) = .pointer (some ⟨xb, 0, none⟩) from hA.other 9 (by decide))) rfl)
                | 1, _ =>
                  obtain rfl := Option.some.inj ho
                  exact gg_plain rfl (gstep_val (rrt_fa_api_Item_1 rfl (hA.fact 0 (hA.dep 0 (by kernel_rfl) (by decide)))) rfl)
                | 2, _ =>
                  obtain rfl := Option.some.inj ho
                  exact gg_plain rfl (gstep_val (q_loadI rfl (hA.fact 1 (hA.dep 1 (by kernel_rfl) (by decide))) (hgr.cell HXC.out)) rfl)
                | 3, _ =>
                  obtain rfl := Option.some.inj ho
                  exact gg_plain rfl (gstep_val (q_move rfl (show ac.eval (.tmp 0) = .pointer (some ⟨p, 0, none⟩) from hA.other 0 (by decide))) rfl)
                | 4, _ =>
                  obtain rfl := Option.some.inj ho
                  exact gg_plain rfl (gstep_val (q_nil rfl (hA.fact 3 (hA.dep 3 (by kernel_rfl) (by decide)))) rfl)
                | 5, _ =>
                  obtain rfl := Option.some.inj ho
                  exact gg_plain rfl (gstep_val (rrt_fa_millraceref_Rounds_5 rfl (hA.fact 4 (hA.dep 4 (by kernel_rfl) (by decide)))) rfl)
                | 6, _ =>
                  obtain rfl := Option.some.inj ho
                  exact gg_plain rfl (gstep_val (q_loadM rfl (hA.fact 5 (hA.dep 5 (by kernel_rfl) (by decide))) (hgr.cell HC5.out)) rfl)
                | 7, _ =>
                  obtain rfl := Option.some.inj ho
                  exact gg_plain rfl (gstep_val (q_move rfl (show ac.eval (.tmp 7) = .int .i64 (f : Int) from hA.other 7 (by decide))) rfl)
                | 8, _ =>
                  obtain rfl := Option.some.inj ho
                  exact gg_plain rfl (gstep_val (rrt_look rfl (hA.fact 6 (hA.dep 6 (by kernel_rfl) (by decide))) (hA.fact 7 (hA.dep 7 (by kernel_rfl) (by decide))) (HLK.out _ hgr)) rfl)
                | k + 9, hk => exact absurd (show k + 9 < 9 from hk) (by omega)
              · intro vz wc hg5 hv
                have HGY := Lib.hid ((Gr.refl w6).drew.trans hg5)
                have v74 : vz 2 = .int .i64 x.len := hv 2 (by omega)
                have v80 : vz 8 = .int .i64 (a1.cred q f) := hv 8 (by omega)
                clear hv hg5
                simp only [putN, List.drop_succ_cons, List.drop_zero, List.getElem?_cons_succ, List.getElem?_cons_zero]
                generalize vz 2 = z74 at *
                subst v74
                generalize vz 8 = z80 at *
                subst v80
                generalize vz 0 = z72 at *
                generalize vz 1 = z73 at *
                generalize vz 3 = z75 at *
                generalize vz 4 = z76 at *
                generalize vz 5 = z77 at *
                generalize vz 6 = z78 at *
                generalize vz 7 = z79 at *
                have hroom := of_decide_eq_true CB.out
                have HM7 := Lib.hid (HM6.out.gr HGY.out)
                have HZ7 := Lib.hid (HZ6.out.gr HGY.out)
                have HX7 := Lib.hid (HX6.out.gr HGY.out)
                go_upto_region 11 with fail
                clear hroom HM6 HZ6 HX6 HXC HC5 HLK HGY
                have HXC := Lib.hid (show wc.cell? ⟨xb, 1, none⟩ = some (.int .i64 x.len) from by have := HX7.out.c1; rw [Nat.zero_add] at this; exact this)
                have HC5 := Lib.hid HM7.out.at_.c5
                have HLK := Lib.hid (fun u (g : Gr wc u) => (show (Instr.lookup 82 (.map (some mb)) (.int .i64 (f : Int)) false).run Tryd.prog u = .ok (.int .i64 (a1.cred q f)) u from by rw [← HV.out.at_]; exact (HM7.out.at_.map.gr g).look HBD.out))
                have DS := Lib.hid (show IntKind.i64.wrap (a1.cred q f - x.len) = a1.cred q f - x.len from by have h1 := HCB.out; have h2 := HXL.out; rw [IntKind.wrap_i64]; omega)
                refine wp_region_gg (n := 10) [Fg.eq (.pointer (some ⟨p, 0, none⟩)), Fg.eq (.pointer (some ⟨p, 0, none⟩)), Fg.eq (.pointer (some ⟨p, 5, none⟩)), Fg.eq (.map (some mb)), Fg.eq (.int .i64 (f : Int)), Fg.eq (.int .i64 (a1.cred q f)), Fg.eq (.pointer (some ⟨xb, 0, none⟩)), Fg.eq (.pointer (some ⟨xb, 1, none⟩)), Fg.eq (.int .i64 x.len), Fg.eq (.int .i64 (a1.cred q f - x.len))] [82, 83, 84, 85, 86, 87, 88, 89, 90, 91] (by kernel_rfl) (by kernel_rfl) (by kernel_rfl) ?_ ?_
                · intro L i o' ac w1 hi ho hA
                  have hgr : Gr wc w1 := (Gr.refl wc).drew.trans hA.gr
                  match i, hi with
                  | 0, _ =>
                    obtain rfl := Option.some.inj ho
                    exact gg_plain rfl (gstep_val (q_move rfl (show ac.eval (.tmp 0) = .pointer (some ⟨p, 0, none⟩) from hA.other 0 (by decide))) rfl)
                  | 1, _ =>
                    obtain rfl := Option.some.inj ho
                    exact gg_plain rfl (gstep_val (q_nil rfl (hA.fact 0 (hA.dep 0 (by kernel_rfl) (by decide)))) rfl)
                  | 2, _ =>
                    obtain rfl := Option.some.inj ho
                    exact gg_plain rfl (gstep_val (rrt_fa_millraceref_Rounds_5 rfl (hA.fact 1 (hA.dep 1 (by kernel_rfl) (by decide)))) rfl)
                  | 3, _ =>
                    obtain rfl := Option.some.inj ho
                    exact gg_plain rfl (gstep_val (q_loadM rfl (hA.fact 2 (hA.dep 2 (by kernel_rfl) (by decide))) (hgr.cell HC5.out)) rfl)
                  | 4, _ =>
                    obtain rfl := Option.some.inj ho
                    exact gg_plain rfl (gstep_val (q_move rfl (show ac.eval (.tmp 7) = .int .i64 (f : Int) from hA.other 7 (by decide))) rfl)
                  | 5, _ =>
                    obtain rfl := Option.some.inj ho
                    exact gg_plain rfl (gstep_val (rrt_look rfl (hA.fact 3 (hA.dep 3 (by kernel_rfl) (by decide))) (hA.fact 4 (hA.dep 4 (by kernel_rfl) (by decide))) (HLK.out _ hgr)) rfl)
                  | 6, _ =>
                    obtain rfl := Option.some.inj ho
                    exact gg_plain rfl (gstep_val (rrt_fa_millraceref_Pack_0 rfl (show ac.eval (.tmp 9) = .pointer (some ⟨xb, 0, none⟩) from hA.other 9 (by decide))) rfl)
                  | 7, _ =>
                    obtain rfl := Option.some.inj ho
                    exact gg_plain rfl (gstep_val (rrt_fa_api_Item_1 rfl (hA.fact 6 (hA.dep 6 (by kernel_rfl) (by decide)))) rfl)
                  | 8, _ =>
                    obtain rfl := Option.some.inj ho
                    exact gg_plain rfl (gstep_val (q_loadI rfl (hA.fact 7 (hA.dep 7 (by kernel_rfl) (by decide))) (hgr.cell HXC.out)) rfl)
                  | 9, _ =>
                    obtain rfl := Option.some.inj ho
                    exact gg_plain rfl (gstep_val (rrt_sub rfl (hA.fact 5 (hA.dep 5 (by kernel_rfl) (by decide))) (hA.fact 8 (hA.dep 8 (by kernel_rfl) (by decide))) (DS.out)) rfl)
                  | k + 10, hk => exact absurd (show k + 10 < 10 from hk) (by omega)
                · intro vz we hg5 hv
                  have HGU := Lib.hid ((Gr.refl wc).drew.trans hg5)
                  have v85 : vz 3 = .map (some mb) := hv 3 (by omega)
                  have v86 : vz 4 = .int .i64 (f : Int) := hv 4 (by omega)
                  have v91 : vz 9 = .int .i64 (a1.cred q f - x.len) := hv 9 (by omega)
                  clear hv hg5
                  simp only [putN, List.drop_succ_cons, List.drop_zero, List.getElem?_cons_succ, List.getElem?_cons_zero]
                  generalize vz 3 = z85 at *
                  subst v85
                  generalize vz 4 = z86 at *
                  subst v86
                  generalize vz 9 = z91 at *
                  subst v91
                  generalize vz 0 = z82 at *
                  generalize vz 1 = z83 at *
                  generalize vz 2 = z84 at *
                  generalize vz 5 = z87 at *
                  generalize vz 6 = z88 at *
                  generalize vz 7 = z89 at *
                  generalize vz 8 = z90 at *
                  have HM8 := Lib.hid (HM7.out.gr HGU.out)
                  have HZ8 := Lib.hid (HZ7.out.gr HGU.out)
                  have HX8 := Lib.hid (HX7.out.gr HGU.out)
                  have HMP := Lib.hid (show MapI we mb s4.mn s4.f s4.g from HM8.out.at_.map)
                  go_upto_region 12 with (at_mapUpdate; go_loud (simp only [Act.put, List.setIfInBounds_toArray, List.set_cons_succ, List.set_cons_zero]); refine wpList_set_mapI (by rfl) _ _ _ (by rfl) mb s4.mn s4.f s4.g (by rfl) HMP.out (by rw [HV.out.mn]; have := HMN.out; omega) (f : Int) (a1.cred q f - x.len) (by rfl) (by rfl) HBD.out (by have h1 := HCB.out; have h2 := HXL.out; unfold Bd; omega) ?_; intro w9 _ hmp hsv; have HM9 := Lib.hid (HM8.out.setM hsv (f : Int) (a1.cred q f - x.len) s4.mn (hmp (HV.out.g f HGF.out))); have HZ9 := Lib.hid (HZ8.out.sav hsv (fun e => HM8.out.nin (r := rb) (by simp) (.inr (.inl e)))); have HX9 := Lib.hid (HX8.out.sav hsv (fun e => HM8.out.nin (r := xb) (by simp) (.inr (.inl e)))); clear hmp hsv)
                  clear HM7 HZ7 HX7 HM8 HZ8 HX8 HMP HXC HC5 HLK HGU
                  have HV9 := Lib.hid (show (s4.setM (f : Int) (a1.cred q f - x.len) s4.mn).l = s1.l ∧ (s4.setM (f : Int) (a1.cred q f - x.len) s4.mn).tv = s1.tv ∧ (s4.setM (f : Int) (a1.cred q f - x.len) s4.mn).turn = s1.turn ∧ (s4.setM (f : Int) (a1.cred q f - x.len) s4.mn).begun = true ∧ (s4.setM (f : Int) (a1.cred q f - x.len) s4.mn).f = fI s4.f (f : Int) (a1.cred q f - x.len) ∧ (s4.setM (f : Int) (a1.cred q f - x.len) s4.mn).g = fI s4.g (f : Int) true ∧ (s4.setM (f : Int) (a1.cred q f - x.len) s4.mn).mn = s4.mn from ⟨HV.out.l, HV.out.tv, HV.out.turn, HV.out.begun, rfl, rfl, rfl⟩)
                  generalize s4.setM (f : Int) (a1.cred q f - x.len) s4.mn = s9 at *
                  obtain ⟨la, lc, hlv, _, _, hce⟩ := (show RowH 108 w9 s9.lv s1.l from by rw [← HV9.out.1]; exact HM9.out.at_.row).any
                  have HCE := Lib.hid hce
                  have c2 := HM9.out.at_.c2
                  rw [hlv] at c2
                  clear hce hlv
                  go_wp2
                  clear c2
                  go_loopw [10, 97] (fun s10 s97 wl => ∃ (i : Nat), i ≤ s1.l.length ∧ s97 = .int .i64 (i : Int) ∧ Hid (Gr w9 wl ∧ RowH 108 wl s10 (outN (s1.l.take i) x.n) ∧ ∀ g, s10.ownBlock = some g → w9.heap.size ≤ g)) (fun _ s _ => s1.l.length - (intOf s).toNat)
                  case atStart => exact ⟨0, Nat.zero_le _, rfl, Lib.hid ⟨Gr.refl _, RowH.nil _ _, fun g hg => by cases hg⟩⟩
                  case round =>
                    obtain ⟨i, hi, rfl, HKL⟩ := hrel
                    by_cases hlt : i < s1.l.length
                    · have i0 : (0 : Int) ≤ (i : Int) := by omega
                      have i1 : (i : Int) < (s1.l.length : Int) := by omega
                      obtain ⟨lb, lo, rfl, hcell⟩ := HCE.out (by omega)
                      obtain ⟨z, hz⟩ : ∃ z, z = s1.l.getD i .zero := ⟨_, rfl⟩
                      have HTK := Lib.hid (show outN (s1.l.take (i + 1)) x.n = outN (s1.l.take i) x.n ++ (if z.n ≠ x.n then [z] else []) from by
                        rw [show (if z.n ≠ x.n then [z] else []) = outN [z] x.n from by unfold outN; by_cases e : z.n = x.n <;> simp [e], ← outN_app2, hz, List.getD_eq_getElem?_getD, List.getElem?_eq_getElem hlt]
                        rw [List.take_add_one, List.getElem?_eq_getElem hlt]
                        rfl)
                      have HLE := Lib.hid (show (outN (s1.l.take i) x.n).length ≤ 300 from by have h1 := outN_le2 (s1.l.take i) x.n; have h2 := HLN.out; rw [List.length_take] at h1; omega)
                      have HWI := Lib.hid (show wrap64 ((i : Int) + 1) = (i : Int) + 1 from by have := HLN.out; unfold wrap64; omega)
                      have hel := (hcell i hlt).gr HKL.out.1
                      rw [← hz] at hel
                      clear hcell hz
                      obtain ⟨c0, c1, c2, c3, c4, c5⟩ := hel
                      go_upto_region 16 with fail
                      clear c0 c1 c2 c3 c4 c5
                      obtain ⟨w1, hw1⟩ : ∃ u, u = wr.alloc (.cells #[.int .i64 z.t, .int .i64 z.len, .int .i64 z.flow, .int .i64 z.band, .int .i64 z.mark, .int .i64 z.n] 108) := ⟨_, rfl⟩
                      obtain ⟨eb, heb⟩ : ∃ u, u = wr.heap.size := ⟨_, rfl⟩
                      have HX1 : Hid (HelAt w1 eb 0 z) := Lib.hid (by rw [hw1]; exact held_new wr z heb)
                      have HK1 : Hid (Gr w9 w1 ∧ RowH 108 w1 u10 (outN (s1.l.take i) x.n)) := Lib.hid (by rw [hw1]; exact ⟨HKL.out.1.trans ((Gr.refl _).alloc _), HKL.out.2.1.gr ((Gr.refl _).alloc _)⟩)
                      rw [← hw1, ← heb]
                      clear hw1 heb
                      obtain ⟨x0, x1, x2, x3, x4, x5⟩ := HX1.out
                      have y5 := (HX9.out.gr HK1.out.1).c5
                      simp only [Nat.zero_add] at x1 x2 x3 x4 x5 y5
                      obtain ⟨oa, oc, rfl⟩ := HK1.out.2.shape
                      have HOW := Lib.hid HKL.out.2.2
                      by_cases hk : z.n = x.n
                      · rw [if_neg (by simpa using hk), List.append_nil] at HTK
                        go_wp2
                        rw [HWI.out]
                        go_roundw
                        case measure => simp [intOf]; omega
                        case rel => exact ⟨i + 1, by omega, by go_num, Lib.hid ⟨HK1.out.1, by rw [HTK.out]; exact HK1.out.2, HOW.out⟩⟩
                      · rw [if_pos hk] at HTK
                        go_wp2_with (at_builtin; refine wpList_append_rowH rfl _ _ _ (by rfl) i0' Hel.zero.val Tryd.underlying38 hi0 hz0 hz1 hz2 rfl ?c1 (by rfl) (HK1.out.2.gr ((Gr.refl _).alloc _)) ⟨w1.heap.size, 0, none⟩ 1 [z] (by rfl) (by simp) ?c3 ?c2 ?_; (case c1 => (intro u hu; exact (cells_int Hel.zero u (by simpa [Hel.val, Value.cells, Hel.cells] using hu)).2)); (case c3 => (rw [flat_one]; exact (held_new w1 z rfl).news)); (case c2 => (have h1 := HLE.out; simp; omega)); intro v4 w4' hrow hgr hown hold; have HG4 := Lib.hid (show Gr w9 w4' from (HK1.out.1.trans ((Gr.refl w1).alloc (.cells #[.int .i64 z.t, .int .i64 z.len, .int .i64 z.flow, .int .i64 z.band, .int .i64 z.mark, .int .i64 z.n] 108))).grown hgr (fun g hg => HOW.out g hg)); have HR4 := Lib.hid hrow; have HO4 := Lib.hid (show ∀ g, v4.ownBlock = some g → w9.heap.size ≤ g from fun g hg => (hown g hg).elim (HOW.out g) (fun e => Nat.le_trans (HK1.out.1.trans ((Gr.refl w1).alloc (.cells #[.int .i64 z.t, .int .i64 z.len, .int .i64 z.flow, .int .i64 z.band, .int .i64 z.mark, .int .i64 z.n] 108))).size e)); clear hrow hgr hown hold)
                        rw [HWI.out]
                        go_roundw
                        case measure => simp [intOf]; omega
                        case rel => exact ⟨i + 1, by omega, by go_num, Lib.hid ⟨HG4.out, by rw [HTK.out]; exact HR4.out, HO4.out⟩⟩
                    · obtain rfl : i = s1.l.length := by omega
                      have i1 : ¬ (s1.l.length : Int) < (s1.l.length : Int) := by omega
                      have hk9 := HKL.out
                      rw [List.take_length] at hk9
                      have HLO := Lib.hid (show outN s1.l x.n = outN a1.l x.n ∧ ofF (outN s1.l x.n) f = sx ∧ (outN s1.l x.n).length ≤ 300 from ⟨by rw [HS.out.l], by rw [HS.out.l]; exact ofF_head HO.out.nums HS1.out, Nat.le_trans (outN_le2 _ _) (by have := HLN.out; omega)⟩)
                      generalize outN s1.l x.n = LO at *
                      have HK9 := Lib.hid hk9
                      have HMG := Lib.hid (HM9.out.gr hk9.1)
                      have c2 := HMG.out.at_.c2
                      have f2 := HMG.out.at_.free 2
                      obtain ⟨oa, oc, hov⟩ := hk9.2.1.shape
                      subst hov
                      have HM10 := Lib.hid (HM9.out.setL (Sav.of_gr HK9.out.1) HK9.out.2.1 (fun g e => .inr (HK9.out.2.2 g e)))
                      have HZ10 := Lib.hid ((HZ9.out.gr HK9.out.1).sav (.set p 2 (.slice oa LO.length oc)) (fun e => HM9.out.nin (r := rb) (by simp) (.inl e)))
                      have HX10 := Lib.hid ((HX9.out.gr HK9.out.1).sav (.set p 2 (.slice oa LO.length oc)) (fun e => HM9.out.nin (r := xb) (by simp) (.inl e)))
                      clear hk9
                      go_upto_region 20 with fail
                      generalize wr.setCell ⟨p, 2, none⟩ (.slice oa LO.length oc) = w10 at *
                      have HV10 := Lib.hid (show (s9.setL (.slice oa LO.length oc) LO).l = LO ∧ (s9.setL (.slice oa LO.length oc) LO).tv = s1.tv ∧ (s9.setL (.slice oa LO.length oc) LO).turn = s1.turn ∧ (s9.setL (.slice oa LO.length oc) LO).begun = true ∧ (s9.setL (.slice oa LO.length oc) LO).f = fI s4.f (f : Int) (a1.cred q f - x.len) ∧ (s9.setL (.slice oa LO.length oc) LO).g = fI s4.g (f : Int) true ∧ (s9.setL (.slice oa LO.length oc) LO).mn = s4.mn from ⟨rfl, HV9.out.2⟩)
                      generalize s9.setL (.slice oa LO.length oc) LO = s10 at *
                      clear c2 f2 HK9 HMG HKL HM9 HZ9 HX9 HCE
                      have HOF2 := Lib.hid (fun u (hu : RRC u N0 p mb q.room (.slice (some ⟨zb, zo, none⟩) (m + 1) zc) zs s10) => hu.of_any (by rw [HV10.out.1]; exact HLO.out.2.2) f)
                      have HL10 := Lib.hid (show ofF s10.l f = sx from by rw [HV10.out.1]; exact HLO.out.2.1)
                      by_cases hs0 : sx = []
                      · have HSX := Lib.hid hs0
                        clear hs0
                        go_upto_region 21 with (go_at_call 115; refine (HOF2.out _ HM10.out.at_).mono ?_; rintro e w11 ⟨rr, rfl, hrow, hg11, _⟩; rw [HL10.out, HSX.out] at hrow; obtain ⟨ra, rc, rfl⟩ := hrow.shape; have HM11 := Lib.hid (HM10.out.gr hg11); have HZ11 := Lib.hid (HZ10.out.gr hg11); have HX11 := Lib.hid (HX10.out.gr hg11); clear hrow hg11)
                        have HTW := Lib.hid (show IntRow w11 (.slice (some ⟨tg, toff, none⟩) ((intL r).length + 1) cap) ((f : Int) :: intL r) from by rw [← HTV.out, ← HV10.out.2.1, ← HTU.out, ← HV10.out.2.2.1]; exact HM11.out.at_.turn)
                        have c3 : w11.cell? ⟨p, 3, none⟩ = some (.slice (some ⟨tg, toff, none⟩) ((intL r).length + 1) cap) := by rw [← HTV.out, ← HV10.out.2.1]; exact HM11.out.at_.c3
                        have f3 := HM11.out.at_.free 3
                        have c4 := HM11.out.at_.c4
                        have f4 := HM11.out.at_.free 4
                        obtain ⟨e1, i2, i3⟩ := HE.out
                        go_upto_region 22 with fail
                        obtain ⟨t8, ht8, hrow⟩ := IntRow.rest HTW.out
                        rw [ht8]
                        have HM12 := Lib.hid (HM11.out.setT (.refl _ w11) hrow (fun g e => .inl (by rw [HV10.out.2.1, HTV.out]; exact e)))
                        have HZ12 := Lib.hid (HZ11.out.sav (.set p 3 (.slice (some ⟨tg, t8, none⟩) (intL r).length (cap - 1))) (fun e => HM11.out.nin (r := rb) (by simp) (.inl e)))
                        have HX12 := Lib.hid (HX11.out.sav (.set p 3 (.slice (some ⟨tg, t8, none⟩) (intL r).length (cap - 1))) (fun e => HM11.out.nin (r := xb) (by simp) (.inl e)))
                        generalize w11.setCell ⟨p, 3, none⟩ (.slice (some ⟨tg, t8, none⟩) (intL r).length (cap - 1)) = w12 at *
                        have HM13 := Lib.hid (HM12.out.setB false)
                        have HZ13 := Lib.hid (HZ12.out.sav (.set p 4 (.bool false)) (fun e => HM12.out.nin (r := rb) (by simp) (.inl e)))
                        have HX13 := Lib.hid (HX12.out.sav (.set p 4 (.bool false)) (fun e => HM12.out.nin (r := xb) (by simp) (.inl e)))
                        generalize w12.setCell ⟨p, 4, none⟩ (.bool false) = w13 at *
                        clear ht8 hrow HTW c3 f3 c4 f4 e1 i2 i3 HM10 HZ10 HX10 HM11 HZ11 HX11 HM12 HZ12 HX12
                        have HSH := Lib.hid (show RShows ((s10.setT (.slice (some ⟨tg, t8, none⟩) (intL r).length (cap - 1)) (intL r)).setB false) (a1.gone f r x sx (a1.cred q f)) n from HS.out.gone HT1.out HV.out (HV10.out.1.trans HLO.out.1) (by rw [if_pos HSX.out]; rfl) (by rw [if_pos HSX.out]; rfl) HV10.out.2.2.2.2.1 HV10.out.2.2.2.2.2.1 HV10.out.2.2.2.2.2.2)
                        obtain ⟨⟨r0, r1, r2, r3, r4, r5⟩, e0, e1, e2, e3, e4, e5⟩ := HZ13.out
                        obtain ⟨x0, x1, x2, x3, x4, x5⟩ := HX13.out
                        simp only [Nat.zero_add] at x1 x2 x3 x4 x5
                        go_wp2
                        clear x0 x1 x2 x3 x4 x5
                        obtain ⟨w99, hw99⟩ : ∃ u, u = ((((((w13.setCell ⟨rb, 0, none⟩ (.int .i64 x.t)).setCell ⟨rb, 1, none⟩ (.int .i64 x.len)).setCell ⟨rb, 2, none⟩ (.int .i64 x.flow)).setCell ⟨rb, 3, none⟩ (.int .i64 x.band)).setCell ⟨rb, 4, none⟩ (.int .i64 x.mark)).setCell ⟨rb, 5, none⟩ (.int .i64 x.n)) := ⟨_, rfl⟩
                        have HR99 := Lib.hid (show HelRes w99 rb x ∧ Sav (fun g => g = rb) w13 w99 from by rw [hw99]; exact hel_set6 HZ13.out x)
                        rw [← hw99]
                        clear hw99 r0 r1 r2 r3 r4 r5 e0 e1 e2 e3 e4 e5
                        obtain ⟨⟨q0, q1, q2, q3, q4, q5⟩, _⟩ := HR99.out.1
                        refine bodyPost_ret (v := .tuple #[.agg #[.int .i64 x.t, .int .i64 x.len, .int .i64 x.flow, .int .i64 x.band, .int .i64 x.mark, .int .i64 x.n], .slice none 0 0, .bool true]) (by simp [results, Tryd.results113, go_sem, q0, q1, q2, q3, q4, q5]) rfl ?_
                        rw [HTT.out]
                        exact ⟨rfl, _, (HM13.out.off HR99.out.2 (fun g e => by simp [e])).did, HSH.out⟩
                      · have i9 : ¬ (sx.length : Int) = 0 := by have := List.length_pos_iff.2 hs0; omega
                        have HSH := Lib.hid (show RShows s10 (a1.gone f r x sx (a1.cred q f)) n from HS.out.gone HT1.out HV.out (HV10.out.1.trans HLO.out.1) (by rw [if_neg hs0, HV10.out.2.2.1, HTU.out]; rfl) (by rw [if_neg hs0]; exact HV10.out.2.2.2.1) HV10.out.2.2.2.2.1 HV10.out.2.2.2.2.2.1 HV10.out.2.2.2.2.2.2)
                        go_upto_region 22 with (go_at_call 115; refine (HOF2.out _ HM10.out.at_).mono ?_; rintro e w11 ⟨rr, rfl, hrow, hg11, _⟩; rw [HL10.out] at hrow; obtain ⟨ra, rc, rfl⟩ := hrow.shape; have HM11 := Lib.hid (HM10.out.gr hg11); have HZ11 := Lib.hid (HZ10.out.gr hg11); have HX11 := Lib.hid (HX10.out.gr hg11); clear hrow hg11)
                        obtain ⟨⟨r0, r1, r2, r3, r4, r5⟩, e0, e1, e2, e3, e4, e5⟩ := HZ11.out
                        obtain ⟨x0, x1, x2, x3, x4, x5⟩ := HX11.out
                        simp only [Nat.zero_add] at x1 x2 x3 x4 x5
                        go_wp2
                        clear x0 x1 x2 x3 x4 x5
                        obtain ⟨w99, hw99⟩ : ∃ u, u = ((((((w11.setCell ⟨rb, 0, none⟩ (.int .i64 x.t)).setCell ⟨rb, 1, none⟩ (.int .i64 x.len)).setCell ⟨rb, 2, none⟩ (.int .i64 x.flow)).setCell ⟨rb, 3, none⟩ (.int .i64 x.band)).setCell ⟨rb, 4, none⟩ (.int .i64 x.mark)).setCell ⟨rb, 5, none⟩ (.int .i64 x.n)) := ⟨_, rfl⟩
                        have HR99 := Lib.hid (show HelRes w99 rb x ∧ Sav (fun g => g = rb) w11 w99 from by rw [hw99]; exact hel_set6 HZ11.out x)
                        rw [← hw99]
                        clear hw99 r0 r1 r2 r3 r4 r5 e0 e1 e2 e3 e4 e5
                        obtain ⟨⟨q0, q1, q2, q3, q4, q5⟩, _⟩ := HR99.out.1
                        refine bodyPost_ret (v := .tuple #[.agg #[.int .i64 x.t, .int .i64 x.len, .int .i64 x.flow, .int .i64 x.band, .int .i64 x.mark, .int .i64 x.n], .slice none 0 0, .bool true]) (by simp [results, Tryd.results113, go_sem, q0, q1, q2, q3, q4, q5]) rfl ?_
                        rw [HTT.out]
                        exact ⟨rfl, _, (HM11.out.off HR99.out.2 (fun g e => by simp [e])).did, HSH.out⟩
          · have i5 : ¬ (f : Int) < ((m + 1 : Nat) : Int) := by omega
            have HQF := Lib.hid (show zl = q.quanta f from by rw [HZL.out, HQM.out f, Nat.min_eq_right (by omega)])
            have c1 := HM2.out.at_.c1
            go_upto_region 7 with fail
            rw [HQF.out]
            clear c1 i5 hfl
            have c5 := HM2.out.at_.c5
            have HMP := Lib.hid HM2.out.at_.map
            go_upto_region 8 with (first
              | (at_lookup; refine wpList_look_mapI (by rfl) _ _ (by rfl) mb s1.mn s1.f s1.g (by rfl) HMP.out (f : Int) (by rfl) HBD.out ?_)
              | (at_mapUpdate; rw [HWC.out]; refine wpList_set_mapI (by rfl) _ _ _ (by rfl) mb s1.mn s1.f s1.g (by rfl) HMP.out (by have := HMN.out; omega) (f : Int) (a1.cred q f) (by rfl) (by rfl) HBD.out (by have := HCB.out; unfold Bd; omega) ?_; intro w3 _ hmp hsv; have HM3 := Lib.hid (HM2.out.setM hsv (f : Int) (a1.cred q f) s1.mn (hmp HGF.out)); have HZ3 := Lib.hid (HZ2.out.sav hsv (fun e => HM2.out.nin (r := rb) (by simp) (.inr (.inl e)))); clear hmp hsv))
            clear c5 HMP HM2 HZ2
            have HV := Lib.hid (show MidR s1 ((s1.setM (f : Int) (a1.cred q f) s1.mn).setB true) f (a1.cred q f) from ⟨rfl, rfl, rfl, rfl, rfl, fI_at _ _ _, fun j _ hj => fI_ne _ _ (by omega), fun j hj => fI_keep hj⟩)
            generalize s1.setM (f : Int) (a1.cred q f) s1.mn = s3 at *
            clear hb
            have c4 := HM3.out.at_.c4
            have f4 := HM3.out.at_.free 4
            go_upto_region 9 with fail
            have HM4 := Lib.hid (HM3.out.setB true)
            have HZ4 := Lib.hid (HZ3.out.sav (.set p 4 (.bool true)) (fun e => HM3.out.nin (r := rb) (by simp) (.inl e)))
            generalize w3.setCell ⟨p, 4, none⟩ (.bool true) = w4 at *
            generalize s3.setB true = s4 at *
            clear c4 f4 HM3 HZ3
            have HOF := Lib.hid (fun u (hu : RRC u N0 p mb q.room (.slice (some ⟨zb, zo, none⟩) (m + 1) zc) zs s4) => hu.of_any (by rw [HV.out.l]; have := HLN.out; omega) f)
            have HL4 := Lib.hid (show ofF s4.l f = x :: sx from by rw [HV.out.l]; exact HLL.out)
            go_upto_region 10 with (go_at_call 115; refine (HOF.out _ HM4.out.at_).mono ?_; rintro e w5 ⟨rr, rfl, hrow, hg5, _⟩; rw [HL4.out] at hrow; obtain ⟨ra, rc, rfl, _, _, hce⟩ := hrow.any; obtain ⟨b, o, rfl, hcell⟩ := hce.out (by simp); have hel := hcell 0 (by simp); simp only [Nat.zero_mul, Nat.add_zero, List.getD_cons_zero] at hel; have HM5 := Lib.hid (HM4.out.gr hg5); have HZ5 := Lib.hid (HZ4.out.gr hg5); have j0 : (0 : Int) < ((x :: sx).length : Int) := (by rw [List.length_cons]; omega); obtain ⟨x0, x1, x2, x3, x4, x5⟩ := hel; clear hce hcell hrow hg5)
            clear x0 x1 x2 x3 x4 x5 j0
            obtain ⟨w6, hw6⟩ : ∃ u, u = w5.alloc (.cells #[.int .i64 x.t, .int .i64 x.len, .int .i64 x.flow, .int .i64 x.band, .int .i64 x.mark, .int .i64 x.n] 108) := ⟨_, rfl⟩
            obtain ⟨xb, hxb⟩ : ∃ u, u = w5.heap.size := ⟨_, rfl⟩
            have HX6 : Hid (HelAt w6 xb 0 x) := Lib.hid (by rw [hw6]; exact held_new w5 x hxb)
            have HG6 : Hid (Gr w5 w6) := Lib.hid (by rw [hw6]; exact (Gr.refl _).alloc _)
            have HM6 := Lib.hid (HM5.out.res_add HG6.out (show w5.heap.size ≤ xb by omega) (cell_lt HX6.out.c0))
            have HZ6 := Lib.hid (HZ5.out.gr HG6.out)
            rw [← hw6, ← hxb]
            clear hw6 hxb HM4 HM5 HZ4 HZ5 HG6 HL4
            have HXC := Lib.hid (show w6.cell? ⟨xb, 1, none⟩ = some (.int .i64 x.len) from by have := HX6.out.c1; rw [Nat.zero_add] at this; exact this)
            have HC5 := Lib.hid HM6.out.at_.c5
            have HLK := Lib.hid (fun u (g : Gr w6 u) => (show (Instr.lookup 82 (.map (some mb)) (.int .i64 (f : Int)) false).run Tryd.prog u = .ok (.int .i64 (a1.cred q f)) u from by rw [← HV.out.at_]; exact (HM6.out.at_.map.gr g).look HBD.out))
            by_cases hc : a1.cred q f < x.len
            · have CB := Lib.hid (decide_eq_false (show ¬ x.len ≤ a1.cred q f by omega))
              have HPASS := Lib.hid (HO.out.pass HQ.out HT1.out HS1.out hc)
              have HRN := Lib.hid (show takeR q g' (a1.pass f r (a1.cred q f)) = R from by rw [← HRR.out, takeR_pass HT1.out HS1.out hc])
              clear hc
              refine wp_region_gg (n := 9) [Fg.eq (.pointer (some ⟨xb, 0, none⟩)), Fg.eq (.pointer (some ⟨xb, 1, none⟩)), Fg.eq (.int .i64 x.len), Fg.eq (.pointer (some ⟨p, 0, none⟩)), Fg.eq (.pointer (some ⟨p, 0, none⟩)), Fg.eq (.pointer (some ⟨p, 5, none⟩)), Fg.eq (.map (some mb)), Fg.eq (.int .i64 (f : Int)), Fg.eq (.int .i64 (a1.cred q f))] [72, 73, 74, 75, 76, 77, 78, 79, 80] (by kernel_rfl) (by kernel_rfl) (by kernel_rfl) ?_ ?_
              · intro L i o' ac w1 hi ho hA
                have hgr : Gr w6 w1 := (Gr.refl w6).drew.trans hA.gr
                match i, hi with
                | 0, _ =>
                  obtain rfl := Option.some.inj ho
                  exact gg_plain rfl (gstep_val (rrt_fa_millraceref_Pack_0 rfl (show ac.eval (.tmp 9) = .pointer (some ⟨xb, 0, none⟩) from hA.other 9 (by decide))) rfl)
                | 1, _ =>
                  obtain rfl := Option.some.inj ho
                  exact gg_plain rfl (gstep_val (rrt_fa_api_Item_1 rfl (hA.fact 0 (hA.dep 0 (by kernel_rfl) (by decide)))) rfl)
                | 2, _ =>
                  obtain rfl := Option.some.inj ho
                  exact gg_plain rfl (gstep_val (q_loadI rfl (hA.fact 1 (hA.dep 1 (by kernel_rfl) (by decide))) (hgr.cell HXC.out)) rfl)
                | 3, _ =>
                  obtain rfl := Option.some.inj ho
                  exact gg_plain rfl (gstep_val (q_move rfl (show ac.eval (.tmp 0) = .pointer (some ⟨p, 0, none⟩) from hA.other 0 (by decide))) rfl)
                | 4, _ =>
                  obtain rfl := Option.some.inj ho
                  exact gg_plain rfl (gstep_val (q_nil rfl (hA.fact 3 (hA.dep 3 (by kernel_rfl) (by decide)))) rfl)
                | 5, _ =>
                  obtain rfl := Option.some.inj ho
                  exact gg_plain rfl (gstep_val (rrt_fa_millraceref_Rounds_5 rfl (hA.fact 4 (hA.dep 4 (by kernel_rfl) (by decide)))) rfl)
                | 6, _ =>
                  obtain rfl := Option.some.inj ho
                  exact gg_plain rfl (gstep_val (q_loadM rfl (hA.fact 5 (hA.dep 5 (by kernel_rfl) (by decide))) (hgr.cell HC5.out)) rfl)
                | 7, _ =>
                  obtain rfl := Option.some.inj ho
                  exact gg_plain rfl (gstep_val (q_move rfl (show ac.eval (.tmp 7) = .int .i64 (f : Int) from hA.other 7 (by decide))) rfl)
                | 8, _ =>
                  obtain rfl := Option.some.inj ho
                  exact gg_plain rfl (gstep_val (rrt_look rfl (hA.fact 6 (hA.dep 6 (by kernel_rfl) (by decide))) (hA.fact 7 (hA.dep 7 (by kernel_rfl) (by decide))) (HLK.out _ hgr)) rfl)
                | k + 9, hk => exact absurd (show k + 9 < 9 from hk) (by omega)
              · intro vz wc hg5 hv
                have HGY := Lib.hid ((Gr.refl w6).drew.trans hg5)
                have v74 : vz 2 = .int .i64 x.len := hv 2 (by omega)
                have v80 : vz 8 = .int .i64 (a1.cred q f) := hv 8 (by omega)
                clear hv hg5
                simp only [putN, List.drop_succ_cons, List.drop_zero, List.getElem?_cons_succ, List.getElem?_cons_zero]
                generalize vz 2 = z74 at *
                subst v74
                generalize vz 8 = z80 at *
                subst v80
                generalize vz 0 = z72 at *
                generalize vz 1 = z73 at *
                generalize vz 3 = z75 at *
                generalize vz 4 = z76 at *
                generalize vz 5 = z77 at *
                generalize vz 6 = z78 at *
                generalize vz 7 = z79 at *
                have hroom := of_decide_eq_false CB.out
                have HM7 := Lib.hid (HM6.out.gr HGY.out)
                have HZ7 := Lib.hid (HZ6.out.gr HGY.out)
                have HTW := Lib.hid (show IntRow wc (.slice (some ⟨tg, toff, none⟩) ((intL r).length + 1) cap) ((f : Int) :: intL r) from by rw [← HTV.out, ← HV.out.tv, ← HTU.out, ← HV.out.turn]; exact HM7.out.at_.turn)
                have c3 : wc.cell? ⟨p, 3, none⟩ = some (.slice (some ⟨tg, toff, none⟩) ((intL r).length + 1) cap) := by rw [← HTV.out, ← HV.out.tv]; exact HM7.out.at_.c3
                have HTC := Lib.hid (fun u (g : Gr wc u) => And.intro (g.cell c3) (And.intro ((g.frozen (p := ⟨p, 3, none⟩) HM7.out.at_.lt).trans (HM7.out.at_.free 3)) (And.intro (g.cell HM7.out.at_.c4) ((g.frozen (p := ⟨p, 4, none⟩) HM7.out.at_.lt).trans (HM7.out.at_.free 4)))))
                obtain ⟨e1, i2, i3⟩ := HE.out
                have hp0 : p < wc.heap.size := HM7.out.at_.lt
                go_wp2_with (first
                  | (at_builtin; have _ := tok8; refine wpList_append_intR rfl _ _ _ (by rfl) (by kernel_rfl) _ (intL r) (f : Int) (by rfl) (HR8.out.gr ((Gr.refl w8).alloc (.cells #[.int .i64 (f : Int)] 3))) ⟨w8.heap.size, 0, none⟩ 1 (by rfl) (by simp) (by have := HRL.out; omega) ?_; intro v9 w9 hrow9 hgr9 hown9; have hg9 : Gr wc w9 := (HG8.out.trans ((Gr.refl w8).alloc (.cells #[.int .i64 (f : Int)] 3))).grown hgr9 (fun g hg => HO8.out g hg); have HM9 := Lib.hid (HM7.out.setT (.of_gr hg9) hrow9 (fun g e => .inr ((hown9 g e).elim (HO8.out g) (fun e => by have := HG8.out.size; simp at e; omega)))); have HZ9 := Lib.hid ((HZ7.out.gr hg9).sav (.set p 3 v9) (fun e => HM7.out.nin (r := rb) (by simp) (.inl e))); obtain ⟨d3, g3, d4, g4⟩ := HTC.out _ hg9; obtain ⟨a9, c9, rfl⟩ := hrow9.shape; clear hrow9 hgr9 hown9 hg9; rw [show (intL r ++ [(f : Int)]).length = (intL r).length + 1 from by simp] at HM9 HZ9)
                  | (at_builtin; refine wpList_append_intE rfl _ _ (by rfl) (by rfl) wc.heap.size (by rfl) (IntRow.empty rfl) _ (intL r) (by rfl) (by obtain ⟨t, ht, hrow⟩ := IntRow.rest (HTW.out.gr ((Gr.refl wc).alloc (.cells #[] 3))); rw [ht]; exact hrow.ints) (by have := HRL.out; omega) ?_; intro v8 w8 hrow8 hgr8 hown8; have HG8 := Lib.hid (show Gr wc w8 from ((Gr.refl wc).alloc (.cells #[] 3)).trans hgr8); have HR8 := Lib.hid hrow8; have HO8 := Lib.hid (show ∀ g, v8.ownBlock = some g → wc.heap.size ≤ g from fun g hg => (hown8 g hg).elim (fun e => Nat.le_of_eq e) (fun e => by simp at e; omega)); obtain ⟨a8, c8, rfl⟩ := hrow8.shape; clear hrow8 hgr8 hown8; have tok8 := trivial))
                all_goals
                  clear HM6 HZ6 HM7 HZ7 HTW HTC hroom e1 i2 i3 HX6 HXC HC5 HLK HGY
                  have HSH := Lib.hid (show RShows ((s4.setT (.slice a9 ((intL r).length + 1) c9) (intL r ++ [(f : Int)])).setB false) (a1.pass f r (a1.cred q f)) n from HS.out.pass HT1.out HV.out rfl rfl rfl rfl rfl rfl)
                  go_roundg g'
                  case measure => omega
                  case rel => exact ⟨a1.pass f r (a1.cred q f), _, HRN, Lib.hid HPASS.out.1, Lib.hid (by have h1 := HPASS.out.2; have h2 := HF.out; omega), HSH, Lib.hid ((HM9.out.setB false).less (fun g e => by simp at e; simp [e])), Lib.hid (HZ9.out.sav (.set p 4 (.bool false)) (fun e => HM9.out.nin (r := rb) (by simp) (.inl e)))⟩
            · have CB := Lib.hid (decide_eq_true (show x.len ≤ a1.cred q f by omega))
              have HGONE := Lib.hid (HO.out.gone HQ.out HT1.out HS1.out hc)
              have HTT := Lib.hid (show R = (a1.gone f r x sx (a1.cred q f), x, [], true) from by rw [← HRR.out, takeR_gone HT1.out HS1.out hc])
              clear hc
              refine wp_region_gg (n := 9) [Fg.eq (.pointer (some ⟨xb, 0, none⟩)), Fg.eq (.pointer (some ⟨xb, 1, none⟩)), Fg.eq (.int .i64 x.len), Fg.eq (.pointer (some ⟨p, 0, none⟩)), Fg.eq (.pointer (some ⟨p, 0, none⟩)), Fg.eq (.pointer (some ⟨p, 5, none⟩)), Fg.eq (.map (some mb)), Fg.eq (.int .i64 (f : Int)), Fg.eq (.int .i64 (a1.cred q f))] [72, 73, 74, 75, 76, 77, 78, 79, 80] (by kernel_rfl) (by kernel_rfl) (by kernel_rfl) ?_ ?_
              · intro L i o' ac w1 hi ho hA
                have hgr : Gr w6 w1 := (Gr.refl w6).drew.trans hA.gr
                match i, hi with
                | 0, _ =>
                  obtain rfl := Option.some.inj ho
                  exact gg_plain rfl (gstep_val (rrt_fa_millraceref_Pack_0 rfl (show ac.eval (.tmp 9) = .pointer (some ⟨xb, 0, none⟩) from hA.other 9 (by decide))) rfl)
                | 1, _ =>
                  obtain rfl := Option.some.inj ho
                  exact gg_plain rfl (gstep_val (rrt_fa_api_Item_1 rfl (hA.fact 0 (hA.dep 0 (by kernel_rfl) (by decide)))) rfl)
                | 2, _ =>
                  obtain rfl := Option.some.inj ho
                  exact gg_plain rfl (gstep_val (q_loadI rfl (hA.fact 1 (hA.dep 1 (by kernel_rfl) (by decide))) (hgr.cell HXC.out)) rfl)
                | 3, _ =>
                  obtain rfl := Option.some.inj ho
                  exact gg_plain rfl (gstep_val (q_move rfl (show ac.eval (.tmp 0) = .pointer (some ⟨p, 0, none⟩) from hA.other 0 (by decide))) rfl)
                | 4, _ =>
                  obtain rfl := Option.some.inj ho
                  exact gg_plain rfl (gstep_val (q_nil rfl (hA.fact 3 (hA.dep 3 (by kernel_rfl) (by decide)))) rfl)
                | 5, _ =>
                  obtain rfl := Option.some.inj ho
                  exact gg_plain rfl (gstep_val (rrt_fa_millraceref_Rounds_5 rfl (hA.fact 4 (hA.dep 4 (by kernel_rfl) (by decide)))) rfl)
                | 6, _ =>
                  obtain rfl := Option.some.inj ho
                  exact gg_plain rfl (gstep_val (q_loadM rfl (hA.fact 5 (hA.dep 5 (by kernel_rfl) (by decide))) (hgr.cell HC5.out)) rfl)
                | 7, _ =>
                  obtain rfl := Option.some.inj ho
                  exact gg_plain rfl (gstep_val (q_move rfl (show ac.eval (.tmp 7) = .int .i64 (f : Int) from hA.other 7 (by decide))) rfl)
                | 8, _ =>
                  obtain rfl := Option.some.inj ho
                  exact gg_plain rfl (gstep_val (rrt_look rfl (hA.fact 6 (hA.dep 6 (by kernel_rfl) (by decide))) (hA.fact 7 (hA.dep 7 (by kernel_rfl) (by decide))) (HLK.out _ hgr)) rfl)
                | k + 9, hk => exact absurd (show k + 9 < 9 from hk) (by omega)
              · intro vz wc hg5 hv
                have HGY := Lib.hid ((Gr.refl w6).drew.trans hg5)
                have v74 : vz 2 = .int .i64 x.len := hv 2 (by omega)
                have v80 : vz 8 = .int .i64 (a1.cred q f) := hv 8 (by omega)
                clear hv hg5
                simp only [putN, List.drop_succ_cons, List.drop_zero, List.getElem?_cons_succ, List.getElem?_cons_zero]
                generalize vz 2 = z74 at *
                subst v74
                generalize vz 8 = z80 at *
                subst v80
                generalize vz 0 = z72 at *
                generalize vz 1 = z73 at *
                generalize vz 3 = z75 at *
                generalize vz 4 = z76 at *
                generalize vz 5 = z77 at *
                generalize vz 6 = z78 at *
                generalize vz 7 = z79 at *
                have hroom := of_decide_eq_true CB.out
                have HM7 := Lib.hid (HM6.out.gr HGY.out)
                have HZ7 := Lib.hid (HZ6.out.gr HGY.out)
                have HX7 := Lib.hid (HX6.out.gr HGY.out)
                go_upto_region 11 with fail
                clear hroom HM6 HZ6 HX6 HXC HC5 HLK HGY
                have HXC := Lib.hid (show wc.cell? ⟨xb, 1, none⟩ = some (.int .i64 x.len) from by have := HX7.out.c1; rw [Nat.zero_add] at this; exact this)
                have HC5 := Lib.hid HM7.out.at_.c5
                have HLK := Lib.hid (fun u (g : Gr wc u) => (show (Instr.lookup 82 (.map (some mb)) (.int .i64 (f : Int)) false).run Tryd.prog u = .ok (.int .i64 (a1.cred q f)) u from by rw [← HV.out.at_]; exact (HM7.out.at_.map.gr g).look HBD.out))
                have DS := Lib.hid (show IntKind.i64.wrap (a1.cred q f - x.len) = a1.cred q f - x.len from by have h1 := HCB.out; have h2 := HXL.out; rw [IntKind.wrap_i64]; omega)
                refine wp_region_gg (n := 10) [Fg.eq (.pointer (some ⟨p, 0, none⟩)), Fg.eq (.pointer (some ⟨p, 0, none⟩)), Fg.eq (.pointer (some ⟨p, 5, none⟩)), Fg.eq (.map (some mb)), Fg.eq (.int .i64 (f : Int)), Fg.eq (.int .i64 (a1.cred q f)), Fg.eq (.pointer (some ⟨xb, 0, none⟩)), Fg.eq (.pointer (some ⟨xb, 1, none⟩)), Fg.eq (.int .i64 x.len), Fg.eq (.int .i64 (a1.cred q f - x.len))] [82, 83, 84, 85, 86, 87, 88, 89, 90, 91] (by kernel_rfl) (by kernel_rfl) (by kernel_rfl) ?_ ?_
                · intro L i o' ac w1 hi ho hA
                  have hgr : Gr wc w1 := (Gr.refl wc).drew.trans hA.gr
                  match i, hi with
                  | 0, _ =>
                    obtain rfl := Option.some.inj ho
                    exact gg_plain rfl (gstep_val (q_move rfl (show ac.eval (.tmp 0) = .pointer (some ⟨p, 0, none⟩) from hA.other 0 (by decide))) rfl)
                  | 1, _ =>
                    obtain rfl := Option.some.inj ho
                    exact gg_plain rfl (gstep_val (q_nil rfl (hA.fact 0 (hA.dep 0 (by kernel_rfl) (by decide)))) rfl)
                  | 2, _ =>
                    obtain rfl := Option.some.inj ho
                    exact gg_plain rfl (gstep_val (rrt_fa_millraceref_Rounds_5 rfl (hA.fact 1 (hA.dep 1 (by kernel_rfl) (by decide)))) rfl)
                  | 3, _ =>
                    obtain rfl := Option.some.inj ho
                    exact gg_plain rfl (gstep_val (q_loadM rfl (hA.fact 2 (hA.dep 2 (by kernel_rfl) (by decide))) (hgr.cell HC5.out)) rfl)
                  | 4, _ =>
                    obtain rfl := Option.some.inj ho
                    exact gg_plain rfl (gstep_val (q_move rfl (show ac.eval (.tmp 7) = .int .i64 (f : Int) from hA.other 7 (by decide))) rfl)
                  | 5, _ =>
                    obtain rfl := Option.some.inj ho
                    exact gg_plain rfl (gstep_val (rrt_look rfl (hA.fact 3 (hA.dep 3 (by kernel_rfl) (by decide))) (hA.fact 4 (hA.dep 4 (by kernel_rfl) (by decide))) (HLK.out _ hgr)) rfl)
                  | 6, _ =>
                    obtain rfl := Option.some.inj ho
                    exact gg_plain rfl (gstep_val (rrt_fa_millraceref_Pack_0 rfl (show ac.eval (.tmp 9) = .pointer (some ⟨xb, 0, none⟩) from hA.other 9 (by decide))) rfl)
                  | 7, _ =>
                    obtain rfl := Option.some.inj ho
                    exact gg_plain rfl (gstep_val (rrt_fa_api_Item_1 rfl (hA.fact 6 (hA.dep 6 (by kernel_rfl) (by decide)))) rfl)
                  | 8, _ =>
                    obtain rfl := Option.some.inj ho
                    exact gg_plain rfl (gstep_val (q_loadI rfl (hA.fact 7 (hA.dep 7 (by kernel_rfl) (by decide))) (hgr.cell HXC.out)) rfl)
                  | 9, _ =>
                    obtain rfl := Option.some.inj ho
                    exact gg_plain rfl (gstep_val (rrt_sub rfl (hA.fact 5 (hA.dep 5 (by kernel_rfl) (by decide))) (hA.fact 8 (hA.dep 8 (by kernel_rfl) (by decide))) (DS.out)) rfl)
                  | k + 10, hk => exact absurd (show k + 10 < 10 from hk) (by omega)
                · intro vz we hg5 hv
                  have HGU := Lib.hid ((Gr.refl wc).drew.trans hg5)
                  have v85 : vz 3 = .map (some mb) := hv 3 (by omega)
                  have v86 : vz 4 = .int .i64 (f : Int) := hv 4 (by omega)
                  have v91 : vz 9 = .int .i64 (a1.cred q f - x.len) := hv 9 (by omega)
                  clear hv hg5
                  simp only [putN, List.drop_succ_cons, List.drop_zero, List.getElem?_cons_succ, List.getElem?_cons_zero]
                  generalize vz 3 = z85 at *
                  subst v85
                  generalize vz 4 = z86 at *
                  subst v86
                  generalize vz 9 = z91 at *
                  subst v91
                  generalize vz 0 = z82 at *
                  generalize vz 1 = z83 at *
                  generalize vz 2 = z84 at *
                  generalize vz 5 = z87 at *
                  generalize vz 6 = z88 at *
                  generalize vz 7 = z89 at *
                  generalize vz 8 = z90 at *
                  have HM8 := Lib.hid (HM7.out.gr HGU.out)
                  have HZ8 := Lib.hid (HZ7.out.gr HGU.out)
                  have HX8 := Lib.hid (HX7.out.gr HGU.out)
                  have HMP := Lib.hid (show MapI we mb s4.mn s4.f s4.g from HM8.out.at_.map)
                  go_upto_region 12 with (at_mapUpdate; go_loud (simp only [Act.put, List.setIfInBounds_toArray, List.set_cons_succ, List.set_cons_zero]); refine wpList_set_mapI (by rfl) _ _ _ (by rfl) mb s4.mn s4.f s4.g (by rfl) HMP.out (by rw [HV.out.mn]; have := HMN.out; omega) (f : Int) (a1.cred q f - x.len) (by rfl) (by rfl) HBD.out (by have h1 := HCB.out; have h2 := HXL.out; unfold Bd; omega) ?_; intro w9 _ hmp hsv; have HM9 := Lib.hid (HM8.out.setM hsv (f : Int) (a1.cred q f - x.len) s4.mn (hmp (HV.out.g f HGF.out))); have HZ9 := Lib.hid (HZ8.out.sav hsv (fun e => HM8.out.nin (r := rb) (by simp) (.inr (.inl e)))); have HX9 := Lib.hid (HX8.out.sav hsv (fun e => HM8.out.nin (r := xb) (by simp) (.inr (.inl e)))); clear hmp hsv)
                  clear HM7 HZ7 HX7 HM8 HZ8 HX8 HMP HXC HC5 HLK HGU
                  have HV9 := Lib.hid (show (s4.setM (f : Int) (a1.cred q f - x.len) s4.mn).l = s1.l ∧ (s4.setM (f : Int) (a1.cred q f - x.len) s4.mn).tv = s1.tv ∧ (s4.setM (f : Int) (a1.cred q f - x.len) s4.mn).turn = s1.turn ∧ (s4.setM (f : Int) (a1.cred q f - x.len) s4.mn).begun = true ∧ (s4.setM (f : Int) (a1.cred q f - x.len) s4.mn).f = fI s4.f (f : Int) (a1.cred q f - x.len) ∧ (s4.setM (f : Int) (a1.cred q f - x.len) s4.mn).g = fI s4.g (f : Int) true ∧ (s4.setM (f : Int) (a1.cred q f - x.len) s4.mn).mn = s4.mn from ⟨HV.out.l, HV.out.tv, HV.out.turn, HV.out.begun, rfl, rfl, rfl⟩)
                  generalize s4.setM (f : Int) (a1.cred q f - x.len) s4.mn = s9 at *
                  obtain ⟨la, lc, hlv, _, _, hce⟩ := (show RowH 108 w9 s9.lv s1.l from by rw [← HV9.out.1]; exact HM9.out.at_.row).any
                  have HCE := Lib.hid hce
                  have c2 := HM9.out.at_.c2
                  rw [hlv] at c2
                  clear hce hlv
                  go_wp2
                  clear c2
                  go_loopw [10, 97] (fun s10 s97 wl => ∃ (i : Nat), i ≤ s1.l.length ∧ s97 = .int .i64 (i : Int) ∧ Hid (Gr w9 wl ∧ RowH 108 wl s10 (outN (s1.l.take i) x.n) ∧ ∀ g, s10.ownBlock = some g → w9.heap.size ≤ g)) (fun _ s _ => s1.l.length - (intOf s).toNat)
                  case atStart => exact ⟨0, Nat.zero_le _, rfl, Lib.hid ⟨Gr.refl _, RowH.nil _ _, fun g hg => by cases hg⟩⟩
                  case round =>
                    obtain ⟨i, hi, rfl, HKL⟩ := hrel
                    by_cases hlt : i < s1.l.length
                    · have i0 : (0 : Int) ≤ (i : Int) := by omega
                      have i1 : (i : Int) < (s1.l.length : Int) := by omega
                      obtain ⟨lb, lo, rfl, hcell⟩ := HCE.out (by omega)
                      obtain ⟨z, hz⟩ : ∃ z, z = s1.l.getD i .zero := ⟨_, rfl⟩
                      have HTK := Lib.hid (show outN (s1.l.take (i + 1)) x.n = outN (s1.l.take i) x.n ++ (if z.n ≠ x.n then [z] else []) from by
                        rw [show (if z.n ≠ x.n then [z] else []) = outN [z] x.n from by unfold outN; by_cases e : z.n = x.n <;> simp [e], ← outN_app2, hz, List.getD_eq_getElem?_getD, List.getElem?_eq_getElem hlt]
                        rw [List.take_add_one, List.getElem?_eq_getElem hlt]
                        rfl)
                      have HLE := Lib.hid (show (outN (s1.l.take i) x.n).length ≤ 300 from by have h1 := outN_le2 (s1.l.take i) x.n; have h2 := HLN.out; rw [List.length_take] at h1; omega)
                      have HWI := Lib.hid (show wrap64 ((i : Int) + 1) = (i : Int) + 1 from by have := HLN.out; unfold wrap64; omega)
                      have hel := (hcell i hlt).gr HKL.out.1
                      rw [← hz] at hel
                      clear hcell hz
                      obtain ⟨c0, c1, c2, c3, c4, c5⟩ := hel
                      go_upto_region 16 with fail
                      clear c0 c1 c2 c3 c4 c5
                      obtain ⟨w1, hw1⟩ : ∃ u, u = wr.alloc (.cells #[.int .i64 z.t, .int .i64 z.len, .int .i64 z.flow, .int .i64 z.band, .int .i64 z.mark, .int .i64 z.n] 108) := ⟨_, rfl⟩
                      obtain ⟨eb, heb⟩ : ∃ u, u = wr.heap.size := ⟨_, rfl⟩
                      have HX1 : Hid (HelAt w1 eb 0 z) := Lib.hid (by rw [hw1]; exact held_new wr z heb)
                      have HK1 : Hid (Gr w9 w1 ∧ RowH 108 w1 u10 (outN (s1.l.take i) x.n)) := Lib.hid (by rw [hw1]; exact ⟨HKL.out.1.trans ((Gr.refl _).alloc _), HKL.out.2.1.gr ((Gr.refl _).alloc _)⟩)
                      rw [← hw1, ← heb]
                      clear hw1 heb
                      obtain ⟨x0, x1, x2, x3, x4, x5⟩ := HX1.out
                      have y5 := (HX9.out.gr HK1.out.1).c5
                      simp only [Nat.zero_add] at x1 x2 x3 x4 x5 y5
                      obtain ⟨oa, oc, rfl⟩ := HK1.out.2.shape
                      have HOW := Lib.hid HKL.out.2.2
                      by_cases hk : z.n = x.n
                      · rw [if_neg (by simpa using hk), List.append_nil] at HTK
                        go_wp2
                        rw [HWI.out]
                        go_roundw
                        case measure => simp [intOf]; omega
                        case rel => exact ⟨i + 1, by omega, by go_num, Lib.hid ⟨HK1.out.1, by rw [HTK.out]; exact HK1.out.2, HOW.out⟩⟩
                      · rw [if_pos hk] at HTK
                        go_wp2_with (at_builtin; refine wpList_append_rowH rfl _ _ _ (by rfl) i0' Hel.zero.val Tryd.underlying38 hi0 hz0 hz1 hz2 rfl ?c1 (by rfl) (HK1.out.2.gr ((Gr.refl _).alloc _)) ⟨w1.heap.size, 0, none⟩ 1 [z] (by rfl) (by simp) ?c3 ?c2 ?_; (case c1 => (intro u hu; exact (cells_int Hel.zero u (by simpa [Hel.val, Value.cells, Hel.cells] using hu)).2)); (case c3 => (rw [flat_one]; exact (held_new w1 z rfl).news)); (case c2 => (have h1 := HLE.out; simp; omega)); intro v4 w4' hrow hgr hown hold; have HG4 := Lib.hid (show Gr w9 w4' from (HK1.out.1.trans ((Gr.refl w1).alloc (.cells #[.int .i64 z.t, .int .i64 z.len, .int .i64 z.flow, .int .i64 z.band, .int .i64 z.mark, .int .i64 z.n] 108))).grown hgr (fun g hg => HOW.out g hg)); have HR4 := Lib.hid hrow; have HO4 := Lib.hid (show ∀ g, v4.ownBlock = some g → w9.heap.size ≤ g from fun g hg => (hown g hg).elim (HOW.out g) (fun e => Nat.le_trans (HK1.out.1.trans ((Gr.refl w1).alloc (.cells #[.int .i64 z.t, .int .i64 z.len, .int .i64 z.flow, .int .i64 z.band, .int .i64 z.mark, .int .i64 z.n] 108))).size e)); clear hrow hgr hown hold)
                        rw [HWI.out]
                        go_roundw
                        case measure => simp [intOf]; omega
                        case rel => exact ⟨i + 1, by omega, by go_num, Lib.hid ⟨HG4.out, by rw [HTK.out]; exact HR4.out, HO4.out⟩⟩
                    · obtain rfl : i = s1.l.length := by omega
                      have i1 : ¬ (s1.l.length : Int) < (s1.l.length : Int) := by omega
                      have hk9 := HKL.out
                      rw [List.take_length] at hk9
                      have HLO := Lib.hid (show outN s1.l x.n = outN a1.l x.n ∧ ofF (outN s1.l x.n) f = sx ∧ (outN s1.l x.n).length ≤ 300 from ⟨by rw [HS.out.l], by rw [HS.out.l]; exact ofF_head HO.out.nums HS1.out, Nat.le_trans (outN_le2 _ _) (by have := HLN.out; omega)⟩)
                      generalize outN s1.l x.n = LO at *
                      have HK9 := Lib.hid hk9
                      have HMG := Lib.hid (HM9.out.gr hk9.1)
                      have c2 := HMG.out.at_.c2
                      have f2 := HMG.out.at_.free 2
                      obtain ⟨oa, oc, hov⟩ := hk9.2.1.shape
                      subst hov
                      have HM10 := Lib.hid (HM9.out.setL (Sav.of_gr HK9.out.1) HK9.out.2.1 (fun g e => .inr (HK9.out.2.2 g e)))
                      have HZ10 := Lib.hid ((HZ9.out.gr HK9.out.1).sav (.set p 2 (.slice oa LO.length oc)) (fun e => HM9.out.nin (r := rb) (by simp) (.inl e)))
                      have HX10 := Lib.hid ((HX9.out.gr HK9.out.1).sav (.set p 2 (.slice oa LO.length oc)) (fun e => HM9.out.nin (r := xb) (by simp) (.inl e)))
                      clear hk9
                      go_upto_region 20 with fail
                      generalize wr.setCell ⟨p, 2, none⟩ (.slice oa LO.length oc) = w10 at *
                      have HV10 := Lib.hid (show (s9.setL (.slice oa LO.length oc) LO).l = LO ∧ (s9.setL (.slice oa LO.length oc) LO).tv = s1.tv ∧ (s9.setL (.slice oa LO.length oc) LO).turn = s1.turn ∧ (s9.setL (.slice oa LO.length oc) LO).begun = true ∧ (s9.setL (.slice oa LO.length oc) LO).f = fI s4.f (f : Int) (a1.cred q f - x.len) ∧ (s9.setL (.slice oa LO.length oc) LO).g = fI s4.g (f : Int) true ∧ (s9.setL (.slice oa LO.length oc) LO).mn = s4.mn from ⟨rfl, HV9.out.2⟩)
                      generalize s9.setL (.slice oa LO.length oc) LO = s10 at *
                      clear c2 f2 HK9 HMG HKL HM9 HZ9 HX9 HCE
                      have HOF2 := Lib.hid (fun u (hu : RRC u N0 p mb q.room (.slice (some ⟨zb, zo, none⟩) (m + 1) zc) zs s10) => hu.of_any (by rw [HV10.out.1]; exact HLO.out.2.2) f)
                      have HL10 := Lib.hid (show ofF s10.l f = sx from by rw [HV10.out.1]; exact HLO.out.2.1)
                      by_cases hs0 : sx = []
                      · have HSX := Lib.hid hs0
                        clear hs0
                        go_upto_region 21 with (go_at_call 115; refine (HOF2.out _ HM10.out.at_).mono ?_; rintro e w11 ⟨rr, rfl, hrow, hg11, _⟩; rw [HL10.out, HSX.out] at hrow; obtain ⟨ra, rc, rfl⟩ := hrow.shape; have HM11 := Lib.hid (HM10.out.gr hg11); have HZ11 := Lib.hid (HZ10.out.gr hg11); have HX11 := Lib.hid (HX10.out.gr hg11); clear hrow hg11)
                        have HTW := Lib.hid (show IntRow w11 (.slice (some ⟨tg, toff, none⟩) ((intL r).length + 1) cap) ((f : Int) :: intL r) from by rw [← HTV.out, ← HV10.out.2.1, ← HTU.out, ← HV10.out.2.2.1]; exact HM11.out.at_.turn)
                        have c3 : w11.cell? ⟨p, 3, none⟩ = some (.slice (some ⟨tg, toff, none⟩) ((intL r).length + 1) cap) := by rw [← HTV.out, ← HV10.out.2.1]; exact HM11.out.at_.c3
                        have f3 := HM11.out.at_.free 3
                        have c4 := HM11.out.at_.c4
                        have f4 := HM11.out.at_.free 4
                        obtain ⟨e1, i2, i3⟩ := HE.out
                        go_upto_region 22 with fail
                        obtain ⟨t8, ht8, hrow⟩ := IntRow.rest HTW.out
                        rw [ht8]
                        have HM12 := Lib.hid (HM11.out.setT (.refl _ w11) hrow (fun g e => .inl (by rw [HV10.out.2.1, HTV.out]; exact e)))
                        have HZ12 := Lib.hid (HZ11.out.sav (.set p 3 (.slice (some ⟨tg, t8, none⟩) (intL r).length (cap - 1))) (fun e => HM11.out.nin (r := rb) (by simp) (.inl e)))
                        have HX12 := Lib.hid (HX11.out.sav (.set p 3 (.slice (some ⟨tg, t8, none⟩) (intL r).length (cap - 1))) (fun e => HM11.out.nin (r := xb) (by simp) (.inl e)))
                        generalize w11.setCell ⟨p, 3, none⟩ (.slice (some ⟨tg, t8, none⟩) (intL r).length (cap - 1)) = w12 at *
                        have HM13 := Lib.hid (HM12.out.setB false)
                        have HZ13 := Lib.hid (HZ12.out.sav (.set p 4 (.bool false)) (fun e => HM12.out.nin (r := rb) (by simp) (.inl e)))
                        have HX13 := Lib.hid (HX12.out.sav (.set p 4 (.bool false)) (fun e => HM12.out.nin (r := xb) (by simp) (.inl e)))
                        generalize w12.setCell ⟨p, 4, none⟩ (.bool false) = w13 at *
                        clear ht8 hrow HTW c3 f3 c4 f4 e1 i2 i3 HM10 HZ10 HX10 HM11 HZ11 HX11 HM12 HZ12 HX12
                        have HSH := Lib.hid (show RShows ((s10.setT (.slice (some ⟨tg, t8, none⟩) (intL r).length (cap - 1)) (intL r)).setB false) (a1.gone f r x sx (a1.cred q f)) n from HS.out.gone HT1.out HV.out (HV10.out.1.trans HLO.out.1) (by rw [if_pos HSX.out]; rfl) (by rw [if_pos HSX.out]; rfl) HV10.out.2.2.2.2.1 HV10.out.2.2.2.2.2.1 HV10.out.2.2.2.2.2.2)
                        obtain ⟨⟨r0, r1, r2, r3, r4, r5⟩, e0, e1, e2, e3, e4, e5⟩ := HZ13.out
                        obtain ⟨x0, x1, x2, x3, x4, x5⟩ := HX13.out
                        simp only [Nat.zero_add] at x1 x2 x3 x4 x5
                        go_wp2
                        clear x0 x1 x2 x3 x4 x5
                        obtain ⟨w99, hw99⟩ : ∃ u, u = ((((((w13.setCell ⟨rb, 0, none⟩ (.int .i64 x.t)).setCell ⟨rb, 1, none⟩ (.int .i64 x.len)).setCell ⟨rb, 2, none⟩ (.int .i64 x.flow)).setCell ⟨rb, 3, none⟩ (.int .i64 x.band)).setCell ⟨rb, 4, none⟩ (.int .i64 x.mark)).setCell ⟨rb, 5, none⟩ (.int .i64 x.n)) := ⟨_, rfl⟩
                        have HR99 := Lib.hid (show HelRes w99 rb x ∧ Sav (fun g => g = rb) w13 w99 from by rw [hw99]; exact hel_set6 HZ13.out x)
                        rw [← hw99]
                        clear hw99 r0 r1 r2 r3 r4 r5 e0 e1 e2 e3 e4 e5
                        obtain ⟨⟨q0, q1, q2, q3, q4, q5⟩, _⟩ := HR99.out.1
                        refine bodyPost_ret (v := .tuple #[.agg #[.int .i64 x.t, .int .i64 x.len, .int .i64 x.flow, .int .i64 x.band, .int .i64 x.mark, .int .i64 x.n], .slice none 0 0, .bool true]) (by simp [results, Tryd.results113, go_sem, q0, q1, q2, q3, q4, q5]) rfl ?_
                        rw [HTT.out]
                        exact ⟨rfl, _, (HM13.out.off HR99.out.2 (fun g e => by simp [e])).did, HSH.out⟩
                      · have i9 : ¬ (sx.length : Int) = 0 := by have := List.length_pos_iff.2 hs0; omega
                        have HSH := Lib.hid (show RShows s10 (a1.gone f r x sx (a1.cred q f)) n from HS.out.gone HT1.out HV.out (HV10.out.1.trans HLO.out.1) (by rw [if_neg hs0, HV10.out.2.2.1, HTU.out]; rfl) (by rw [if_neg hs0]; exact HV10.out.2.2.2.1) HV10.out.2.2.2.2.1 HV10.out.2.2.2.2.2.1 HV10.out.2.2.2.2.2.2)
                        go_upto_region 22 with (go_at_call 115; refine (HOF2.out _ HM10.out.at_).mono ?_; rintro e w11 ⟨rr, rfl, hrow, hg11, _⟩; rw [HL10.out] at hrow; obtain ⟨ra, rc, rfl⟩ := hrow.shape; have HM11 := Lib.hid (HM10.out.gr hg11); have HZ11 := Lib.hid (HZ10.out.gr hg11); have HX11 := Lib.hid (HX10.out.gr hg11); clear hrow hg11)
                        obtain ⟨⟨r0, r1, r2, r3, r4, r5⟩, e0, e1, e2, e3, e4, e5⟩ := HZ11.out
                        obtain ⟨x0, x1, x2, x3, x4, x5⟩ := HX11.out
                        simp only [Nat.zero_add] at x1 x2 x3 x4 x5
                        go_wp2
                        clear x0 x1 x2 x3 x4 x5
                        obtain ⟨w99, hw99⟩ : ∃ u, u = ((((((w11.setCell ⟨rb, 0, none⟩ (.int .i64 x.t)).setCell ⟨rb, 1, none⟩ (.int .i64 x.len)).setCell ⟨rb, 2, none⟩ (.int .i64 x.flow)).setCell ⟨rb, 3, none⟩ (.int .i64 x.band)).setCell ⟨rb, 4, none⟩ (.int .i64 x.mark)).setCell ⟨rb, 5, none⟩ (.int .i64 x.n)) := ⟨_, rfl⟩
                        have HR99 := Lib.hid (show HelRes w99 rb x ∧ Sav (fun g => g = rb) w11 w99 from by rw [hw99]; exact hel_set6 HZ11.out x)
                        rw [← hw99]
                        clear hw99 r0 r1 r2 r3 r4 r5 e0 e1 e2 e3 e4 e5
                        obtain ⟨⟨q0, q1, q2, q3, q4, q5⟩, _⟩ := HR99.out.1
                        refine bodyPost_ret (v := .tuple #[.agg #[.int .i64 x.t, .int .i64 x.len, .int .i64 x.flow, .int .i64 x.band, .int .i64 x.mark, .int .i64 x.n], .slice none 0 0, .bool true]) (by simp [results, Tryd.results113, go_sem, q0, q1, q2, q3, q4, q5]) rfl ?_
                        rw [HTT.out]
                        exact ⟨rfl, _, (HM11.out.off HR99.out.2 (fun g e => by simp [e])).did, HSH.out⟩
      | true =>
        rw [hb] at c4
        go_upto_region 8 with fail
        clear c3 ce c4 e1 i2 i3
        have HV1 := Lib.hid (show MidR s1 (s1.setB true) f (a1.cred q f) from ⟨rfl, rfl, rfl, rfl, rfl, by show s1.f (f : Int) = _; rw [HS.out.cr f HK.out]; unfold RndS.cred; rw [hb, if_pos rfl], fun j _ _ => rfl, fun _ e => e⟩)
        obtain ⟨w3, hw3⟩ : ∃ u, u = wr := ⟨_, rfl⟩
        obtain ⟨s3, hs3⟩ : ∃ u, u = s1 := ⟨_, rfl⟩
        have HM3 : Hid (RRM w w3 N0 p mb q.room (.slice (some ⟨zb, zo, none⟩) (m + 1) zc) zs sb [rb] s3) := Lib.hid (by rw [hw3, hs3]; exact HM.out)
        have HZ3 : Hid (HelRes w3 rb .zero) := Lib.hid (by rw [hw3]; exact HZ.out)
        have HV : Hid (MidR s1 (s3.setB true) f (a1.cred q f)) := Lib.hid (by rw [hs3]; exact HV1.out)
        rw [← hw3]
        clear hw3 hs3 HV1 HM HZ hb
        have c4 := HM3.out.at_.c4
        have f4 := HM3.out.at_.free 4
        go_upto_region 9 with fail
        have HM4 := Lib.hid (HM3.out.setB true)
        have HZ4 := Lib.hid (HZ3.out.sav (.set p 4 (.bool true)) (fun e => HM3.out.nin (r := rb) (by simp) (.inl e)))
        generalize w3.setCell ⟨p, 4, none⟩ (.bool true) = w4 at *
        generalize s3.setB true = s4 at *
        clear c4 f4 HM3 HZ3
        have HOF := Lib.hid (fun u (hu : RRC u N0 p mb q.room (.slice (some ⟨zb, zo, none⟩) (m + 1) zc) zs s4) => hu.of_any (by rw [HV.out.l]; have := HLN.out; omega) f)
        have HL4 := Lib.hid (show ofF s4.l f = x :: sx from by rw [HV.out.l]; exact HLL.out)
        go_upto_region 10 with (go_at_call 115; refine (HOF.out _ HM4.out.at_).mono ?_; rintro e w5 ⟨rr, rfl, hrow, hg5, _⟩; rw [HL4.out] at hrow; obtain ⟨ra, rc, rfl, _, _, hce⟩ := hrow.any; obtain ⟨b, o, rfl, hcell⟩ := hce.out (by simp); have hel := hcell 0 (by simp); simp only [Nat.zero_mul, Nat.add_zero, List.getD_cons_zero] at hel; have HM5 := Lib.hid (HM4.out.gr hg5); have HZ5 := Lib.hid (HZ4.out.gr hg5); have j0 : (0 : Int) < ((x :: sx).length : Int) := (by rw [List.length_cons]; omega); obtain ⟨x0, x1, x2, x3, x4, x5⟩ := hel; clear hce hcell hrow hg5)
        clear x0 x1 x2 x3 x4 x5 j0
        obtain ⟨w6, hw6⟩ : ∃ u, u = w5.alloc (.cells #[.int .i64 x.t, .int .i64 x.len, .int .i64 x.flow, .int .i64 x.band, .int .i64 x.mark, .int .i64 x.n] 108) := ⟨_, rfl⟩
        obtain ⟨xb, hxb⟩ : ∃ u, u = w5.heap.size := ⟨_, rfl⟩
        have HX6 : Hid (HelAt w6 xb 0 x) := Lib.hid (by rw [hw6]; exact held_new w5 x hxb)
        have HG6 : Hid (Gr w5 w6) := Lib.hid (by rw [hw6]; exact (Gr.refl _).alloc _)
        have HM6 := Lib.hid (HM5.out.res_add HG6.out (show w5.heap.size ≤ xb by omega) (cell_lt HX6.out.c0))
        have HZ6 := Lib.hid (HZ5.out.gr HG6.out)
        rw [← hw6, ← hxb]
        clear hw6 hxb HM4 HM5 HZ4 HZ5 HG6 HL4
        have HXC := Lib.hid (show w6.cell? ⟨xb, 1, none⟩ = some (.int .i64 x.len) from by have := HX6.out.c1; rw [Nat.zero_add] at this; exact this)
        have HC5 := Lib.hid HM6.out.at_.c5
        have HLK := Lib.hid (fun u (g : Gr w6 u) => (show (Instr.lookup 82 (.map (some mb)) (.int .i64 (f : Int)) false).run Tryd.prog u = .ok (.int .i64 (a1.cred q f)) u from by rw [← HV.out.at_]; exact (HM6.out.at_.map.gr g).look HBD.out))
        by_cases hc : a1.cred q f < x.len
        · have CB := Lib.hid (decide_eq_false (show ¬ x.len ≤ a1.cred q f by omega))
          have HPASS := Lib.hid (HO.out.pass HQ.out HT1.out HS1.out hc)
          have HRN := Lib.hid (show takeR q g' (a1.pass f r (a1.cred q f)) = R from by rw [← HRR.out, takeR_pass HT1.out HS1.out hc])
          clear hc
          refine wp_region_gg (n := 9) [Fg.eq (.pointer (some ⟨xb, 0, none⟩)), Fg.eq (.pointer (some ⟨xb, 1, none⟩)), Fg.eq (.int .i64 x.len), Fg.eq (.pointer (some ⟨p, 0, none⟩)), Fg.eq (.pointer (some ⟨p, 0, none⟩)), Fg.eq (.pointer (some ⟨p, 5, none⟩)), Fg.eq (.map (some mb)), Fg.eq (.int .i64 (f : Int)), Fg.eq (.int .i64 (a1.cred q f))] [72, 73, 74, 75, 76, 77, 78, 79, 80] (by kernel_rfl) (by kernel_rfl) (by kernel_rfl) ?_ ?_
          · intro L i o' ac w1 hi ho hA
            have hgr : Gr w6 w1 := (Gr.refl w6).drew.trans hA.gr
            match i, hi with
            | 0, _ =>
              obtain rfl := Option.some.inj ho
              exact gg_plain rfl (gstep_val (rrt_fa_millraceref_Pack_0 rfl (show ac.eval (.tmp 9) = .pointer (some ⟨xb, 0, none⟩) from hA.other 9 (by decide))) rfl)
            | 1, _ =>
              obtain rfl := Option.some.inj ho
              exact gg_plain rfl (gstep_val (rrt_fa_api_Item_1 rfl (hA.fact 0 (hA.dep 0 (by kernel_rfl) (by decide)))) rfl)
            | 2, _ =>
              obtain rfl := Option.some.inj ho
              exact gg_plain rfl (gstep_val (q_loadI rfl (hA.fact 1 (hA.dep 1 (by kernel_rfl) (by decide))) (hgr.cell HXC.out)) rfl)
            | 3, _ =>
              obtain rfl := Option.some.inj ho
              exact gg_plain rfl (gstep_val (q_move rfl (show ac.eval (.tmp 0) = .pointer (some ⟨p, 0, none⟩) from hA.other 0 (by decide))) rfl)
            | 4, _ =>
              obtain rfl := Option.some.inj ho
              exact gg_plain rfl (gstep_val (q_nil rfl (hA.fact 3 (hA.dep 3 (by kernel_rfl) (by decide)))) rfl)
            | 5, _ =>
              obtain rfl := Option.some.inj ho
              exact gg_plain rfl (gstep_val (rrt_fa_millraceref_Rounds_5 rfl (hA.fact 4 (hA.dep 4 (by kernel_rfl) (by decide)))) rfl)
            | 6, _ =>
              obtain rfl := Option.some.inj ho
              exact gg_plain rfl (gstep_val (q_loadM rfl (hA.fact 5 (hA.dep 5 (by kernel_rfl) (by decide))) (hgr.cell HC5.out)) rfl)
            | 7, _ =>
              obtain rfl := Option.some.inj ho
              exact gg_plain rfl (gstep_val (q_move rfl (show ac.eval (.tmp 7) = .int .i64 (f : Int) from hA.other 7 (by decide))) rfl)
            | 8, _ =>
              obtain rfl := Option.some.inj ho
              exact gg_plain rfl (gstep_val (rrt_look rfl (hA.fact 6 (hA.dep 6 (by kernel_rfl) (by decide))) (hA.fact 7 (hA.dep 7 (by kernel_rfl) (by decide))) (HLK.out _ hgr)) rfl)
            | k + 9, hk => exact absurd (show k + 9 < 9 from hk) (by omega)
          · intro vz wc hg5 hv
            have HGY := Lib.hid ((Gr.refl w6).drew.trans hg5)
            have v74 : vz 2 = .int .i64 x.len := hv 2 (by omega)
            have v80 : vz 8 = .int .i64 (a1.cred q f) := hv 8 (by omega)
            clear hv hg5
            simp only [putN, List.drop_succ_cons, List.drop_zero, List.getElem?_cons_succ, List.getElem?_cons_zero]
            generalize vz 2 = z74 at *
            subst v74
            generalize vz 8 = z80 at *
            subst v80
            generalize vz 0 = z72 at *
            generalize vz 1 = z73 at *
            generalize vz 3 = z75 at *
            generalize vz 4 = z76 at *
            generalize vz 5 = z77 at *
            generalize vz 6 = z78 at *
            generalize vz 7 = z79 at *
            have hroom := of_decide_eq_false CB.out
            have HM7 := Lib.hid (HM6.out.gr HGY.out)
            have HZ7 := Lib.hid (HZ6.out.gr HGY.out)
            have HTW := Lib.hid (show IntRow wc (.slice (some ⟨tg, toff, none⟩) ((intL r).length + 1) cap) ((f : Int) :: intL r) from by rw [← HTV.out, ← HV.out.tv, ← HTU.out, ← HV.out.turn]; exact HM7.out.at_.turn)
            have c3 : wc.cell? ⟨p, 3, none⟩ = some (.slice (some ⟨tg, toff, none⟩) ((intL r).length + 1) cap) := by rw [← HTV.out, ← HV.out.tv]; exact HM7.out.at_.c3
            have HTC := Lib.hid (fun u (g : Gr wc u) => And.intro (g.cell c3) (And.intro ((g.frozen (p := ⟨p, 3, none⟩) HM7.out.at_.lt).trans (HM7.out.at_.free 3)) (And.intro (g.cell HM7.out.at_.c4) ((g.frozen (p := ⟨p, 4, none⟩) HM7.out.at_.lt).trans (HM7.out.at_.free 4)))))
            obtain ⟨e1, i2, i3⟩ := HE.out
            have hp0 : p < wc.heap.size := HM7.out.at_.lt
            go_wp2_with (first
              | (at_builtin; have _ := tok8; refine wpList_append_intR rfl _ _ _ (by rfl) (by kernel_rfl) _ (intL r) (f : Int) (by rfl) (HR8.out.gr ((Gr.refl w8).alloc (.cells #[.int .i64 (f : Int)] 3))) ⟨w8.heap.size, 0, none⟩ 1 (by rfl) (by simp) (by have := HRL.out; omega) ?_; intro v9 w9 hrow9 hgr9 hown9; have hg9 : Gr wc w9 := (HG8.out.trans ((Gr.refl w8).alloc (.cells #[.int .i64 (f : Int)] 3))).grown hgr9 (fun g hg => HO8.out g hg); have HM9 := Lib.hid (HM7.out.setT (.of_gr hg9) hrow9 (fun g e => .inr ((hown9 g e).elim (HO8.out g) (fun e => by have := HG8.out.size; simp at e; omega)))); have HZ9 := Lib.hid ((HZ7.out.gr hg9).sav (.set p 3 v9) (fun e => HM7.out.nin (r := rb) (by simp) (.inl e))); obtain ⟨d3, g3, d4, g4⟩ := HTC.out _ hg9; obtain ⟨a9, c9, rfl⟩ := hrow9.shape; clear hrow9 hgr9 hown9 hg9; rw [show (intL r ++ [(f : Int)]).length = (intL r).length + 1 from by simp] at HM9 HZ9)
              | (at_builtin; refine wpList_append_intE rfl _ _ (by rfl) (by rfl) wc.heap.size (by rfl) (IntRow.empty rfl) _ (intL r) (by rfl) (by obtain ⟨t, ht, hrow⟩ := IntRow.rest (HTW.out.gr ((Gr.refl wc).alloc (.cells #[] 3))); rw [ht]; exact hrow.ints) (by have := HRL.out; omega) ?_; intro v8 w8 hrow8 hgr8 hown8; have HG8 := Lib.hid (show Gr wc w8 from ((Gr.refl wc).alloc (.cells #[] 3)).trans hgr8); have HR8 := Lib.hid hrow8; have HO8 := Lib.hid (show ∀ g, v8.ownBlock = some g → wc.heap.size ≤ g from fun g hg => (hown8 g hg).elim (fun e => Nat.le_of_eq e) (fun e => by simp at e; omega)); obtain ⟨a8, c8, rfl⟩ := hrow8.shape; clear hrow8 hgr8 hown8; have tok8 := trivial))
            all_goals
              clear HM6 HZ6 HM7 HZ7 HTW HTC hroom e1 i2 i3 HX6 HXC HC5 HLK HGY
              have HSH := Lib.hid (show RShows ((s4.setT (.slice a9 ((intL r).length + 1) c9) (intL r ++ [(f : Int)])).setB false) (a1.pass f r (a1.cred q f)) n from HS.out.pass HT1.out HV.out rfl rfl rfl rfl rfl rfl)
              go_roundg g'
              case measure => omega
              case rel => exact ⟨a1.pass f r (a1.cred q f), _, HRN, Lib.hid HPASS.out.1, Lib.hid (by have h1 := HPASS.out.2; have h2 := HF.out; omega), HSH, Lib.hid ((HM9.out.setB false).less (fun g e => by simp at e; simp [e])), Lib.hid (HZ9.out.sav (.set p 4 (.bool false)) (fun e => HM9.out.nin (r := rb) (by simp) (.inl e)))⟩
        · have CB := Lib.hid (decide_eq_true (show x.len ≤ a1.cred q f by omega))
          have HGONE := Lib.hid (HO.out.gone HQ.out HT1.out HS1.out hc)
          have HTT := Lib.hid (show R = (a1.gone f r x sx (a1.cred q f), x, [], true) from by rw [← HRR.out, takeR_gone HT1.out HS1.out hc])
          clear hc
          refine wp_region_gg (n := 9) [Fg.eq (.pointer (some ⟨xb, 0, none⟩)), Fg.eq (.pointer (some ⟨xb, 1, none⟩)), Fg.eq (.int .i64 x.len), Fg.eq (.pointer (some ⟨p, 0, none⟩)), Fg.eq (.pointer (some ⟨p, 0, none⟩)), Fg.eq (.pointer (some ⟨p, 5, none⟩)), Fg.eq (.map (some mb)), Fg.eq (.int .i64 (f : Int)), Fg.eq (.int .i64 (a1.cred q f))] [72, 73, 74, 75, 76, 77, 78, 79, 80] (by kernel_rfl) (by kernel_rfl) (by kernel_rfl) ?_ ?_
          · intro L i o' ac w1 hi ho hA
            have hgr : Gr w6 w1 := (Gr.refl w6).drew.trans hA.gr
            match i, hi with
            | 0, _ =>
              obtain rfl := Option.some.inj ho
              exact gg_plain rfl (gstep_val (rrt_fa_millraceref_Pack_0 rfl (show ac.eval (.tmp 9) = .pointer (some ⟨xb, 0, none⟩) from hA.other 9 (by decide))) rfl)
            | 1, _ =>
              obtain rfl := Option.some.inj ho
              exact gg_plain rfl (gstep_val (rrt_fa_api_Item_1 rfl (hA.fact 0 (hA.dep 0 (by kernel_rfl) (by decide)))) rfl)
            | 2, _ =>
              obtain rfl := Option.some.inj ho
              exact gg_plain rfl (gstep_val (q_loadI rfl (hA.fact 1 (hA.dep 1 (by kernel_rfl) (by decide))) (hgr.cell HXC.out)) rfl)
            | 3, _ =>
              obtain rfl := Option.some.inj ho
              exact gg_plain rfl (gstep_val (q_move rfl (show ac.eval (.tmp 0) = .pointer (some ⟨p, 0, none⟩) from hA.other 0 (by decide))) rfl)
            | 4, _ =>
              obtain rfl := Option.some.inj ho
              exact gg_plain rfl (gstep_val (q_nil rfl (hA.fact 3 (hA.dep 3 (by kernel_rfl) (by decide)))) rfl)
            | 5, _ =>
              obtain rfl := Option.some.inj ho
              exact gg_plain rfl (gstep_val (rrt_fa_millraceref_Rounds_5 rfl (hA.fact 4 (hA.dep 4 (by kernel_rfl) (by decide)))) rfl)
            | 6, _ =>
              obtain rfl := Option.some.inj ho
              exact gg_plain rfl (gstep_val (q_loadM rfl (hA.fact 5 (hA.dep 5 (by kernel_rfl) (by decide))) (hgr.cell HC5.out)) rfl)
            | 7, _ =>
              obtain rfl := Option.some.inj ho
              exact gg_plain rfl (gstep_val (q_move rfl (show ac.eval (.tmp 7) = .int .i64 (f : Int) from hA.other 7 (by decide))) rfl)
            | 8, _ =>
              obtain rfl := Option.some.inj ho
              exact gg_plain rfl (gstep_val (rrt_look rfl (hA.fact 6 (hA.dep 6 (by kernel_rfl) (by decide))) (hA.fact 7 (hA.dep 7 (by kernel_rfl) (by decide))) (HLK.out _ hgr)) rfl)
            | k + 9, hk => exact absurd (show k + 9 < 9 from hk) (by omega)
          · intro vz wc hg5 hv
            have HGY := Lib.hid ((Gr.refl w6).drew.trans hg5)
            have v74 : vz 2 = .int .i64 x.len := hv 2 (by omega)
            have v80 : vz 8 = .int .i64 (a1.cred q f) := hv 8 (by omega)
            clear hv hg5
            simp only [putN, List.drop_succ_cons, List.drop_zero, List.getElem?_cons_succ, List.getElem?_cons_zero]
            generalize vz 2 = z74 at *
            subst v74
            generalize vz 8 = z80 at *
            subst v80
            generalize vz 0 = z72 at *
            generalize vz 1 = z73 at *
            generalize vz 3 = z75 at *
            generalize vz 4 = z76 at *
            generalize vz 5 = z77 at *
            generalize vz 6 = z78 at *
            generalize vz 7 = z79 at *
            have hroom := of_decide_eq_true CB.out
            have HM7 := Lib.hid (HM6.out.gr HGY.out)
            have HZ7 := Lib.hid (HZ6.out.gr HGY.out)
            have HX7 := Lib.hid (HX6.out.gr HGY.out)
            go_upto_region 11 with fail
            clear hroom HM6 HZ6 HX6 HXC HC5 HLK HGY
            have HXC := Lib.hid (show wc.cell? ⟨xb, 1, none⟩ = some (.int .i64 x.len) from by have := HX7.out.c1; rw [Nat.zero_add] at this; exact this)
            have HC5 := Lib.hid HM7.out.at_.c5
            have HLK := Lib.hid (fun u (g : Gr wc u) => (show (Instr.lookup 82 (.map (some mb)) (.int .i64 (f : Int)) false).run Tryd.prog u = .ok (.int .i64 (a1.cred q f)) u from by rw [← HV.out.at_]; exact (HM7.out.at_.map.gr g).look HBD.out))
            have DS := Lib.hid (show IntKind.i64.wrap (a1.cred q f - x.len) = a1.cred q f - x.len from by have h1 := HCB.out; have h2 := HXL.out; rw [IntKind.wrap_i64]; omega)
            refine wp_region_gg (n := 10) [Fg.eq (.pointer (some ⟨p, 0, none⟩)), Fg.eq (.pointer (some ⟨p, 0, none⟩)), Fg.eq (.pointer (some ⟨p, 5, none⟩)), Fg.eq (.map (some mb)), Fg.eq (.int .i64 (f : Int)), Fg.eq (.int .i64 (a1.cred q f)), Fg.eq (.pointer (some ⟨xb, 0, none⟩)), Fg.eq (.pointer (some ⟨xb, 1, none⟩)), Fg.eq (.int .i64 x.len), Fg.eq (.int .i64 (a1.cred q f - x.len))] [82, 83, 84, 85, 86, 87, 88, 89, 90, 91] (by kernel_rfl) (by kernel_rfl) (by kernel_rfl) ?_ ?_
            · intro L i o' ac w1 hi ho hA
              have hgr : Gr wc w1 := (Gr.refl wc).drew.trans hA.gr
              match i, hi with
              | 0, _ =>
                obtain rfl := Option.some.inj ho
                exact gg_plain rfl (gstep_val (q_move rfl (show ac.eval (.tmp 0) = .pointer (some ⟨p, 0, none⟩) from hA.other 0 (by decide))) rfl)
              | 1, _ =>
                obtain rfl := Option.some.inj ho
                exact gg_plain rfl (gstep_val (q_nil rfl (hA.fact 0 (hA.dep 0 (by kernel_rfl) (by decide)))) rfl)
              | 2, _ =>
                obtain rfl := Option.some.inj ho
                exact gg_plain rfl (gstep_val (rrt_fa_millraceref_Rounds_5 rfl (hA.fact 1 (hA.dep 1 (by kernel_rfl) (by decide)))) rfl)
              | 3, _ =>
                obtain rfl := Option.some.inj ho
                exact gg_plain rfl (gstep_val (q_loadM rfl (hA.fact 2 (hA.dep 2 (by kernel_rfl) (by decide))) (hgr.cell HC5.out)) rfl)
              | 4, _ =>
                obtain rfl := Option.some.inj ho
                exact gg_plain rfl (gstep_val (q_move rfl (show ac.eval (.tmp 7) = .int .i64 (f : Int) from hA.other 7 (by decide))) rfl)
              | 5, _ =>
                obtain rfl := Option.some.inj ho
                exact gg_plain rfl (gstep_val (rrt_look rfl (hA.fact 3 (hA.dep 3 (by kernel_rfl) (by decide))) (hA.fact 4 (hA.dep 4 (by kernel_rfl) (by decide))) (HLK.out _ hgr)) rfl)
              | 6, _ =>
                obtain rfl := Option.some.inj ho
                exact gg_plain rfl (gstep_val (rrt_fa_millraceref_Pack_0 rfl (show ac.eval (.tmp 9) = .pointer (some ⟨xb, 0, none⟩) from hA.other 9 (by decide))) rfl)
              | 7, _ =>
                obtain rfl := Option.some.inj ho
                exact gg_plain rfl (gstep_val (rrt_fa_api_Item_1 rfl (hA.fact 6 (hA.dep 6 (by kernel_rfl) (by decide)))) rfl)
              | 8, _ =>
                obtain rfl := Option.some.inj ho
                exact gg_plain rfl (gstep_val (q_loadI rfl (hA.fact 7 (hA.dep 7 (by kernel_rfl) (by decide))) (hgr.cell HXC.out)) rfl)
              | 9, _ =>
                obtain rfl := Option.some.inj ho
                exact gg_plain rfl (gstep_val (rrt_sub rfl (hA.fact 5 (hA.dep 5 (by kernel_rfl) (by decide))) (hA.fact 8 (hA.dep 8 (by kernel_rfl) (by decide))) (DS.out)) rfl)
              | k + 10, hk => exact absurd (show k + 10 < 10 from hk) (by omega)
            · intro vz we hg5 hv
              have HGU := Lib.hid ((Gr.refl wc).drew.trans hg5)
              have v85 : vz 3 = .map (some mb) := hv 3 (by omega)
              have v86 : vz 4 = .int .i64 (f : Int) := hv 4 (by omega)
              have v91 : vz 9 = .int .i64 (a1.cred q f - x.len) := hv 9 (by omega)
              clear hv hg5
              simp only [putN, List.drop_succ_cons, List.drop_zero, List.getElem?_cons_succ, List.getElem?_cons_zero]
              generalize vz 3 = z85 at *
              subst v85
              generalize vz 4 = z86 at *
              subst v86
              generalize vz 9 = z91 at *
              subst v91
              generalize vz 0 = z82 at *
              generalize vz 1 = z83 at *
              generalize vz 2 = z84 at *
              generalize vz 5 = z87 at *
              generalize vz 6 = z88 at *
              generalize vz 7 = z89 at *
              generalize vz 8 = z90 at *
              have HM8 := Lib.hid (HM7.out.gr HGU.out)
              have HZ8 := Lib.hid (HZ7.out.gr HGU.out)
              have HX8 := Lib.hid (HX7.out.gr HGU.out)
              have HMP := Lib.hid (show MapI we mb s4.mn s4.f s4.g from HM8.out.at_.map)
              go_upto_region 12 with (at_mapUpdate; go_loud (simp only [Act.put, List.setIfInBounds_toArray, List.set_cons_succ, List.set_cons_zero]); refine wpList_set_mapI (by rfl) _ _ _ (by rfl) mb s4.mn s4.f s4.g (by rfl) HMP.out (by rw [HV.out.mn]; have := HMN.out; omega) (f : Int) (a1.cred q f - x.len) (by rfl) (by rfl) HBD.out (by have h1 := HCB.out; have h2 := HXL.out; unfold Bd; omega) ?_; intro w9 _ hmp hsv; have HM9 := Lib.hid (HM8.out.setM hsv (f : Int) (a1.cred q f - x.len) s4.mn (hmp (HV.out.g f HGF.out))); have HZ9 := Lib.hid (HZ8.out.sav hsv (fun e => HM8.out.nin (r := rb) (by simp) (.inr (.inl e)))); have HX9 := Lib.hid (HX8.out.sav hsv (fun e => HM8.out.nin (r := xb) (by simp) (.inr (.inl e)))); clear hmp hsv)
              clear HM7 HZ7 HX7 HM8 HZ8 HX8 HMP HXC HC5 HLK HGU
              have HV9 := Lib.hid (show (s4.setM (f : Int) (a1.cred q f - x.len) s4.mn).l = s1.l ∧ (s4.setM (f : Int) (a1.cred q f - x.len) s4.mn).tv = s1.tv ∧ (s4.setM (f : Int) (a1.cred q f - x.len) s4.mn).turn = s1.turn ∧ (s4.setM (f : Int) (a1.cred q f - x.len) s4.mn).begun = true ∧ (s4.setM (f : Int) (a1.cred q f - x.len) s4.mn).f = fI s4.f (f : Int) (a1.cred q f - x.len) ∧ (s4.setM (f : Int) (a1.cred q f - x.len) s4.mn).g = fI s4.g (f : Int) true ∧ (s4.setM (f : Int) (a1.cred q f - x.len) s4.mn).mn = s4.mn from ⟨HV.out.l, HV.out.tv, HV.out.turn, HV.out.begun, rfl, rfl, rfl⟩)
              generalize s4.setM (f : Int) (a1.cred q f - x.len) s4.mn = s9 at *
              obtain ⟨la, lc, hlv, _, _, hce⟩ := (show RowH 108 w9 s9.lv s1.l from by rw [← HV9.out.1]; exact HM9.out.at_.row).any
              have HCE := Lib.hid hce
              have c2 := HM9.out.at_.c2
              rw [hlv] at c2
              clear hce hlv
              go_wp2
              clear c2
              go_loopw [10, 97] (fun s10 s97 wl => ∃ (i : Nat), i ≤ s1.l.length ∧ s97 = .int .i64 (i : Int) ∧ Hid (Gr w9 wl ∧ RowH 108 wl s10 (outN (s1.l.take i) x.n) ∧ ∀ g, s10.ownBlock = some g → w9.heap.size ≤ g)) (fun _ s _ => s1.l.length - (intOf s).toNat)
              case atStart => exact ⟨0, Nat.zero_le _, rfl, Lib.hid ⟨Gr.refl _, RowH.nil _ _, fun g hg => by cases hg⟩⟩
              case round =>
                obtain ⟨i, hi, rfl, HKL⟩ := hrel
                by_cases hlt : i < s1.l.length
                · have i0 : (0 : Int) ≤ (i : Int) := by omega
                  have i1 : (i : Int) < (s1.l.length : Int) := by omega
                  obtain ⟨lb, lo, rfl, hcell⟩ := HCE.out (by omega)
                  obtain ⟨z, hz⟩ : ∃ z, z = s1.l.getD i .zero := ⟨_, rfl⟩
                  have HTK := Lib.hid (show outN (s1.l.take (i + 1)) x.n = outN (s1.l.take i) x.n ++ (if z.n ≠ x.n then [z] else []) from by
                    rw [show (if z.n ≠ x.n then [z] else []) = outN [z] x.n from by unfold outN; by_cases e : z.n = x.n <;> simp [e], ← outN_app2, hz, List.getD_eq_getElem?_getD, List.getElem?_eq_getElem hlt]
                    rw [List.take_add_one, List.getElem?_eq_getElem hlt]
                    rfl)
                  have HLE := Lib.hid (show (outN (s1.l.take i) x.n).length ≤ 300 from by have h1 := outN_le2 (s1.l.take i) x.n; have h2 := HLN.out; rw [List.length_take] at h1; omega)
                  have HWI := Lib.hid (show wrap64 ((i : Int) + 1) = (i : Int) + 1 from by have := HLN.out; unfold wrap64; omega)
                  have hel := (hcell i hlt).gr HKL.out.1
                  rw [← hz] at hel
                  clear hcell hz
                  obtain ⟨c0, c1, c2, c3, c4, c5⟩ := hel
                  go_upto_region 16 with fail
                  clear c0 c1 c2 c3 c4 c5
                  obtain ⟨w1, hw1⟩ : ∃ u, u = wr.alloc (.cells #[.int .i64 z.t, .int .i64 z.len, .int .i64 z.flow, .int .i64 z.band, .int .i64 z.mark, .int .i64 z.n] 108) := ⟨_, rfl⟩
                  obtain ⟨eb, heb⟩ : ∃ u, u = wr.heap.size := ⟨_, rfl⟩
                  have HX1 : Hid (HelAt w1 eb 0 z) := Lib.hid (by rw [hw1]; exact held_new wr z heb)
                  have HK1 : Hid (Gr w9 w1 ∧ RowH 108 w1 u10 (outN (s1.l.take i) x.n)) := Lib.hid (by rw [hw1]; exact ⟨HKL.out.1.trans ((Gr.refl _).alloc _), HKL.out.2.1.gr ((Gr.refl _).alloc _)⟩)
                  rw [← hw1, ← heb]
                  clear hw1 heb
                  obtain ⟨x0, x1, x2, x3, x4, x5⟩ := HX1.out
                  have y5 := (HX9.out.gr HK1.out.1).c5
                  simp only [Nat.zero_add] at x1 x2 x3 x4 x5 y5
                  obtain ⟨oa, oc, rfl⟩ := HK1.out.2.shape
                  have HOW := Lib.hid HKL.out.2.2
                  by_cases hk : z.n = x.n
                  · rw [if_neg (by simpa using hk), List.append_nil] at HTK
                    go_wp2
                    rw [HWI.out]
                    go_roundw
                    case measure => simp [intOf]; omega
                    case rel => exact ⟨i + 1, by omega, by go_num, Lib.hid ⟨HK1.out.1, by rw [HTK.out]; exact HK1.out.2, HOW.out⟩⟩
                  · rw [if_pos hk] at HTK
                    go_wp2_with (at_builtin; refine wpList_append_rowH rfl _ _ _ (by rfl) i0' Hel.zero.val Tryd.underlying38 hi0 hz0 hz1 hz2 rfl ?c1 (by rfl) (HK1.out.2.gr ((Gr.refl _).alloc _)) ⟨w1.heap.size, 0, none⟩ 1 [z] (by rfl) (by simp) ?c3 ?c2 ?_; (case c1 => (intro u hu; exact (cells_int Hel.zero u (by simpa [Hel.val, Value.cells, Hel.cells] using hu)).2)); (case c3 => (rw [flat_one]; exact (held_new w1 z rfl).news)); (case c2 => (have h1 := HLE.out; simp; omega)); intro v4 w4' hrow hgr hown hold; have HG4 := Lib.hid (show Gr w9 w4' from (HK1.out.1.trans ((Gr.refl w1).alloc (.cells #[.int .i64 z.t, .int .i64 z.len, .int .i64 z.flow, .int .i64 z.band, .int .i64 z.mark, .int .i64 z.n] 108))).grown hgr (fun g hg => HOW.out g hg)); have HR4 := Lib.hid hrow; have HO4 := Lib.hid (show ∀ g, v4.ownBlock = some g → w9.heap.size ≤ g from fun g hg => (hown g hg).elim (HOW.out g) (fun e => Nat.le_trans (HK1.out.1.trans ((Gr.refl w1).alloc (.cells #[.int .i64 z.t, .int .i64 z.len, .int .i64 z.flow, .int .i64 z.band, .int .i64 z.mark, .int .i64 z.n] 108))).size e)); clear hrow hgr hown hold)
                    rw [HWI.out]
                    go_roundw
                    case measure => simp [intOf]; omega
                    case rel => exact ⟨i + 1, by omega, by go_num, Lib.hid ⟨HG4.out, by rw [HTK.out]; exact HR4.out, HO4.out⟩⟩
                · obtain rfl : i = s1.l.length := by omega
                  have i1 : ¬ (s1.l.length : Int) < (s1.l.length : Int) := by omega
                  have hk9 := HKL.out
                  rw [List.take_length] at hk9
                  have HLO := Lib.hid (show outN s1.l x.n = outN a1.l x.n ∧ ofF (outN s1.l x.n) f = sx ∧ (outN s1.l x.n).length ≤ 300 from ⟨by rw [HS.out.l], by rw [HS.out.l]; exact ofF_head HO.out.nums HS1.out, Nat.le_trans (outN_le2 _ _) (by have := HLN.out; omega)⟩)
                  generalize outN s1.l x.n = LO at *
                  have HK9 := Lib.hid hk9
                  have HMG := Lib.hid (HM9.out.gr hk9.1)
                  have c2 := HMG.out.at_.c2
                  have f2 := HMG.out.at_.free 2
                  obtain ⟨oa, oc, hov⟩ := hk9.2.1.shape
                  subst hov
                  have HM10 := Lib.hid (HM9.out.setL (Sav.of_gr HK9.out.1) HK9.out.2.1 (fun g e => .inr (HK9.out.2.2 g e)))
                  have HZ10 := Lib.hid ((HZ9.out.gr HK9.out.1).sav (.set p 2 (.slice oa LO.length oc)) (fun e => HM9.out.nin (r := rb) (by simp) (.inl e)))
                  have HX10 := Lib.hid ((HX9.out.gr HK9.out.1).sav (.set p 2 (.slice oa LO.length oc)) (fun e => HM9.out.nin (r := xb) (by simp) (.inl e)))
                  clear hk9
                  go_upto_region 20 with fail
                  generalize wr.setCell ⟨p, 2, none⟩ (.slice oa LO.length oc) = w10 at *
                  have HV10 := Lib.hid (show (s9.setL (.slice oa LO.length oc) LO).l = LO ∧ (s9.setL (.slice oa LO.length oc) LO).tv = s1.tv ∧ (s9.setL (.slice oa LO.length oc) LO).turn = s1.turn ∧ (s9.setL (.slice oa LO.length oc) LO).begun = true ∧ (s9.setL (.slice oa LO.length oc) LO).f = fI s4.f (f : Int) (a1.cred q f - x.len) ∧ (s9.setL (.slice oa LO.length oc) LO).g = fI s4.g (f : Int) true ∧ (s9.setL (.slice oa LO.length oc) LO).mn = s4.mn from ⟨rfl, HV9.out.2⟩)
                  generalize s9.setL (.slice oa LO.length oc) LO = s10 at *
                  clear c2 f2 HK9 HMG HKL HM9 HZ9 HX9 HCE
                  have HOF2 := Lib.hid (fun u (hu : RRC u N0 p mb q.room (.slice (some ⟨zb, zo, none⟩) (m + 1) zc) zs s10) => hu.of_any (by rw [HV10.out.1]; exact HLO.out.2.2) f)
                  have HL10 := Lib.hid (show ofF s10.l f = sx from by rw [HV10.out.1]; exact HLO.out.2.1)
                  by_cases hs0 : sx = []
                  · have HSX := Lib.hid hs0
                    clear hs0
                    go_upto_region 21 with (go_at_call 115; refine (HOF2.out _ HM10.out.at_).mono ?_; rintro e w11 ⟨rr, rfl, hrow, hg11, _⟩; rw [HL10.out, HSX.out] at hrow; obtain ⟨ra, rc, rfl⟩ := hrow.shape; have HM11 := Lib.hid (HM10.out.gr hg11); have HZ11 := Lib.hid (HZ10.out.gr hg11); have HX11 := Lib.hid (HX10.out.gr hg11); clear hrow hg11)
                    have HTW := Lib.hid (show IntRow w11 (.slice (some ⟨tg, toff, none⟩) ((intL r).length + 1) cap) ((f : Int) :: intL r) from by rw [← HTV.out, ← HV10.out.2.1, ← HTU.out, ← HV10.out.2.2.1]; exact HM11.out.at_.turn)
                    have c3 : w11.cell? ⟨p, 3, none⟩ = some (.slice (some ⟨tg, toff, none⟩) ((intL r).length + 1) cap) := by rw [← HTV.out, ← HV10.out.2.1]; exact HM11.out.at_.c3
                    have f3 := HM11.out.at_.free 3
                    have c4 := HM11.out.at_.c4
                    have f4 := HM11.out.at_.free 4
                    obtain ⟨e1, i2, i3⟩ := HE.out
                    go_upto_region 22 with fail
                    obtain ⟨t8, ht8, hrow⟩ := IntRow.rest HTW.out
                    rw [ht8]
                    have HM12 := Lib.hid (HM11.out.setT (.refl _ w11) hrow (fun g e => .inl (by rw [HV10.out.2.1, HTV.out]; exact e)))
                    have HZ12 := Lib.hid (HZ11.out.sav (.set p 3 (.slice (some ⟨tg, t8, none⟩) (intL r).length (cap - 1))) (fun e => HM11.out.nin (r := rb) (by simp) (.inl e)))
                    have HX12 := Lib.hid (HX11.out.sav (.set p 3 (.slice (some ⟨tg, t8, none⟩) (intL r).length (cap - 1))) (fun e => HM11.out.nin (r := xb) (by simp) (.inl e)))
                    generalize w11.setCell ⟨p, 3, none⟩ (.slice (some ⟨tg, t8, none⟩) (intL r).length (cap - 1)) = w12 at *
                    have HM13 := Lib.hid (HM12.out.setB false)
                    have HZ13 := Lib.hid (HZ12.out.sav (.set p 4 (.bool false)) (fun e => HM12.out.nin (r := rb) (by simp) (.inl e)))
                    have HX13 := Lib.hid (HX12.out.sav (.set p 4 (.bool false)) (fun e => HM12.out.nin (r := xb) (by simp) (.inl e)))
                    generalize w12.setCell ⟨p, 4, none⟩ (.bool false) = w13 at *
                    clear ht8 hrow HTW c3 f3 c4 f4 e1 i2 i3 HM10 HZ10 HX10 HM11 HZ11 HX11 HM12 HZ12 HX12
                    have HSH := Lib.hid (show RShows ((s10.setT (.slice (some ⟨tg, t8, none⟩) (intL r).length (cap - 1)) (intL r)).setB false) (a1.gone f r x sx (a1.cred q f)) n from HS.out.gone HT1.out HV.out (HV10.out.1.trans HLO.out.1) (by rw [if_pos HSX.out]; rfl) (by rw [if_pos HSX.out]; rfl) HV10.out.2.2.2.2.1 HV10.out.2.2.2.2.2.1 HV10.out.2.2.2.2.2.2)
                    obtain ⟨⟨r0, r1, r2, r3, r4, r5⟩, e0, e1, e2, e3, e4, e5⟩ := HZ13.out
                    obtain ⟨x0, x1, x2, x3, x4, x5⟩ := HX13.out
                    simp only [Nat.zero_add] at x1 x2 x3 x4 x5
                    go_wp2
                    clear x0 x1 x2 x3 x4 x5
                    obtain ⟨w99, hw99⟩ : ∃ u, u = ((((((w13.setCell ⟨rb, 0, none⟩ (.int .i64 x.t)).setCell ⟨rb, 1, none⟩ (.int .i64 x.len)).setCell ⟨rb, 2, none⟩ (.int .i64 x.flow)).setCell ⟨rb, 3, none⟩ (.int .i64 x.band)).setCell ⟨rb, 4, none⟩ (.int .i64 x.mark)).setCell ⟨rb, 5, none⟩ (.int .i64 x.n)) := ⟨_, rfl⟩
                    have HR99 := Lib.hid (show HelRes w99 rb x ∧ Sav (fun g => g = rb) w13 w99 from by rw [hw99]; exact hel_set6 HZ13.out x)
                    rw [← hw99]
                    clear hw99 r0 r1 r2 r3 r4 r5 e0 e1 e2 e3 e4 e5
                    obtain ⟨⟨q0, q1, q2, q3, q4, q5⟩, _⟩ := HR99.out.1
                    refine bodyPost_ret (v := .tuple #[.agg #[.int .i64 x.t, .int .i64 x.len, .int .i64 x.flow, .int .i64 x.band, .int .i64 x.mark, .int .i64 x.n], .slice none 0 0, .bool true]) (by simp [results, Tryd.results113, go_sem, q0, q1, q2, q3, q4, q5]) rfl ?_
                    rw [HTT.out]
                    exact ⟨rfl, _, (HM13.out.off HR99.out.2 (fun g e => by simp [e])).did, HSH.out⟩
                  · have i9 : ¬ (sx.length : Int) = 0 := by have := List.length_pos_iff.2 hs0; omega
                    have HSH := Lib.hid (show RShows s10 (a1.gone f r x sx (a1.cred q f)) n from HS.out.gone HT1.out HV.out (HV10.out.1.trans HLO.out.1) (by rw [if_neg hs0, HV10.out.2.2.1, HTU.out]; rfl) (by rw [if_neg hs0]; exact HV10.out.2.2.2.1) HV10.out.2.2.2.2.1 HV10.out.2.2.2.2.2.1 HV10.out.2.2.2.2.2.2)
                    go_upto_region 22 with (go_at_call 115; refine (HOF2.out _ HM10.out.at_).mono ?_; rintro e w11 ⟨rr, rfl, hrow, hg11, _⟩; rw [HL10.out] at hrow; obtain ⟨ra, rc, rfl⟩ := hrow.shape; have HM11 := Lib.hid (HM10.out.gr hg11); have HZ11 := Lib.hid (HZ10.out.gr hg11); have HX11 := Lib.hid (HX10.out.gr hg11); clear hrow hg11)
                    obtain ⟨⟨r0, r1, r2, r3, r4, r5⟩, e0, e1, e2, e3, e4, e5⟩ := HZ11.out
                    obtain ⟨x0, x1, x2, x3, x4, x5⟩ := HX11.out
                    simp only [Nat.zero_add] at x1 x2 x3 x4 x5
                    go_wp2
                    clear x0 x1 x2 x3 x4 x5
                    obtain ⟨w99, hw99⟩ : ∃ u, u = ((((((w11.setCell ⟨rb, 0, none⟩ (.int .i64 x.t)).setCell ⟨rb, 1, none⟩ (.int .i64 x.len)).setCell ⟨rb, 2, none⟩ (.int .i64 x.flow)).setCell ⟨rb, 3, none⟩ (.int .i64 x.band)).setCell ⟨rb, 4, none⟩ (.int .i64 x.mark)).setCell ⟨rb, 5, none⟩ (.int .i64 x.n)) := ⟨_, rfl⟩
                    have HR99 := Lib.hid (show HelRes w99 rb x ∧ Sav (fun g => g = rb) w11 w99 from by rw [hw99]; exact hel_set6 HZ11.out x)
                    rw [← hw99]
                    clear hw99 r0 r1 r2 r3 r4 r5 e0 e1 e2 e3 e4 e5
                    obtain ⟨⟨q0, q1, q2, q3, q4, q5⟩, _⟩ := HR99.out.1
                    refine bodyPost_ret (v := .tuple #[.agg #[.int .i64 x.t, .int .i64 x.len, .int .i64 x.flow, .int .i64 x.band, .int .i64 x.mark, .int .i64 x.n], .slice none 0 0, .bool true]) (by simp [results, Tryd.results113, go_sem, q0, q1, q2, q3, q4, q5]) rfl ?_
                    rw [HTT.out]
                    exact ⟨rfl, _, (HM11.out.off HR99.out.2 (fun g e => by simp [e])).did, HSH.out⟩
end Go.Proofs.YtbpofdfehcbppaaDoor

/-
  The reference's Rounds as a side of a play; what is asked behind each step: the credits.
-/
import Derived.Test.YtbpofdfehcbppaaDoorRndH
namespace Go.Proofs.YtbpofdfehcbppaaDoor
open Go.RowKit Go.Extern.Stop Go.Stop Go.Extern

section
variable {ev : Operand → Value} {o : Oper} {w : World} {x y z : Operand} {u : Value}
theorem rnc_loadP__fair_Rounds {ad : Addr} {v : Option Addr} (ho : o.op = .load 77 x) (h : ev x = .pointer (some ad)) (hc : w.cell? ad = some (.pointer v)) : (execOp ev o).run Tryd.prog w = .ok (.value (.pointer v)) w := by
  simp [execOp, ho, h, hc, go_sem]
theorem rnc_call___millrace_fair_Rounds__Credit {x0 x1 : Operand} {v0 v1 : Value} (ho : o.op = .call { callee := .value (.func 23), args := #[x0, x1], argTypes := #[77, 3] }) (hf : ev (.func 23) = .func (.func 23) #[] #[]) (h0 : ev x0 = v0) (h1 : ev x1 = v1) : (execOp ev o).run Tryd.prog w = .ok (.enter 23 #[v0, v1]) w := by
  simp [execOp, ho, hf, h0, h1, resolve, invoke, go_sem]
theorem rnc_loadP__millraceref_Rounds {ad : Addr} {v : Option Addr} (ho : o.op = .load 81 x) (h : ev x = .pointer (some ad)) (hc : w.cell? ad = some (.pointer v)) : (execOp ev o).run Tryd.prog w = .ok (.value (.pointer v)) w := by
  simp [execOp, ho, h, hc, go_sem]
theorem rnc_fa_millraceref_Rounds_5 {p o' : Nat} (ho : o.op = .fieldAddr 84 x 5) (h : ev x = .pointer (some ⟨p, o', none⟩)) : (execOp ev o).run Tryd.prog w = .ok (.value (.pointer (some ⟨p, o' + 5, none⟩))) w := by
  simp [execOp, ho, h, go_sem]
theorem rnc_look {b : Nat} {kk : Int} {u : Value} (ho : o.op = .lookup 82 x y false) (h : ev x = .map (some b)) (k : ev y = .int .i64 kk) (hr : (Instr.lookup 82 (.map (some b)) (.int .i64 kk) false).run Tryd.prog w = .ok u w) : (execOp ev o).run Tryd.prog w = .ok (.value u) w := by
  simp [execOp, ho, h, k, hr, Result.andThen]
end

/-- The quantum of a flow. -/
def qz (zs : List Int) (f : Nat) : Int := zs.getD (min f (zs.length - 1)) 0
structure RRndI (N0 p mb : Nat) (q : RndP) (zv : Value) (zs : List Int) (w : World) (b : RRV) (a : RndS) (n : Nat) : Prop where
  at_ : RRC w N0 p mb q.room zv zs b
  sh : RShows b a n
  ok : RndOk q a n
def rrndSide (N0 p mb : Nat) (q : RndP) (zv : Value) (zs : List Int) : Side (rounds q) N0 RRV where
  I := RRndI N0 p mb q zv zs
  F b := RRFoot p mb b
  lo h hg := h.at_.flo _ hg
  lt h hg := h.at_.flt hg
  sav h k hB := ⟨h.at_.sav k (fun g e => hB g e), h.sh, h.ok⟩
theorem RShows.puts {s s' : RRV} {a : RndS} {n : Nat} {x : Hel} {k : Nat} (h : RShows s a n) (hx : x.flow = (k : Int)) (d : RRPutV s s' x k) : RShows s' (a.puts x) (n + 1) := by
  obtain ⟨d1, d2, d3, d4, d5, d6⟩ := d
  have hc : x.flow.toNat = k := by omega
  refine ⟨by rw [d1, h.l]; rfl, ?_, by rw [d3]; exact h.begun, fun j hj => ?_, fun j hj => ?_, by have := h.few; omega⟩
  · rw [d2, h.l, h.turn]
    show _ = intL (if ofF a.l x.flow.toNat = [] then a.turn ++ [x.flow.toNat] else a.turn)
    rw [hc]
    split
    · exact (intL_app _ _).symm
    · rfl
  · rw [d4, h.l]
    show _ = (if ofF a.l x.flow.toNat = [] then fu a.credit x.flow.toNat 0 else a.credit) j
    rw [hc]
    split
    · by_cases e : j = k
      · rw [e, fu_at, fI_at]
      · rw [fu_ne _ _ e, fI_ne _ _ (by omega)]; exact h.cr j hj
    · exact h.cr j hj
  · rw [d5, h.l]
    replace hj : j ∈ (if ofF a.l x.flow.toNat = [] then a.turn ++ [x.flow.toNat] else a.turn) := hj
    rw [hc] at hj
    split
    · rename_i he
      rw [if_pos he] at hj
      rcases List.mem_append.1 hj with e | e
      · exact fI_keep (h.has j e)
      · rw [List.mem_singleton.1 e, fI_at]
    · rename_i he
      rw [if_neg he] at hj
      exact h.has j hj
section
variable {N0 p mb : Nat} {q : RndP} {zv : Value} {zs : List Int} {w w' : World} {b : RRV} {a a' : RndS} {n n' : Nat}
theorem rrnd_moved (d : ∃ s', RRM w w' N0 p mb q.room zv zs b [] s' ∧ RShows s' a' n') (ok : RndOk q a' n') : ∃ b', (rrndSide N0 p mb q zv zs).Moved w b w' b' a' n' := by
  obtain ⟨s', k, sh⟩ := d
  exact ⟨s', ⟨k.at_, sh, ok⟩, k.sav, fun g hg => (k.own g hg).1⟩
theorem RRndI.rput (h : RRndI N0 p mb q zv zs w b a n) {t : Int} {x : Hel} (g : GoodPut t x n) : RRPut b x x.flow.toNat := by
  have h1 := h.ok.l.few
  have h2 := h.ok.l.n
  have h3 := h.ok.few
  have h4 := h.sh.few
  have hf := g.flow
  exact ⟨by omega, by omega, by rw [h.sh.l]; omega, by rw [h.sh.turn, intL_len]; omega, by omega⟩
theorem rrnd_put (h : RRndI N0 p mb q zv zs w b a n) {now : Int} {x : Hel} (g : GoodPut now x n) :
    Calls Tryd.prog 112 #[.pointer (some ⟨p, 0, none⟩), .int .i64 now, x.val] w fun e w' => ∃ v b', e = .returned v ∧ RowH 108 w' v ((rounds q).put a now x).2 ∧ (rrndSide N0 p mb q zv zs).Moved w b w' b' ((rounds q).put a now x).1 (n + 1) := by
  have hok := (rounds_put_ok h.ok g).1
  have po := h.rput g
  by_cases hf : q.room ≤ ((ofF a.l x.flow.toNat).length : Int)
  · rw [rounds_full hf] at hok ⊢
    refine (rrput_full N0 p mb q.room zv zs b x _ po (by rw [h.sh.l]; exact hf) now w h.at_).mono ?_
    rintro e w' ⟨r, rfl, hr, hg⟩
    obtain ⟨b', hb⟩ := rrnd_moved (a' := a) ⟨b, (RRM.first h.at_).gr hg, h.sh.l, h.sh.turn, h.sh.begun, h.sh.cr, h.sh.has, Nat.le_succ_of_le h.sh.few⟩ hok
    exact ⟨_, b', rfl, hr, hb⟩
  · rw [rounds_fits hf] at hok ⊢
    refine (rrput_fits N0 p mb q.room zv zs b x _ po (by rw [h.sh.l]; exact hf) now w h.at_).mono ?_
    rintro e w' ⟨rfl, s', hm, hv⟩
    obtain ⟨b', hb⟩ := rrnd_moved (a' := a.puts x) ⟨s', hm, h.sh.puts po.flow hv⟩ hok
    exact ⟨_, b', rfl, RowH.nil _ _, hb⟩
theorem rrnd_take (hq : q.Ok) (hz : 0 < zs.length ∧ zs.length ≤ 16) (hqz : ∀ f, q.quanta f = qz zs f) (h : RRndI N0 p mb q zv zs w b a n) (now : Int) :
    Calls Tryd.prog 113 #[.pointer (some ⟨p, 0, none⟩), .int .i64 now] w fun e w' => ∃ v b', e = .returned (.tuple #[((rounds q).take a now).2.1.val, v, .bool ((rounds q).take a now).2.2.2]) ∧ RowH 108 w' v ((rounds q).take a now).2.2.1 ∧ (rrndSide N0 p mb q zv zs).Moved w b w' b' ((rounds q).take a now).1 n := by
  have hok := rounds_take_ok hq (t := now) h.ok
  refine (rrtake_any N0 p mb q hq zv zs hz hqz b a n h.ok h.sh now w h.at_).mono ?_
  rintro e w' ⟨rfl, d⟩
  obtain ⟨b', hb⟩ := rrnd_moved d hok.1
  exact ⟨_, b', rfl, by rw [hok.2]; exact RowH.nil _ _, hb⟩
end
theorem rrnd_side {N0 p mb : Nat} {q : RndP} {zv : Value} {zs : List Int} (hq : q.Ok) (hz : 0 < zs.length ∧ zs.length ≤ 16) (hqz : ∀ f, q.quanta f = qz zs f) : RSide (rrndSide N0 p mb q zv zs) (.iface 81 (.pointer (some ⟨p, 0, none⟩))) where
  put := ⟨_, _, (fun args w => by kernel_rfl : Meth _ "Put" 112 (.pointer (some ⟨p, 0, none⟩))), fun w b a n now x h g => rrnd_put h g⟩
  take := ⟨_, _, (fun args w => by kernel_rfl : Meth _ "Take" 113 (.pointer (some ⟨p, 0, none⟩))), fun w b a n now h _ => rrnd_take hq hz hqz h now⟩
  when_ := ⟨_, _, (fun args w => by kernel_rfl : Meth _ "When" 114 (.pointer (some ⟨p, 0, none⟩))), fun w b a n now h _ => (rrwhen_any p _ _ now w h.at_.c2 h.at_.row).mono fun e w' ⟨h1, h2⟩ => ⟨b, by rw [h1, h.sh.l]; rfl, .of_gr _ h h2⟩⟩
  few {w b a n} h := ⟨(show a.l.length ≤ 1000 from by have := h.ok.l.few; have := h.ok.l.n; omega), h.ok.l.lens⟩
  fewPut h g := (rounds_put_ok h.ok g).2
  fewTake h _ := by rw [(rounds_take_ok hq h.ok).2]; exact Nat.zero_le _
  all := ⟨_, _, (fun args w => by kernel_rfl : Meth _ "All" 111 (.pointer (some ⟨p, 0, none⟩))), fun w b a n h => (rrall_any p _ _ w h.at_.c2 h.at_.row).mono fun e w' ⟨h1, h2⟩ => ⟨b.lv, h1, by rw [← h2]; have h3 := h.at_.row; rw [h.sh.l] at h3; exact h3, by rw [← h2]; exact Gr.refl _⟩⟩
theorem rndcredit_g (p : Nat) (q : RndP) (s : RndV) (k : Nat) (hk : k < 16) (w : World) (h : RndC w p q s) : Calls Tryd.prog 23 #[.pointer (some ⟨p, 0, none⟩), .int .i64 (k : Int)] w fun e w' => e = .returned (.int .i64 (s.cr k)) ∧ Gr w w' :=
  (rndcredit_any p q s k hk w h).mono fun e w' ⟨h1, h2⟩ => ⟨h1, by rw [← h2]; exact Gr.refl _⟩
set_option maxRecDepth 100000 in
set_option maxHeartbeats 4000000 in
/-- The credits are told alike. -/
theorem rndthen (rb xb p pr mb N0 : Nat) (q : RndP) (zv : Value) (zs : List Int) (s : RndV) (t : RRV) (w : World) (hrb : w.cell? ⟨rb, 0, none⟩ = some (.pointer (some ⟨p, 0, none⟩))) (hxb : w.cell? ⟨xb, 0, none⟩ = some (.pointer (some ⟨pr, 0, none⟩)))
    (ha : RndC w p q s) (hr : RRC w N0 pr mb q.room zv zs t) (he : ∀ k : Nat, k < 16 → s.cr k = t.f (k : Int)) :
    Calls Tryd.prog 24 #[.pointer (some ⟨rb, 0, none⟩), .pointer (some ⟨xb, 0, none⟩)] w fun e w' => e = .returned (.bool true) ∧ Gr w w' := by
  have HRB := Lib.hid hrb
  have HXB := Lib.hid hxb
  have HA := Lib.hid ha
  have HR := Lib.hid hr
  have HE := Lib.hid he
  clear hrb hxb ha hr he
  go_enter Tryd.func24, Tryd.ntmps24
  go_wp2
  go_loopw [3] (fun s3 wr => ∃ (ii : Nat), ii ≤ 16 ∧ s3 = .int .i64 (ii : Int) ∧ Hid (Gr w wr)) (fun s _ => 16 - (intOf s).toNat)
  case atStart => exact ⟨0, by omega, rfl, Lib.hid (Gr.refl _)⟩
  case round =>
    obtain ⟨ii, hi, rfl, HGR⟩ := hrel
    by_cases hlt : ii < 16
    · have j1 : (ii : Int) < 16 := by omega
      go_upto_region 4 with fail
      have HLT := Lib.hid hlt
      have HA1 := Lib.hid (HA.out.gr HGR.out)
      have HR1 := Lib.hid (HR.out.gr HGR.out)
      have HRB1 := Lib.hid (HGR.out.cell HRB.out)
      have HXB1 := Lib.hid (HGR.out.cell HXB.out)
      refine wp_region_gg (n := 9) [Fg.eq (.pointer (some ⟨p, 0, none⟩)), Fg.eq (.int .i64 (ii : Int)), Fg.eq (.int .i64 (t.f (ii : Int))), Fg.eq (.pointer (some ⟨pr, 0, none⟩)), Fg.eq (.pointer (some ⟨pr, 0, none⟩)), Fg.eq (.pointer (some ⟨pr, 5, none⟩)), Fg.eq (.map (some mb)), Fg.eq (.int .i64 (ii : Int)), Fg.eq (.int .i64 (t.f (ii : Int)))] [8, 9, 10, 11, 12, 13, 14, 15, 16] (by kernel_rfl) (by kernel_rfl) (by kernel_rfl) ?_ ?_
      · intro L i o' ac w1 hi ho hA
        have hgr : Gr wr w1 := (Gr.refl wr).drew.trans hA.gr
        match i, hi with
        | 0, _ =>
          obtain rfl := Option.some.inj ho
          exact gg_plain rfl (gstep_val (rnc_loadP__fair_Rounds rfl (show ac.eval (.tmp 0) = .pointer (some ⟨rb, 0, none⟩) from hA.other 0 (by decide)) (hgr.cell HRB1.out)) rfl)
        | 1, _ =>
          obtain rfl := Option.some.inj ho
          exact gg_plain rfl (gstep_val (q_move rfl (show ac.eval (.tmp 3) = .int .i64 (ii : Int) from hA.other 3 (by decide))) rfl)
        | 2, _ =>
          obtain rfl := Option.some.inj ho
          exact gg_plain rfl (gstep_call (rnc_call___millrace_fair_Rounds__Credit rfl rfl (hA.fact 0 (hA.dep 0 (by kernel_rfl) (by decide))) (hA.fact 1 (hA.dep 1 (by kernel_rfl) (by decide)))) (((show Calls Tryd.prog 23 _ w1 (fun e w' => e = .returned (.int .i64 (t.f (ii : Int))) ∧ Gr w1 w') from by rw [← HE.out ii HLT.out]; exact rndcredit_g p q s ii HLT.out w1 (HA1.out.gr hgr))).mono (fun e w' ⟨h1, h2⟩ => ⟨_, h1, h2, rfl⟩)))
        | 3, _ =>
          obtain rfl := Option.some.inj ho
          exact gg_plain rfl (gstep_val (rnc_loadP__millraceref_Rounds rfl (show ac.eval (.tmp 1) = .pointer (some ⟨xb, 0, none⟩) from hA.other 1 (by decide)) (hgr.cell HXB1.out)) rfl)
        | 4, _ =>
          obtain rfl := Option.some.inj ho
          exact gg_plain rfl (gstep_val (q_nil rfl (hA.fact 3 (hA.dep 3 (by kernel_rfl) (by decide)))) rfl)
        | 5, _ =>
          obtain rfl := Option.some.inj ho
          exact gg_plain rfl (gstep_val (rnc_fa_millraceref_Rounds_5 rfl (hA.fact 4 (hA.dep 4 (by kernel_rfl) (by decide)))) rfl)
        | 6, _ =>
          obtain rfl := Option.some.inj ho
          exact gg_plain rfl (gstep_val (q_loadM rfl (hA.fact 5 (hA.dep 5 (by kernel_rfl) (by decide))) (hgr.cell HR1.out.c5)) rfl)
        | 7, _ =>
          obtain rfl := Option.some.inj ho
          exact gg_plain rfl (gstep_val (q_move rfl (show ac.eval (.tmp 3) = .int .i64 (ii : Int) from hA.other 3 (by decide))) rfl)
        | 8, _ =>
          obtain rfl := Option.some.inj ho
          exact gg_plain rfl (gstep_val (rnc_look rfl (hA.fact 6 (hA.dep 6 (by kernel_rfl) (by decide))) (hA.fact 7 (hA.dep 7 (by kernel_rfl) (by decide))) ((HR1.out.map.gr hgr).look (by have := HLT.out; unfold Bd; omega))) rfl)
        | k + 9, hk => exact absurd (show k + 9 < 9 from hk) (by omega)
      · intro vs w5 hg5 hv
        have HGX := Lib.hid ((Gr.refl wr).drew.trans hg5)
        have v10 : vs 2 = .int .i64 (t.f (ii : Int)) := hv 2 (by omega)
        have v16 : vs 8 = .int .i64 (t.f (ii : Int)) := hv 8 (by omega)
        clear hv hg5
        simp only [putN, List.drop_succ_cons, List.drop_zero, List.getElem?_cons_succ, List.getElem?_cons_zero]
        generalize vs 2 = z10 at *
        subst v10
        generalize vs 8 = z16 at *
        subst v16
        generalize vs 0 = z8 at *
        generalize vs 1 = z9 at *
        generalize vs 3 = z11 at *
        generalize vs 4 = z12 at *
        generalize vs 5 = z13 at *
        generalize vs 6 = z14 at *
        generalize vs 7 = z15 at *
        have HG2 := Lib.hid (HGR.out.trans HGX.out)
        go_wp2
        go_roundw
        case measure => simp [intOf]; omega
        case rel => exact ⟨ii + 1, by omega, by go_num, HG2⟩
    · obtain rfl : ii = 16 := by omega
      have j1 : ¬ ((16 : Nat) : Int) < 16 := by omega
      go_wp2
      go_ret
      exact ⟨rfl, HGR.out⟩
end Go.Proofs.YtbpofdfehcbppaaDoor

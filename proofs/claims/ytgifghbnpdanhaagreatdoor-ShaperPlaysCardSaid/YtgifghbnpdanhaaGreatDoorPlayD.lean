/-
  millracelaw.played, for any queue. (Printed by genplayd.py.)
-/
import Derived.Test.YtgifghbnpdanhaaGreatDoorPlayC
import Derived.Test.YtgifghbnpdanhaaGreatDoorRegG
import Derived.BigGuardPart
import Derived.BigRegion
import Derived.Deep.DeepCutAuto
import Derived.Deep.CutBlock
import Derived.Deep.LoopGhost
namespace Go.Proofs.YtgifghbnpdanhaaGreatDoor
open Go.RowKit Go.Extern.Stop Go.Stop Go.Extern

theorem func_is_nil (w : World) : (binOp .neq 87 .nilFunc .nilFunc).run Tryz.prog w = .ok (.bool false) w := by kernel_rfl
theorem func_no_nil (f : FuncId) (caps : Array Value) (w : World) : (binOp .neq 87 (.func (.func f) #[] caps) .nilFunc).run Tryz.prog w = .ok (.bool true) w := by kernel_rfl
section
variable {ev : Operand → Value} {o : Oper} {w : World} {x y z : Operand} {u : Value}
theorem p_fa {p : Nat} (i k : Nat) (ho : o.op = .fieldAddr 101 x i) (h : ev x = .pointer (some ⟨p, 0, none⟩)) (hk : i = k) (h6 : k < 6) : (execOp ev o).run Tryz.prog w = .ok (.value (.pointer (some ⟨p, k, none⟩))) w := by
  subst hk
  match i, h6, ho with
  | 0, _, ho => simp [execOp, ho, h, go_sem]
  | 1, _, ho => simp [execOp, ho, h, go_sem]
  | 2, _, ho => simp [execOp, ho, h, go_sem]
  | 3, _, ho => simp [execOp, ho, h, go_sem]
  | 4, _, ho => simp [execOp, ho, h, go_sem]
  | 5, _, ho => simp [execOp, ho, h, go_sem]
theorem p_neq {n : Int} (ho : o.op = .binOp .neq 3 x y 3) (h : ev x = .int .i64 n) (k : ev y = .int .i64 n) : (execOp ev o).run Tryz.prog w = .ok (.value (.bool false)) w := by
  simp [execOp, ho, h, k, go_sem]
theorem p_pickF (ho : o.op = .pick x y z) (h : ev x = .bool false) (k : ev z = u) : (execOp ev o).run Tryz.prog w = .ok (.value u) w := by
  simp [execOp, ho, h, k, go_sem]
theorem p_pickT (ho : o.op = .pick x y z) (h : ev x = .bool true) (k : ev y = u) : (execOp ev o).run Tryz.prog w = .ok (.value u) w := by
  simp [execOp, ho, h, k, go_sem]
theorem p_not {b : Bool} {t : TypeId} (ho : o.op = .unOp .not t x) (h : ev x = .bool b) : (execOp ev o).run Tryz.prog w = .ok (.value (.bool (!b))) w := by
  simp [execOp, ho, h, go_sem]
theorem p_len {a : Option Addr} {n c : Nat} (ho : o.op = .call { callee := .builtin .len, args := #[x], argTypes := #[44] }) (h : ev x = .slice a n c) : (execOp ev o).run Tryz.prog w = .ok (.value (.int .i64 (n : Int))) w := by
  simp [execOp, ho, h, resolve, invoke, builtin, Builtin.len_, go_sem]
theorem p_call1 {v : Value} {t : TypeId} (ho : o.op = .call { callee := .value (.func 27), args := #[x], argTypes := #[t] }) (hf : ev (.func 27) = .func (.func 27) #[] #[]) (h : ev x = v) : (execOp ev o).run Tryz.prog w = .ok (.enter 27 #[v]) w := by
  simp [execOp, ho, h, hf, resolve, invoke, go_sem]
theorem p_call2 {v v2 : Value} {t : TypeId} (ho : o.op = .call { callee := .value (.func 19), args := #[x, y], argTypes := #[t, t] }) (hf : ev (.func 19) = .func (.func 19) #[] #[]) (h : ev x = v) (k : ev y = v2) : (execOp ev o).run Tryz.prog w = .ok (.enter 19 #[v, v2]) w := by
  simp [execOp, ho, h, k, hf, resolve, invoke, go_sem]
theorem p_callv {f : FuncId} {caps : Array Value} (ho : o.op = .call { callee := .value x, args := #[], argTypes := #[] }) (h : ev x = .func (.func f) #[] caps) (hc : ∀ w, (callFunc f caps).run Tryz.prog w = .ok (.enter f caps) w) : (execOp ev o).run Tryz.prog w = .ok (.enter f caps) w := by
  simp [execOp, ho, h, resolve, Deferred.ofValue, invoke]
  exact hc w
theorem p_isnil (ho : o.op = .binOp .neq 87 x (.const .nilFunc) 87) (h : ev x = .nilFunc) (k : ev (.const .nilFunc) = .nilFunc) : (execOp ev o).run Tryz.prog w = .ok (.value (.bool false)) w := by
  have e := func_is_nil w
  simp [execOp, ho, h, k, e, go_sem]
theorem p_nonil {f : FuncId} {caps : Array Value} (ho : o.op = .binOp .neq 87 x (.const .nilFunc) 87) (h : ev x = .func (.func f) #[] caps) (k : ev (.const .nilFunc) = .nilFunc) : (execOp ev o).run Tryz.prog w = .ok (.value (.bool true)) w := by
  have e := func_no_nil f caps w
  simp [execOp, ho, h, k, e, go_sem]
end
theorem calls_here (f : FuncId) {P : Program} {args : Array Value} {w : World} {R : Ending → World → Prop} (h : Calls P f args w R) : Calls P f args w R := h
section
variable {α β γ : Type} {M : Mach α} {N0 : Nat} {S : Side M N0 β} {T : Side M N0 γ} {q r : Value}
/-- In the midst of 'played'. -/
structure PlayI (S : Side M N0 β) (T : Side M N0 γ) (w wr : World) (ts : List Stp) (tv : Value) (b : β) (c : γ) (a : α) (n : Nat) : Prop where
  both : Both S T wr b c a a n n
  row : RowS 92 wr tv ts
  own : ∀ g, tv.ownBlock = some g → N0 ≤ g ∧ ¬ S.F b g ∧ ¬ T.F c g
  sav : Sav (fun g => N0 ≤ g) w wr
theorem Mach.step_n (M : Mach α) (a : α) (s : Stp) (n : Nat) : n ≤ (M.step a s n).2.1 ∧ (M.step a s n).2.1 ≤ n + 1 := by
  unfold Mach.step
  split
  · exact ⟨Nat.le_succ _, Nat.le_refl _⟩
  · split <;> exact ⟨Nat.le_refl _, Nat.le_succ _⟩
theorem Acts.fewStep {E : TypeId} (R : Acts T E r) {w : World} {c : γ} {a : α} {n : Nat} {s : Stp} (h : T.I w c a n) (g : GoodStp s n) : (M.step a s n).2.2.lost.length ≤ 1000 := by
  by_cases h0 : s.what = 0
  · rw [M.step0 a n h0]; exact R.fewPut h (g.put h0)
  · by_cases h1 : s.what = 1
    · rw [M.step1 a n h1]; exact R.fewTake h g.clock
    · rw [M.step2 a n h0 h1]; exact Nat.zero_le _
set_option maxRecDepth 100000 in
set_option maxHeartbeats 40000000 in
theorem played_any (P : PSide S q) (R : RSide T r) (w : World) (b : β) (c : γ) (a : α) (h : Both S T w b c a a 0 0) (hN : N0 ≤ w.heap.size) (v : Value) (xs : List Stp) (hx : StpIn w v xs) (hl : xs.length ≤ 120) (th : Value) (ht : ThenOk S T th) :
    Calls Tryz.prog 10 #[q, r, v, th] w fun e w' => e = .returned (.bool true) ∧ Sav (fun g => N0 ≤ g) w w' := by
  obtain ⟨fp, rp, hmPut, hcp⟩ := R.put
  obtain ⟨ft, rt, hmTake, hct⟩ := R.take
  obtain ⟨fw, rw_, hmWhen, hcw⟩ := R.when_
  obtain ⟨fl, rl, hmAll, hcl⟩ := R.all
  have HCP := Lib.hid hcp
  have HCT := Lib.hid hct
  have HCW := Lib.hid hcw
  have HCL := Lib.hid hcl
  have HNN := Lib.hid hN
  have HH := Lib.hid h
  have HPP := Lib.hid P
  have HLN := Lib.hid hl
  have HX := Lib.hid hx
  have HTH := Lib.hid ht
  have HFS := Lib.hid (fun w c a n s (h1 : T.I w c a n) (h2 : GoodStp s n) => R.toActs.fewStep h1 h2)
  have HFW := Lib.hid (fun w b a n (h1 : T.I w b a n) => R.few h1)
  clear hcp hct hcw hcl hN h hl hx ht P R
  go_enter Tryz.func10, Tryz.ntmps10
  go_wp2_with (go_at_call 25; refine (times_any v xs w HX.out (by have := HLN.out; omega)).mono ?_; rintro e w1 ⟨tv, rfl, hrow, hg, hown⟩; have HR0 := Lib.hid hrow; have HG0 := Lib.hid hg; have HO0 := Lib.hid hown; obtain ⟨ta, tc, rfl⟩ := hrow.shape; clear hrow hg hown)
  have HGOOD := Lib.hid (fun n (hn : n < 200) => timesOf_good 0 xs (Int.le_refl _) (by have := HLN.out; omega) n hn)
  have HTL := Lib.hid (timesOf_length 0 xs)
  generalize timesOf 0 xs = ts at *
  go_loopg [10, 11] ts.length (fun g s10 s11 wr => ∃ (j n : Nat) (a : α) (b : β) (c : γ), j ≤ ts.length ∧ n ≤ j ∧ s10 = .int .i64 (n : Int) ∧ s11 = .int .i64 (j : Int) ∧ g = ts.length - j ∧ Hid (PlayI S T w wr ts (.slice ta ts.length tc) b c a n))
  case atStart => exact ⟨0, 0, a, b, c, Nat.zero_le _, Nat.le_refl _, rfl, rfl, rfl, ⟨HH.out.gr HG0.out, HR0.out, fun g hg => ⟨Nat.le_trans HNN.out (HO0.out g hg), fun e => by have := HH.out.s; have := S.lt this e; have := HO0.out g hg; omega, fun e => by have := HH.out.t; have := T.lt this e; have := HO0.out g hg; omega⟩, .of_gr HG0.out⟩⟩
  case round =>
    clear a b c HH HR0 HG0 HO0
    obtain ⟨j, n, a, b, c, hj, hnj, rfl, rfl, rfl, HI⟩ := hrel
    by_cases hjl : j < ts.length
    · have j0 : (0 : Int) ≤ (j : Int) := by omega
      have j1 : (j : Int) < (ts.length : Int) := by omega
      obtain ⟨la2, lc2, he2, _, _, h3⟩ := HI.out.row.any
      obtain ⟨lb, lo, hla, h4⟩ := h3.out (by omega)
      injection he2 with he3 he4 he5
      obtain rfl : ta = some ⟨lb, lo, none⟩ := he3.trans hla
      obtain ⟨c0, c1, c2, c3, c4, c5, c6⟩ := h4 j hjl
      clear h3 h4 he5 he3 he4 hla
      have HNJ := Lib.hid (show n < 200 ∧ n ≤ j ∧ j < 120 from by have := HLN.out; have := HTL.out; omega)
      have HGS := Lib.hid (HGOOD.out n HNJ.out.1 (ts.getD j .zero) (by rw [List.getD_eq_getElem?_getD, List.getElem?_eq_getElem hjl]; exact List.getElem_mem hjl))
      generalize ts.getD j .zero = s at *
      obtain ⟨what, later, t, len, flow, band, mark⟩ := s
      simp only [] at c0 c1 c2 c3 c4 c5 c6
      go_upto_block 2 with fail
      obtain ⟨ws, hws⟩ : ∃ ws, ws = wr.alloc (.cells #[.int .i64 what, .int .i64 later, .int .i64 t, .int .i64 len, .int .i64 flow, .int .i64 band, .int .i64 mark] 92) := ⟨_, rfl⟩
      obtain ⟨sb, hsb⟩ : ∃ sb, sb = wr.heap.size := ⟨_, rfl⟩
      have HSA : Hid (StpAt ws sb 0 (⟨what, later, ⟨t, len, flow, band, mark⟩⟩ : Stp) ∧ ¬ S.F b sb ∧ ¬ T.F c sb ∧ N0 ≤ sb) := Lib.hid (by
        rw [hws, hsb]
        exact ⟨StpAt.new wr (⟨what, later, ⟨t, len, flow, band, mark⟩⟩ : Stp) rfl, fun e => by have := S.lt HI.out.both.s e; omega, fun e => by have := T.lt HI.out.both.t e; omega, Nat.le_trans HNN.out HI.out.sav.size⟩)
      have HB0 : Hid (Both S T ws b c a a n n) := Lib.hid (by rw [hws]; exact HI.out.both.gr ((Gr.refl _).alloc _))
      have HG0 : Hid (Gr wr ws) := Lib.hid (by rw [hws]; exact (Gr.refl _).alloc _)
      have HRW := Lib.hid (HI.out.row.gr HG0.out)
      have HKV := Lib.hid (HI.out.sav.then (.of_gr HG0.out))
      have HOW := Lib.hid HI.out.own
      rw [← hws, ← hsb]
      clear hws hsb c0 c1 c2 c3 c4 c5 c6
      obtain ⟨c0, c1', c2, c3, c4, c5, c6⟩ := HSA.out.1
      simp only [] at c0 c1' c2 c3 c4 c5 c6
      go_cut [10, 13, 14, 15, 16] (fun s10 s13 s14 s15 s16 wx => ∃ (c' : γ) (la : Option Addr) (lc : Nat), s10 = .int .i64 ((M.step a (⟨what, later, ⟨t, len, flow, band, mark⟩⟩ : Stp) n).2.1 : Int) ∧ s13 = .int .i64 (M.step a (⟨what, later, ⟨t, len, flow, band, mark⟩⟩ : Stp) n).2.2.taken ∧ s14 = .int .i64 (M.step a (⟨what, later, ⟨t, len, flow, band, mark⟩⟩ : Stp) n).2.2.mark ∧ s15 = .int .i64 (M.step a (⟨what, later, ⟨t, len, flow, band, mark⟩⟩ : Stp) n).2.2.at_ ∧ s16 = .slice la (M.step a (⟨what, later, ⟨t, len, flow, band, mark⟩⟩ : Stp) n).2.2.lost.length lc ∧ RowH 95 wx (.slice la (M.step a (⟨what, later, ⟨t, len, flow, band, mark⟩⟩ : Stp) n).2.2.lost.length lc) (M.step a (⟨what, later, ⟨t, len, flow, band, mark⟩⟩ : Stp) n).2.2.lost ∧ T.Moved ws c wx c' (M.step a (⟨what, later, ⟨t, len, flow, band, mark⟩⟩ : Stp) n).1 (M.step a (⟨what, later, ⟨t, len, flow, band, mark⟩⟩ : Stp) n).2.1 ∧ True)
      case first =>
        by_cases hw0 : what = 0
        · subst hw0
          have HST := Lib.hid (M.step0 a n (s := (⟨0, later, ⟨t, len, flow, band, mark⟩⟩ : Stp)) rfl)
          have HG := Lib.hid (HGS.out.put rfl)
          have HPC := Lib.hid (HCP.out ws c a n later (hel ⟨t, len, flow, band, mark⟩ n) HB0.out.t HG.out)
          generalize M.put a later (hel ⟨t, len, flow, band, mark⟩ n) = res at *
          unfold Hel.val hel at HPC
          simp only [] at HPC
          go_wp2_with ((with_reducible refine wpList_here "Put" ?_); refine wpList_invoke hmPut rfl _ _ _ rfl rfl (ys := [.int .i64 later, .agg #[.int .i64 t, .int .i64 len, .int .i64 flow, .int .i64 band, .int .i64 mark, .int .i64 (n : Int)]]) rfl HPC.out ?_; rintro e w1 ⟨v1, c1, rfl, hrow, hmv⟩; have HM1 := Lib.hid hmv; have HL1 := Lib.hid hrow; obtain ⟨lra, lrc, rfl⟩ := hrow.shape; clear hrow hmv; refine ⟨_, rfl, ?_⟩)
          rw [show wrap64 ((n : Int) + 1) = ((n + 1 : Nat) : Int) from by have := HNJ.out; unfold wrap64; omega]
          go_meet
          exact ⟨c1, lra, lrc, by rw [HST.out], by rw [HST.out], by rw [HST.out], by rw [HST.out], by rw [HST.out], by rw [HST.out]; exact HL1.out, by rw [HST.out]; exact HM1.out, trivial⟩
        · by_cases hw1 : what = 1
          · subst hw1
            have HST := Lib.hid (M.step1 a n (s := (⟨1, later, ⟨t, len, flow, band, mark⟩⟩ : Stp)) rfl)
            have HPC := Lib.hid (HCT.out ws c a n later HB0.out.t HGS.out.clock)
            generalize M.take a later = res at *
            obtain ⟨a1, x, L, ok⟩ := res
            unfold Mach.outTake at HST
            simp only [] at HST HPC
            unfold Hel.val at HPC
            go_upto_region 20 with ((with_reducible refine wpList_here "Take" ?_); refine wpList_invoke hmTake rfl _ _ _ rfl rfl (ys := [.int .i64 later]) rfl HPC.out ?_; rintro e w1 ⟨v1, c1, rfl, hrow, hmv⟩; have HM1 := Lib.hid hmv; have HL1 := Lib.hid hrow; obtain ⟨lra, lrc, rfl⟩ := hrow.shape; clear hrow hmv; refine ⟨_, rfl, ?_⟩)
            obtain ⟨w2, hw2⟩ : ∃ w2, w2 = w1.alloc (.cells #[.int .i64 x.t, .int .i64 x.len, .int .i64 x.flow, .int .i64 x.band, .int .i64 x.mark, .int .i64 x.n] 95) := ⟨_, rfl⟩
            have HM2 : Hid (T.Moved ws c w2 c1 a1 n) := Lib.hid (by rw [hw2]; exact .gr T HM1.out ((Gr.refl _).alloc _))
            have HL2 : Hid (RowH 95 w2 (.slice lra L.length lrc) L) := Lib.hid (by rw [hw2]; exact HL1.out.gr ((Gr.refl _).alloc _))
            obtain ⟨hb, hhb⟩ : ∃ hb, hb = w1.heap.size := ⟨_, rfl⟩
            have HX1 : Hid (HelAt w2 hb 0 x) := Lib.hid (by
              rw [hw2]
              exact held_new w1 x hhb)
            rw [← hw2, ← hhb]
            clear hw2 hhb
            obtain ⟨x0, x1, x2, x3, x4, x5⟩ := HX1.out
            cases ok with
            | false =>
              go_wp2
              go_meet
              exact ⟨c1, lra, lrc, by rw [HST.out], by rw [HST.out]; rfl, by rw [HST.out]; rfl, by rw [HST.out], by rw [HST.out], by rw [HST.out]; exact HL2.out, by rw [HST.out]; exact HM2.out, trivial⟩
            | true =>
              go_wp2
              go_region
              go_wp2
              go_meet
              exact ⟨c1, lra, lrc, by rw [HST.out], by rw [HST.out]; rfl, by rw [HST.out]; rfl, by rw [HST.out], by rw [HST.out], by rw [HST.out]; exact HL2.out.gr (Gr.refl _).drew, by rw [HST.out]; exact .gr T HM2.out (Gr.refl _).drew, trivial⟩
          · have HST := Lib.hid (M.step2 a n (s := (⟨what, later, ⟨t, len, flow, band, mark⟩⟩ : Stp)) (show what ≠ 0 from hw0) (show what ≠ 1 from hw1))
            have HPC := Lib.hid (HCW.out ws c a n later HB0.out.t HGS.out.clock)
            have hb0 : (what == 0) = false := by simp [hw0]
            have hb1 : (what == 1) = false := by simp [hw1]
            generalize M.when_ a later = res at *
            obtain ⟨a1, at1, ok⟩ := res
            unfold Mach.outWhen at HST
            simp only [] at HST HPC
            go_upto_region 12 with ((with_reducible refine wpList_here "When" ?_); refine wpList_invoke hmWhen rfl _ _ _ rfl rfl (ys := [.int .i64 later]) rfl HPC.out ?_; rintro e w1 ⟨c1, rfl, hmv⟩; have HM1 := Lib.hid hmv; clear hmv; refine ⟨_, rfl, ?_⟩)
            cases ok with
            | false =>
              go_wp2
              go_meet
              exact ⟨c1, none, 0, by rw [HST.out], by rw [HST.out], by rw [HST.out], by rw [HST.out]; rfl, by rw [HST.out]; rfl, by rw [HST.out]; exact RowH.nil _ _, by rw [HST.out]; exact HM1.out, trivial⟩
            | true =>
              go_wp2
              go_meet
              exact ⟨c1, none, 0, by rw [HST.out], by rw [HST.out], by rw [HST.out], by rw [HST.out]; rfl, by rw [HST.out]; rfl, by rw [HST.out]; exact RowH.nil _ _, by rw [HST.out]; exact HM1.out, trivial⟩
      case rest =>
        obtain ⟨c1, la, lc, rfl, rfl, rfl, rfl, rfl, hrow, hmv, _⟩ := hcut
        have HLN1 := Lib.hid (HFS.out ws c a n (⟨what, later, ⟨t, len, flow, band, mark⟩⟩ : Stp) HB0.out.t HGS.out)
        have HNS := Lib.hid (M.step_n a (⟨what, later, ⟨t, len, flow, band, mark⟩⟩ : Stp) n)
        obtain ⟨res, hres⟩ : ∃ res, M.step a (⟨what, later, ⟨t, len, flow, band, mark⟩⟩ : Stp) n = res := ⟨_, rfl⟩
        have HRES := Lib.hid hres
        rw [hres] at hrow hmv HLN1 HNS ⊢
        clear hres
        obtain ⟨a', n', o⟩ := res
        simp only [] at hrow hmv HLN1 HNS ⊢
        have HL1 := Lib.hid hrow
        have HM1 := Lib.hid hmv
        have HB1 := Lib.hid (HB0.out.stepT hmv)
        have HRW2 := Lib.hid (HRW.out.sav hmv.sav (fun g hg => (HOW.out g hg).2.2))
        have HKV2 := Lib.hid (HKV.out.then (hmv.sav.mono fun g hg => T.lo HB0.out.t hg))
        have HON2 := Lib.hid (fun g (hg : (Value.slice (some ⟨lb, lo, none⟩) ts.length tc).ownBlock = some g) (e : T.F c1 g) => (hmv.new g e).elim (HOW.out g hg).2.2 (fun h1 => absurd (HRW.out.lt hg) (by omega)))
        clear hrow hmv
        obtain ⟨L, hL⟩ : ∃ L, L = o.lost := ⟨_, rfl⟩
        rw [← hL] at HL1 HLN1 ⊢
        have HLO := Lib.hid hL
        clear hL
        go_wp2
        go_loopg [23, 24] L.length (fun g s23 s24 wy => ∃ (k : Nat), k ≤ L.length ∧ s24 = .int .i64 (k : Int) ∧ g = L.length - k ∧ Hid (Gr wc wy ∧ IntRow wy s23 ((L.take k).map Hel.n) ∧ ∀ g, s23.ownBlock = some g → wc.heap.size ≤ g))
        case atStart => exact ⟨0, Nat.zero_le _, rfl, rfl, Gr.refl _, IntRow.nil _, fun g hg => by cases hg⟩
        case round =>
          obtain ⟨k, hk, rfl, rfl, HW⟩ := hrel
          by_cases hkl : k < L.length
          · have k0 : (0 : Int) ≤ (k : Int) := by omega
            have k1 : (k : Int) < (L.length : Int) := by omega
            obtain ⟨la2, lc2, he2, _, _, h3⟩ := HL1.out.any
            obtain ⟨kb, ko, hka, h4⟩ := h3.out (by omega)
            injection he2 with he3 he4 he5
            obtain rfl : la = some ⟨kb, ko, none⟩ := he3.trans hka
            have hy0 := ((h4 k hkl).gr HW.out.1).c5
            clear h3 h4 he5 he3 he4 hka
            have HZS : Hid ((L.take (k + 1)).map Hel.n = (L.take k).map Hel.n ++ [(L.getD k .zero).n]) := Lib.hid (by
              rw [List.take_add_one, List.map_append, List.getElem?_eq_getElem hkl]
              simp [List.getD_eq_getElem?_getD, hkl])
            have HZL := Lib.hid (show ((L.take k).map Hel.n).length ≤ 1000000 from by rw [List.length_map, List.length_take]; have := HLN1.out; omega)
            generalize (L.getD k .zero).n = y at *
            generalize (L.take k).map Hel.n = zs at *
            go_wp2_with (at_builtin; refine wpList_append_intR rfl _ _ _ (by rfl) (by kernel_rfl) _ zs y (by rfl) (HW.out.2.1.gr ((Gr.refl _).alloc _)) ⟨wr.heap.size, 0, none⟩ 1 (by rfl) (by simp) HZL.out ?_; intro v' w' hrow hgr hown; have HR := Lib.hid hrow; have HG := Lib.hid hgr; have HO := Lib.hid hown; clear hrow hgr hown)
            rw [show wrap64 ((k : Int) + 1) = ((k + 1 : Nat) : Int) from by have := HLN1.out; unfold wrap64; omega]
            go_roundg (L.length - (k + 1))
            case measure => omega
            case rel =>
              refine ⟨k + 1, by omega, rfl, rfl, gr_grown HG.out (HW.out.1.alloc _) fun q hq => HW.out.2.2 q hq, by rw [HZS.out]; exact HR.out, fun g hg => ?_⟩
              rcases HO.out g hg with h1 | h1
              · exact HW.out.2.2 g h1
              · have := HW.out.1.size; simp at h1; omega
          · obtain rfl : k = L.length := by omega
            rw [List.take_length] at HW
            have HB2 := Lib.hid (HB1.out.gr HW.out.1)
            have HRW3 := Lib.hid (HRW2.out.gr HW.out.1)
            have HKV3 := Lib.hid (HKV2.out.then (.of_gr HW.out.1))
            have HNW := Lib.hid (show N0 ≤ wr.heap.size from Nat.le_trans HSA.out.2.2.2 (Nat.le_trans (Nat.le_of_lt (cell_lt HSA.out.1.c0)) (Nat.le_trans HM1.out.sav.size HW.out.1.size)))
            have HSN := Lib.hid (seen_any HPP.out wr b a n (⟨what, later, ⟨t, len, flow, band, mark⟩⟩ : Stp) HB2.out.s HGS.out HNW.out)
            rw [HRES.out] at HSN
            simp only [] at HSN
            have HSA2 := Lib.hid ((HSA.out.1.sav HM1.out.sav HSA.out.2.2.1).gr HW.out.1)
            clear c0 c1' c2 c3 c4 c5 c6
            obtain ⟨d0, d1, d2, d3, d4, d5, d6⟩ := HSA2.out
            simp only [] at d0 d1 d2 d3 d4 d5 d6
            go_upto_region 29 with (first
              | (go_at_call 26; refine (HSN.out).mono ?_; rintro e w2 ⟨b1, ra, rc, rfl, hrow, hmv, hown⟩; have HR2 := Lib.hid hrow; have HM2 := Lib.hid hmv; have HO2 := Lib.hid hown; have HB3 := Lib.hid (HB2.out.stepS hmv); have HRW4 := Lib.hid (HRW3.out.sav hmv.sav (fun g hg => (HOW.out g hg).2.1)); have HKV4 := Lib.hid (HKV3.out.then (hmv.sav.mono fun g hg => S.lo HB2.out.s hg)); have HON4 := Lib.hid (fun g (hg : (Value.slice (some ⟨lb, lo, none⟩) ts.length tc).ownBlock = some g) (e : S.F b1 g) => (hmv.new g e).elim (HOW.out g hg).2.1 (fun h1 => absurd (HRW3.out.lt hg) (by omega))); clear hrow hmv hown d0 d1 d2 d3 d4 d5 d6)
              | ((with_reducible refine wpList_here "All" ?_); refine wpList_invoke hmAll rfl _ _ _ rfl rfl (ys := []) rfl (HCL.out _ c1 a' n' (T.gr HB3.out.t ((Gr.refl _).alloc _))) ?_; rintro e w4 ⟨v4, rfl, hrow, hg⟩; have HR4 := Lib.hid hrow; have HG4 := Lib.hid hg; obtain ⟨va, vc, rfl⟩ := hrow.shape; clear hrow hg; refine ⟨_, rfl, ?_⟩))
            obtain ⟨pb, hpb⟩ : ∃ pb, pb = w2.heap.size := ⟨_, rfl⟩
            have HSE : Hid (SeenAt w4 pb o.taken o.mark o.at_ (M.all a').length (sumLen (M.all a')) (.slice ra o.lost.length rc)) := Lib.hid ((seen_new w2 hpb).sav (B := fun _ => False) (.of_gr HG4.out) id)
            have HGO : Hid (IntRow w4 u23 (L.map Hel.n)) := Lib.hid ((HW.out.2.1.sav HM2.out.sav (fun g hg e => by have h1 := S.lt HB1.out.s e; have h2 := HW.out.2.2 g hg; omega)).gr (((Gr.refl _).alloc _).trans HG4.out))
            have HLR : Hid (IntRow w4 (.slice ra o.lost.length rc) (o.lost.map Hel.n)) := Lib.hid (HR2.out.gr (((Gr.refl _).alloc _).trans HG4.out))
            have HFA := Lib.hid (HFW.out _ c1 a' n' HB3.out.t)
            have HB4 := Lib.hid (HB3.out.gr (((Gr.refl _).alloc _).trans HG4.out))
            have HRW5 := Lib.hid (HRW4.out.gr (((Gr.refl _).alloc _).trans HG4.out))
            have HKV5 := Lib.hid (HKV4.out.then (.of_gr (((Gr.refl _).alloc _).trans HG4.out)))
            obtain rfl : L = o.lost := HLO.out
            clear HLO
            rw [← hpb]
            clear hpb
            generalize M.all a' = A at *
            have HBY := Lib.hid (fun W (g : Gr w4 W) => rbytes_any (.slice va A.length vc) A W (HR4.out.gr g) HFA.out.1 HFA.out.2)
            have HSI := Lib.hid (fun W (g : Gr w4 W) => sameInts_any W (HLR.out.gr g).ints (HGO.out.gr g).ints)
            obtain ⟨e0, _, e1, _, e2, _, e3, _, e4, _, e5, _⟩ := HSE.out
            go_cut [145] (fun s145 wx => s145 = .bool false ∧ Gr w4 wx)
            case first =>
              rcases HTH.out with rfl | ⟨f, caps, rfl, hcf, hth⟩
              · refine wp_region_gg (n := 45) [Fg.eq (.pointer (some ⟨pb, 0, none⟩)), Fg.eq (.int .i64 o.taken), Fg.eq (.int .i64 o.taken), Fg.eq (.bool false), Fg.eq (.bool false), Fg.eq (.pointer (some ⟨pb, 1, none⟩)), Fg.eq (.int .i64 o.mark), Fg.eq (.int .i64 o.mark), Fg.eq (.bool false), Fg.eq (.bool false), Fg.eq (.bool false), Fg.eq (.pointer (some ⟨pb, 2, none⟩)), Fg.eq (.int .i64 o.at_), Fg.eq (.int .i64 o.at_), Fg.eq (.bool false), Fg.eq (.bool false), Fg.eq (.bool false), Fg.eq (.pointer (some ⟨pb, 3, none⟩)), Fg.eq (.int .i64 (A.length : Int)), Fg.eq (.slice va A.length vc), Fg.eq (.int .i64 (A.length : Int)), Fg.eq (.bool false), Fg.eq (.bool false), Fg.eq (.bool false), Fg.eq (.pointer (some ⟨pb, 4, none⟩)), Fg.eq (.int .i64 (sumLen A)), Fg.eq (.slice va A.length vc), Fg.eq (.int .i64 (sumLen A)), Fg.eq (.bool false), Fg.eq (.bool false), Fg.eq (.bool false), Fg.eq (.pointer (some ⟨pb, 5, none⟩)), Fg.eq (.slice ra o.lost.length rc), Fg.eq (u23), Fg.eq (.bool true), Fg.eq (.bool false), Fg.eq (.bool false), Fg.eq (.bool false), Fg.eq (.nilFunc), Fg.eq (.bool false), Fg.eq (.bool false), Fg.eq undef, Fg.eq undef, Fg.eq undef, Fg.eq (.bool false)] [100, 101, 102, 103, 104, 105, 106, 107, 108, 109, 110, 111, 112, 113, 114, 115, 116, 117, 118, 119, 120, 121, 122, 123, 124, 125, 126, 127, 128, 129, 130, 131, 132, 133, 134, 135, 136, 137, 138, 139, 140, 141, 142, 143, 144] (by kernel_rfl) (by kernel_rfl) (by kernel_rfl) ?_ ?_
                · intro L i o' a w1 hi ho hA
                  have hgr : Gr w4 w1 := (Gr.refl w4).drew.trans hA.gr
                  match i, hi with
                  | 0, _ =>
                    obtain rfl := Option.some.inj ho
                    exact gg_plain rfl (gstep_val (p_fa 0 0 rfl (show a.eval (.tmp 25) = .pointer (some ⟨pb, 0, none⟩) from hA.other 25 (by decide)) rfl (by decide)) rfl)
                  | 1, _ =>
                    obtain rfl := Option.some.inj ho
                    exact gg_plain rfl (gstep_val (q_loadI rfl (hA.fact 0 (hA.dep 0 (by kernel_rfl) (by decide))) (hgr.cell e0)) rfl)
                  | 2, _ =>
                    obtain rfl := Option.some.inj ho
                    exact gg_plain rfl (gstep_val (q_move rfl (show a.eval (.tmp 13) = .int .i64 o.taken from hA.other 13 (by decide))) rfl)
                  | 3, _ =>
                    obtain rfl := Option.some.inj ho
                    exact gg_plain rfl (gstep_val (p_neq rfl (hA.fact 1 (hA.dep 1 (by kernel_rfl) (by decide))) (hA.fact 2 (hA.dep 2 (by kernel_rfl) (by decide)))) rfl)
                  | 4, _ =>
                    obtain rfl := Option.some.inj ho
                    exact gg_plain rfl (gstep_val (q_move rfl (hA.fact 3 (hA.dep 3 (by kernel_rfl) (by decide)))) rfl)
                  | 5, _ =>
                    obtain rfl := Option.some.inj ho
                    exact gg_yes (b := false) rfl (hA.fact 4 (hA.dep 4 (by kernel_rfl) (by decide))) (gstep_val (p_fa 1 1 rfl (show a.eval (.tmp 25) = .pointer (some ⟨pb, 0, none⟩) from hA.other 25 (by decide)) rfl (by decide)) rfl)
                  | 6, _ =>
                    obtain rfl := Option.some.inj ho
                    exact gg_yes (b := false) rfl (hA.fact 4 (hA.dep 4 (by kernel_rfl) (by decide))) (gstep_val (q_loadI rfl (hA.fact 5 (hA.dep 5 (by kernel_rfl) (by decide))) (hgr.cell e1)) rfl)
                  | 7, _ =>
                    obtain rfl := Option.some.inj ho
                    exact gg_yes (b := false) rfl (hA.fact 4 (hA.dep 4 (by kernel_rfl) (by decide))) (gstep_val (q_move rfl (show a.eval (.tmp 14) = .int .i64 o.mark from hA.other 14 (by decide))) rfl)
                  | 8, _ =>
                    obtain rfl := Option.some.inj ho
                    exact gg_yes (b := false) rfl (hA.fact 4 (hA.dep 4 (by kernel_rfl) (by decide))) (gstep_val (p_neq rfl (hA.fact 6 (hA.dep 6 (by kernel_rfl) (by decide))) (hA.fact 7 (hA.dep 7 (by kernel_rfl) (by decide)))) rfl)
                  | 9, _ =>
                    obtain rfl := Option.some.inj ho
                    exact gg_plain rfl (gstep_val (p_pickF rfl (hA.fact 4 (hA.dep 4 (by kernel_rfl) (by decide))) (hA.fact 8 (hA.dep 8 (by kernel_rfl) (by decide)))) rfl)
                  | 10, _ =>
                    obtain rfl := Option.some.inj ho
                    exact gg_plain rfl (gstep_val (q_move rfl (hA.fact 9 (hA.dep 9 (by kernel_rfl) (by decide)))) rfl)
                  | 11, _ =>
                    obtain rfl := Option.some.inj ho
                    exact gg_yes (b := false) rfl (hA.fact 10 (hA.dep 10 (by kernel_rfl) (by decide))) (gstep_val (p_fa 2 2 rfl (show a.eval (.tmp 25) = .pointer (some ⟨pb, 0, none⟩) from hA.other 25 (by decide)) rfl (by decide)) rfl)
                  | 12, _ =>
                    obtain rfl := Option.some.inj ho
                    exact gg_yes (b := false) rfl (hA.fact 10 (hA.dep 10 (by kernel_rfl) (by decide))) (gstep_val (q_loadI rfl (hA.fact 11 (hA.dep 11 (by kernel_rfl) (by decide))) (hgr.cell e2)) rfl)
                  | 13, _ =>
                    obtain rfl := Option.some.inj ho
                    exact gg_yes (b := false) rfl (hA.fact 10 (hA.dep 10 (by kernel_rfl) (by decide))) (gstep_val (q_move rfl (show a.eval (.tmp 15) = .int .i64 o.at_ from hA.other 15 (by decide))) rfl)
                  | 14, _ =>
                    obtain rfl := Option.some.inj ho
                    exact gg_yes (b := false) rfl (hA.fact 10 (hA.dep 10 (by kernel_rfl) (by decide))) (gstep_val (p_neq rfl (hA.fact 12 (hA.dep 12 (by kernel_rfl) (by decide))) (hA.fact 13 (hA.dep 13 (by kernel_rfl) (by decide)))) rfl)
                  | 15, _ =>
                    obtain rfl := Option.some.inj ho
                    exact gg_plain rfl (gstep_val (p_pickF rfl (hA.fact 10 (hA.dep 10 (by kernel_rfl) (by decide))) (hA.fact 14 (hA.dep 14 (by kernel_rfl) (by decide)))) rfl)
                  | 16, _ =>
                    obtain rfl := Option.some.inj ho
                    exact gg_plain rfl (gstep_val (q_move rfl (hA.fact 15 (hA.dep 15 (by kernel_rfl) (by decide)))) rfl)
                  | 17, _ =>
                    obtain rfl := Option.some.inj ho
                    exact gg_yes (b := false) rfl (hA.fact 16 (hA.dep 16 (by kernel_rfl) (by decide))) (gstep_val (p_fa 3 3 rfl (show a.eval (.tmp 25) = .pointer (some ⟨pb, 0, none⟩) from hA.other 25 (by decide)) rfl (by decide)) rfl)
                  | 18, _ =>
                    obtain rfl := Option.some.inj ho
                    exact gg_yes (b := false) rfl (hA.fact 16 (hA.dep 16 (by kernel_rfl) (by decide))) (gstep_val (q_loadI rfl (hA.fact 17 (hA.dep 17 (by kernel_rfl) (by decide))) (hgr.cell e3)) rfl)
                  | 19, _ =>
                    obtain rfl := Option.some.inj ho
                    exact gg_yes (b := false) rfl (hA.fact 16 (hA.dep 16 (by kernel_rfl) (by decide))) (gstep_val (q_move rfl (show a.eval (.tmp 26) = .slice va A.length vc from hA.other 26 (by decide))) rfl)
                  | 20, _ =>
                    obtain rfl := Option.some.inj ho
                    exact gg_yes (b := false) rfl (hA.fact 16 (hA.dep 16 (by kernel_rfl) (by decide))) (gstep_val (p_len rfl (hA.fact 19 (hA.dep 19 (by kernel_rfl) (by decide)))) rfl)
                  | 21, _ =>
                    obtain rfl := Option.some.inj ho
                    exact gg_yes (b := false) rfl (hA.fact 16 (hA.dep 16 (by kernel_rfl) (by decide))) (gstep_val (p_neq rfl (hA.fact 18 (hA.dep 18 (by kernel_rfl) (by decide))) (hA.fact 20 (hA.dep 20 (by kernel_rfl) (by decide)))) rfl)
                  | 22, _ =>
                    obtain rfl := Option.some.inj ho
                    exact gg_plain rfl (gstep_val (p_pickF rfl (hA.fact 16 (hA.dep 16 (by kernel_rfl) (by decide))) (hA.fact 21 (hA.dep 21 (by kernel_rfl) (by decide)))) rfl)
                  | 23, _ =>
                    obtain rfl := Option.some.inj ho
                    exact gg_plain rfl (gstep_val (q_move rfl (hA.fact 22 (hA.dep 22 (by kernel_rfl) (by decide)))) rfl)
                  | 24, _ =>
                    obtain rfl := Option.some.inj ho
                    exact gg_yes (b := false) rfl (hA.fact 23 (hA.dep 23 (by kernel_rfl) (by decide))) (gstep_val (p_fa 4 4 rfl (show a.eval (.tmp 25) = .pointer (some ⟨pb, 0, none⟩) from hA.other 25 (by decide)) rfl (by decide)) rfl)
                  | 25, _ =>
                    obtain rfl := Option.some.inj ho
                    exact gg_yes (b := false) rfl (hA.fact 23 (hA.dep 23 (by kernel_rfl) (by decide))) (gstep_val (q_loadI rfl (hA.fact 24 (hA.dep 24 (by kernel_rfl) (by decide))) (hgr.cell e4)) rfl)
                  | 26, _ =>
                    obtain rfl := Option.some.inj ho
                    exact gg_yes (b := false) rfl (hA.fact 23 (hA.dep 23 (by kernel_rfl) (by decide))) (gstep_val (q_move rfl (show a.eval (.tmp 26) = .slice va A.length vc from hA.other 26 (by decide))) rfl)
                  | 27, _ =>
                    obtain rfl := Option.some.inj ho
                    exact gg_yes (b := false) rfl (hA.fact 23 (hA.dep 23 (by kernel_rfl) (by decide))) (gstep_call (p_call1 rfl rfl (hA.fact 26 (hA.dep 26 (by kernel_rfl) (by decide)))) ((HBY.out _ hgr).mono (fun e w' ⟨h1, h2⟩ => ⟨_, h1, h2, rfl⟩)))
                  | 28, _ =>
                    obtain rfl := Option.some.inj ho
                    exact gg_yes (b := false) rfl (hA.fact 23 (hA.dep 23 (by kernel_rfl) (by decide))) (gstep_val (p_neq rfl (hA.fact 25 (hA.dep 25 (by kernel_rfl) (by decide))) (hA.fact 27 (hA.dep 27 (by kernel_rfl) (by decide)))) rfl)
                  | 29, _ =>
                    obtain rfl := Option.some.inj ho
                    exact gg_plain rfl (gstep_val (p_pickF rfl (hA.fact 23 (hA.dep 23 (by kernel_rfl) (by decide))) (hA.fact 28 (hA.dep 28 (by kernel_rfl) (by decide)))) rfl)
                  | 30, _ =>
                    obtain rfl := Option.some.inj ho
                    exact gg_plain rfl (gstep_val (q_move rfl (hA.fact 29 (hA.dep 29 (by kernel_rfl) (by decide)))) rfl)
                  | 31, _ =>
                    obtain rfl := Option.some.inj ho
                    exact gg_yes (b := false) rfl (hA.fact 30 (hA.dep 30 (by kernel_rfl) (by decide))) (gstep_val (p_fa 5 5 rfl (show a.eval (.tmp 25) = .pointer (some ⟨pb, 0, none⟩) from hA.other 25 (by decide)) rfl (by decide)) rfl)
                  | 32, _ =>
                    obtain rfl := Option.some.inj ho
                    exact gg_yes (b := false) rfl (hA.fact 30 (hA.dep 30 (by kernel_rfl) (by decide))) (gstep_val (q_loadSI rfl (hA.fact 31 (hA.dep 31 (by kernel_rfl) (by decide))) (hgr.cell e5)) rfl)
                  | 33, _ =>
                    obtain rfl := Option.some.inj ho
                    exact gg_yes (b := false) rfl (hA.fact 30 (hA.dep 30 (by kernel_rfl) (by decide))) (gstep_val (q_move rfl (show a.eval (.tmp 23) = u23 from hA.other 23 (by decide))) rfl)
                  | 34, _ =>
                    obtain rfl := Option.some.inj ho
                    exact gg_yes (b := false) rfl (hA.fact 30 (hA.dep 30 (by kernel_rfl) (by decide))) (gstep_call (p_call2 rfl rfl (hA.fact 32 (hA.dep 32 (by kernel_rfl) (by decide))) (hA.fact 33 (hA.dep 33 (by kernel_rfl) (by decide)))) ((HSI.out _ hgr).mono (fun e w' ⟨h1, h2⟩ => ⟨_, h1, h2, rfl⟩)))
                  | 35, _ =>
                    obtain rfl := Option.some.inj ho
                    exact gg_yes (b := false) rfl (hA.fact 30 (hA.dep 30 (by kernel_rfl) (by decide))) (gstep_val (p_not rfl (hA.fact 34 (hA.dep 34 (by kernel_rfl) (by decide)))) rfl)
                  | 36, _ =>
                    obtain rfl := Option.some.inj ho
                    exact gg_plain rfl (gstep_val (p_pickF rfl (hA.fact 30 (hA.dep 30 (by kernel_rfl) (by decide))) (hA.fact 35 (hA.dep 35 (by kernel_rfl) (by decide)))) rfl)
                  | 37, _ =>
                    obtain rfl := Option.some.inj ho
                    exact gg_plain rfl (gstep_val (q_move rfl (hA.fact 36 (hA.dep 36 (by kernel_rfl) (by decide)))) rfl)
                  | 38, _ =>
                    obtain rfl := Option.some.inj ho
                    exact gg_yes (b := false) rfl (hA.fact 37 (hA.dep 37 (by kernel_rfl) (by decide))) (gstep_val (q_move rfl (show a.eval (.tmp 3) = .nilFunc from hA.other 3 (by decide))) rfl)
                  | 39, _ =>
                    obtain rfl := Option.some.inj ho
                    exact gg_yes (b := false) rfl (hA.fact 37 (hA.dep 37 (by kernel_rfl) (by decide))) (gstep_val (p_isnil rfl (hA.fact 38 (hA.dep 38 (by kernel_rfl) (by decide))) rfl) rfl)
                  | 40, _ =>
                    obtain rfl := Option.some.inj ho
                    exact gg_yes (b := false) rfl (hA.fact 37 (hA.dep 37 (by kernel_rfl) (by decide))) (gstep_val (q_move rfl (hA.fact 39 (hA.dep 39 (by kernel_rfl) (by decide)))) rfl)
                  | 41, _ =>
                    obtain rfl := Option.some.inj ho
                    exact gg_no (b := true) rfl (hA.fact 40 (hA.dep 40 (by kernel_rfl) (by decide))) rfl
                  | 42, _ =>
                    obtain rfl := Option.some.inj ho
                    exact gg_no (b := true) rfl (hA.fact 40 (hA.dep 40 (by kernel_rfl) (by decide))) rfl
                  | 43, _ =>
                    obtain rfl := Option.some.inj ho
                    exact gg_no (b := true) rfl (hA.fact 40 (hA.dep 40 (by kernel_rfl) (by decide))) rfl
                  | 44, _ =>
                    obtain rfl := Option.some.inj ho
                    exact gg_yes (b := false) rfl (hA.fact 37 (hA.dep 37 (by kernel_rfl) (by decide))) (gstep_val (p_pickF rfl (hA.fact 40 (hA.dep 40 (by kernel_rfl) (by decide))) rfl) rfl)
                  | k + 45, hk => exact absurd (show k + 45 < 45 from hk) (by omega)
                · intro vs w5 hg5 hv
                  have HG5 := Lib.hid ((Gr.refl w4).drew.trans hg5)
                  have v37 : vs 37 = .bool false := hv 37 (by omega)
                  have v44 : vs 44 = .bool false := hv 44 (by omega)
                  clear hv hg5
                  simp only [putN, List.drop_succ_cons, List.drop_zero, List.getElem?_cons_succ, List.getElem?_cons_zero]
                  generalize vs 37 = u37x at *
                  generalize vs 44 = u44x at *
                  subst v37
                  subst v44
                  generalize vs 0 = v0x at *
                  generalize vs 1 = v1x at *
                  generalize vs 2 = v2x at *
                  generalize vs 3 = v3x at *
                  generalize vs 4 = v4x at *
                  generalize vs 5 = v5x at *
                  generalize vs 6 = v6x at *
                  generalize vs 7 = v7x at *
                  generalize vs 8 = v8x at *
                  generalize vs 9 = v9x at *
                  generalize vs 10 = v10x at *
                  generalize vs 11 = v11x at *
                  generalize vs 12 = v12x at *
                  generalize vs 13 = v13x at *
                  generalize vs 14 = v14x at *
                  generalize vs 15 = v15x at *
                  generalize vs 16 = v16x at *
                  generalize vs 17 = v17x at *
                  generalize vs 18 = v18x at *
                  generalize vs 19 = v19x at *
                  generalize vs 20 = v20x at *
                  generalize vs 21 = v21x at *
                  generalize vs 22 = v22x at *
                  generalize vs 23 = v23x at *
                  generalize vs 24 = v24x at *
                  generalize vs 25 = v25x at *
                  generalize vs 26 = v26x at *
                  generalize vs 27 = v27x at *
                  generalize vs 28 = v28x at *
                  generalize vs 29 = v29x at *
                  generalize vs 30 = v30x at *
                  generalize vs 31 = v31x at *
                  generalize vs 32 = v32x at *
                  generalize vs 33 = v33x at *
                  generalize vs 34 = v34x at *
                  generalize vs 35 = v35x at *
                  generalize vs 36 = v36x at *
                  generalize vs 38 = v38x at *
                  generalize vs 39 = v39x at *
                  generalize vs 40 = v40x at *
                  generalize vs 41 = v41x at *
                  generalize vs 42 = v42x at *
                  generalize vs 43 = v43x at *
                  go_wp2
                  go_meet
                  exact ⟨rfl, HG5.out⟩
              · have HTQ := Lib.hid (fun W (g : Gr w4 W) => hth W b1 c1 a' n' (HB4.out.gr g))
                clear hth
                refine wp_region_gg (n := 45) [Fg.eq (.pointer (some ⟨pb, 0, none⟩)), Fg.eq (.int .i64 o.taken), Fg.eq (.int .i64 o.taken), Fg.eq (.bool false), Fg.eq (.bool false), Fg.eq (.pointer (some ⟨pb, 1, none⟩)), Fg.eq (.int .i64 o.mark), Fg.eq (.int .i64 o.mark), Fg.eq (.bool false), Fg.eq (.bool false), Fg.eq (.bool false), Fg.eq (.pointer (some ⟨pb, 2, none⟩)), Fg.eq (.int .i64 o.at_), Fg.eq (.int .i64 o.at_), Fg.eq (.bool false), Fg.eq (.bool false), Fg.eq (.bool false), Fg.eq (.pointer (some ⟨pb, 3, none⟩)), Fg.eq (.int .i64 (A.length : Int)), Fg.eq (.slice va A.length vc), Fg.eq (.int .i64 (A.length : Int)), Fg.eq (.bool false), Fg.eq (.bool false), Fg.eq (.bool false), Fg.eq (.pointer (some ⟨pb, 4, none⟩)), Fg.eq (.int .i64 (sumLen A)), Fg.eq (.slice va A.length vc), Fg.eq (.int .i64 (sumLen A)), Fg.eq (.bool false), Fg.eq (.bool false), Fg.eq (.bool false), Fg.eq (.pointer (some ⟨pb, 5, none⟩)), Fg.eq (.slice ra o.lost.length rc), Fg.eq (u23), Fg.eq (.bool true), Fg.eq (.bool false), Fg.eq (.bool false), Fg.eq (.bool false), Fg.eq (.func (.func f) #[] caps), Fg.eq (.bool true), Fg.eq (.bool true), Fg.eq (.func (.func f) #[] caps), Fg.eq (.bool true), Fg.eq (.bool false), Fg.eq (.bool false)] [100, 101, 102, 103, 104, 105, 106, 107, 108, 109, 110, 111, 112, 113, 114, 115, 116, 117, 118, 119, 120, 121, 122, 123, 124, 125, 126, 127, 128, 129, 130, 131, 132, 133, 134, 135, 136, 137, 138, 139, 140, 141, 142, 143, 144] (by kernel_rfl) (by kernel_rfl) (by kernel_rfl) ?_ ?_
                · intro L i o' a w1 hi ho hA
                  have hgr : Gr w4 w1 := (Gr.refl w4).drew.trans hA.gr
                  match i, hi with
                  | 0, _ =>
                    obtain rfl := Option.some.inj ho
                    exact gg_plain rfl (gstep_val (p_fa 0 0 rfl (show a.eval (.tmp 25) = .pointer (some ⟨pb, 0, none⟩) from hA.other 25 (by decide)) rfl (by decide)) rfl)
                  | 1, _ =>
                    obtain rfl := Option.some.inj ho
                    exact gg_plain rfl (gstep_val (q_loadI rfl (hA.fact 0 (hA.dep 0 (by kernel_rfl) (by decide))) (hgr.cell e0)) rfl)
                  | 2, _ =>
                    obtain rfl := Option.some.inj ho
                    exact gg_plain rfl (gstep_val (q_move rfl (show a.eval (.tmp 13) = .int .i64 o.taken from hA.other 13 (by decide))) rfl)
                  | 3, _ =>
                    obtain rfl := Option.some.inj ho
                    exact gg_plain rfl (gstep_val (p_neq rfl (hA.fact 1 (hA.dep 1 (by kernel_rfl) (by decide))) (hA.fact 2 (hA.dep 2 (by kernel_rfl) (by decide)))) rfl)
                  | 4, _ =>
                    obtain rfl := Option.some.inj ho
                    exact gg_plain rfl (gstep_val (q_move rfl (hA.fact 3 (hA.dep 3 (by kernel_rfl) (by decide)))) rfl)
                  | 5, _ =>
                    obtain rfl := Option.some.inj ho
                    exact gg_yes (b := false) rfl (hA.fact 4 (hA.dep 4 (by kernel_rfl) (by decide))) (gstep_val (p_fa 1 1 rfl (show a.eval (.tmp 25) = .pointer (some ⟨pb, 0, none⟩) from hA.other 25 (by decide)) rfl (by decide)) rfl)
                  | 6, _ =>
                    obtain rfl := Option.some.inj ho
                    exact gg_yes (b := false) rfl (hA.fact 4 (hA.dep 4 (by kernel_rfl) (by decide))) (gstep_val (q_loadI rfl (hA.fact 5 (hA.dep 5 (by kernel_rfl) (by decide))) (hgr.cell e1)) rfl)
                  | 7, _ =>
                    obtain rfl := Option.some.inj ho
                    exact gg_yes (b := false) rfl (hA.fact 4 (hA.dep 4 (by kernel_rfl) (by decide))) (gstep_val (q_move rfl (show a.eval (.tmp 14) = .int .i64 o.mark from hA.other 14 (by decide))) rfl)
                  | 8, _ =>
                    obtain rfl := Option.some.inj ho
                    exact gg_yes (b := false) rfl (hA.fact 4 (hA.dep 4 (by kernel_rfl) (by decide))) (gstep_val (p_neq rfl (hA.fact 6 (hA.dep 6 (by kernel_rfl) (by decide))) (hA.fact 7 (hA.dep 7 (by kernel_rfl) (by decide)))) rfl)
                  | 9, _ =>
                    obtain rfl := Option.some.inj ho
                    exact gg_plain rfl (gstep_val (p_pickF rfl (hA.fact 4 (hA.dep 4 (by kernel_rfl) (by decide))) (hA.fact 8 (hA.dep 8 (by kernel_rfl) (by decide)))) rfl)
                  | 10, _ =>
                    obtain rfl := Option.some.inj ho
                    exact gg_plain rfl (gstep_val (q_move rfl (hA.fact 9 (hA.dep 9 (by kernel_rfl) (by decide)))) rfl)
                  | 11, _ =>
                    obtain rfl := Option.some.inj ho
                    exact gg_yes (b := false) rfl (hA.fact 10 (hA.dep 10 (by kernel_rfl) (by decide))) (gstep_val (p_fa 2 2 rfl (show a.eval (.tmp 25) = .pointer (some ⟨pb, 0, none⟩) from hA.other 25 (by decide)) rfl (by decide)) rfl)
                  | 12, _ =>
                    obtain rfl := Option.some.inj ho
                    exact gg_yes (b := false) rfl (hA.fact 10 (hA.dep 10 (by kernel_rfl) (by decide))) (gstep_val (q_loadI rfl (hA.fact 11 (hA.dep 11 (by kernel_rfl) (by decide))) (hgr.cell e2)) rfl)
                  | 13, _ =>
                    obtain rfl := Option.some.inj ho
                    exact gg_yes (b := false) rfl (hA.fact 10 (hA.dep 10 (by kernel_rfl) (by decide))) (gstep_val (q_move rfl (show a.eval (.tmp 15) = .int .i64 o.at_ from hA.other 15 (by decide))) rfl)
                  | 14, _ =>
                    obtain rfl := Option.some.inj ho
                    exact gg_yes (b := false) rfl (hA.fact 10 (hA.dep 10 (by kernel_rfl) (by decide))) (gstep_val (p_neq rfl (hA.fact 12 (hA.dep 12 (by kernel_rfl) (by decide))) (hA.fact 13 (hA.dep 13 (by kernel_rfl) (by decide)))) rfl)
                  | 15, _ =>
                    obtain rfl := Option.some.inj ho
                    exact gg_plain rfl (gstep_val (p_pickF rfl (hA.fact 10 (hA.dep 10 (by kernel_rfl) (by decide))) (hA.fact 14 (hA.dep 14 (by kernel_rfl) (by decide)))) rfl)
                  | 16, _ =>
                    obtain rfl := Option.some.inj ho
                    exact gg_plain rfl (gstep_val (q_move rfl (hA.fact 15 (hA.dep 15 (by kernel_rfl) (by decide)))) rfl)
                  | 17, _ =>
                    obtain rfl := Option.some.inj ho
                    exact gg_yes (b := false) rfl (hA.fact 16 (hA.dep 16 (by kernel_rfl) (by decide))) (gstep_val (p_fa 3 3 rfl (show a.eval (.tmp 25) = .pointer (some ⟨pb, 0, none⟩) from hA.other 25 (by decide)) rfl (by decide)) rfl)
                  | 18, _ =>
                    obtain rfl := Option.some.inj ho
                    exact gg_yes (b := false) rfl (hA.fact 16 (hA.dep 16 (by kernel_rfl) (by decide))) (gstep_val (q_loadI rfl (hA.fact 17 (hA.dep 17 (by kernel_rfl) (by decide))) (hgr.cell e3)) rfl)
                  | 19, _ =>
                    obtain rfl := Option.some.inj ho
                    exact gg_yes (b := false) rfl (hA.fact 16 (hA.dep 16 (by kernel_rfl) (by decide))) (gstep_val (q_move rfl (show a.eval (.tmp 26) = .slice va A.length vc from hA.other 26 (by decide))) rfl)
                  | 20, _ =>
                    obtain rfl := Option.some.inj ho
                    exact gg_yes (b := false) rfl (hA.fact 16 (hA.dep 16 (by kernel_rfl) (by decide))) (gstep_val (p_len rfl (hA.fact 19 (hA.dep 19 (by kernel_rfl) (by decide)))) rfl)
                  | 21, _ =>
                    obtain rfl := Option.some.inj ho
                    exact gg_yes (b := false) rfl (hA.fact 16 (hA.dep 16 (by kernel_rfl) (by decide))) (gstep_val (p_neq rfl (hA.fact 18 (hA.dep 18 (by kernel_rfl) (by decide))) (hA.fact 20 (hA.dep 20 (by kernel_rfl) (by decide)))) rfl)
                  | 22, _ =>
                    obtain rfl := Option.some.inj ho
                    exact gg_plain rfl (gstep_val (p_pickF rfl (hA.fact 16 (hA.dep 16 (by kernel_rfl) (by decide))) (hA.fact 21 (hA.dep 21 (by kernel_rfl) (by decide)))) rfl)
                  | 23, _ =>
                    obtain rfl := Option.some.inj ho
                    exact gg_plain rfl (gstep_val (q_move rfl (hA.fact 22 (hA.dep 22 (by kernel_rfl) (by decide)))) rfl)
                  | 24, _ =>
                    obtain rfl := Option.some.inj ho
                    exact gg_yes (b := false) rfl (hA.fact 23 (hA.dep 23 (by kernel_rfl) (by decide))) (gstep_val (p_fa 4 4 rfl (show a.eval (.tmp 25) = .pointer (some ⟨pb, 0, none⟩) from hA.other 25 (by decide)) rfl (by decide)) rfl)
                  | 25, _ =>
                    obtain rfl := Option.some.inj ho
                    exact gg_yes (b := false) rfl (hA.fact 23 (hA.dep 23 (by kernel_rfl) (by decide))) (gstep_val (q_loadI rfl (hA.fact 24 (hA.dep 24 (by kernel_rfl) (by decide))) (hgr.cell e4)) rfl)
                  | 26, _ =>
                    obtain rfl := Option.some.inj ho
                    exact gg_yes (b := false) rfl (hA.fact 23 (hA.dep 23 (by kernel_rfl) (by decide))) (gstep_val (q_move rfl (show a.eval (.tmp 26) = .slice va A.length vc from hA.other 26 (by decide))) rfl)
                  | 27, _ =>
                    obtain rfl := Option.some.inj ho
                    exact gg_yes (b := false) rfl (hA.fact 23 (hA.dep 23 (by kernel_rfl) (by decide))) (gstep_call (p_call1 rfl rfl (hA.fact 26 (hA.dep 26 (by kernel_rfl) (by decide)))) ((HBY.out _ hgr).mono (fun e w' ⟨h1, h2⟩ => ⟨_, h1, h2, rfl⟩)))
                  | 28, _ =>
                    obtain rfl := Option.some.inj ho
                    exact gg_yes (b := false) rfl (hA.fact 23 (hA.dep 23 (by kernel_rfl) (by decide))) (gstep_val (p_neq rfl (hA.fact 25 (hA.dep 25 (by kernel_rfl) (by decide))) (hA.fact 27 (hA.dep 27 (by kernel_rfl) (by decide)))) rfl)
                  | 29, _ =>
                    obtain rfl := Option.some.inj ho
                    exact gg_plain rfl (gstep_val (p_pickF rfl (hA.fact 23 (hA.dep 23 (by kernel_rfl) (by decide))) (hA.fact 28 (hA.dep 28 (by kernel_rfl) (by decide)))) rfl)
                  | 30, _ =>
                    obtain rfl := Option.some.inj ho
                    exact gg_plain rfl (gstep_val (q_move rfl (hA.fact 29 (hA.dep 29 (by kernel_rfl) (by decide)))) rfl)
                  | 31, _ =>
                    obtain rfl := Option.some.inj ho
                    exact gg_yes (b := false) rfl (hA.fact 30 (hA.dep 30 (by kernel_rfl) (by decide))) (gstep_val (p_fa 5 5 rfl (show a.eval (.tmp 25) = .pointer (some ⟨pb, 0, none⟩) from hA.other 25 (by decide)) rfl (by decide)) rfl)
                  | 32, _ =>
                    obtain rfl := Option.some.inj ho
                    exact gg_yes (b := false) rfl (hA.fact 30 (hA.dep 30 (by kernel_rfl) (by decide))) (gstep_val (q_loadSI rfl (hA.fact 31 (hA.dep 31 (by kernel_rfl) (by decide))) (hgr.cell e5)) rfl)
                  | 33, _ =>
                    obtain rfl := Option.some.inj ho
                    exact gg_yes (b := false) rfl (hA.fact 30 (hA.dep 30 (by kernel_rfl) (by decide))) (gstep_val (q_move rfl (show a.eval (.tmp 23) = u23 from hA.other 23 (by decide))) rfl)
                  | 34, _ =>
                    obtain rfl := Option.some.inj ho
                    exact gg_yes (b := false) rfl (hA.fact 30 (hA.dep 30 (by kernel_rfl) (by decide))) (gstep_call (p_call2 rfl rfl (hA.fact 32 (hA.dep 32 (by kernel_rfl) (by decide))) (hA.fact 33 (hA.dep 33 (by kernel_rfl) (by decide)))) ((HSI.out _ hgr).mono (fun e w' ⟨h1, h2⟩ => ⟨_, h1, h2, rfl⟩)))
                  | 35, _ =>
                    obtain rfl := Option.some.inj ho
                    exact gg_yes (b := false) rfl (hA.fact 30 (hA.dep 30 (by kernel_rfl) (by decide))) (gstep_val (p_not rfl (hA.fact 34 (hA.dep 34 (by kernel_rfl) (by decide)))) rfl)
                  | 36, _ =>
                    obtain rfl := Option.some.inj ho
                    exact gg_plain rfl (gstep_val (p_pickF rfl (hA.fact 30 (hA.dep 30 (by kernel_rfl) (by decide))) (hA.fact 35 (hA.dep 35 (by kernel_rfl) (by decide)))) rfl)
                  | 37, _ =>
                    obtain rfl := Option.some.inj ho
                    exact gg_plain rfl (gstep_val (q_move rfl (hA.fact 36 (hA.dep 36 (by kernel_rfl) (by decide)))) rfl)
                  | 38, _ =>
                    obtain rfl := Option.some.inj ho
                    exact gg_yes (b := false) rfl (hA.fact 37 (hA.dep 37 (by kernel_rfl) (by decide))) (gstep_val (q_move rfl (show a.eval (.tmp 3) = .func (.func f) #[] caps from hA.other 3 (by decide))) rfl)
                  | 39, _ =>
                    obtain rfl := Option.some.inj ho
                    exact gg_yes (b := false) rfl (hA.fact 37 (hA.dep 37 (by kernel_rfl) (by decide))) (gstep_val (p_nonil rfl (hA.fact 38 (hA.dep 38 (by kernel_rfl) (by decide))) rfl) rfl)
                  | 40, _ =>
                    obtain rfl := Option.some.inj ho
                    exact gg_yes (b := false) rfl (hA.fact 37 (hA.dep 37 (by kernel_rfl) (by decide))) (gstep_val (q_move rfl (hA.fact 39 (hA.dep 39 (by kernel_rfl) (by decide)))) rfl)
                  | 41, _ =>
                    obtain rfl := Option.some.inj ho
                    exact gg_yes (b := true) rfl (hA.fact 40 (hA.dep 40 (by kernel_rfl) (by decide))) (gstep_val (q_move rfl (show a.eval (.tmp 3) = .func (.func f) #[] caps from hA.other 3 (by decide))) rfl)
                  | 42, _ =>
                    obtain rfl := Option.some.inj ho
                    exact gg_yes (b := true) rfl (hA.fact 40 (hA.dep 40 (by kernel_rfl) (by decide))) (gstep_call (p_callv rfl (hA.fact 41 (hA.dep 41 (by kernel_rfl) (by decide))) hcf) ((HTQ.out _ hgr).mono (fun e w' ⟨h1, h2⟩ => ⟨_, h1, h2, rfl⟩)))
                  | 43, _ =>
                    obtain rfl := Option.some.inj ho
                    exact gg_yes (b := true) rfl (hA.fact 40 (hA.dep 40 (by kernel_rfl) (by decide))) (gstep_val (p_not rfl (hA.fact 42 (hA.dep 42 (by kernel_rfl) (by decide)))) rfl)
                  | 44, _ =>
                    obtain rfl := Option.some.inj ho
                    exact gg_yes (b := false) rfl (hA.fact 37 (hA.dep 37 (by kernel_rfl) (by decide))) (gstep_val (p_pickT rfl (hA.fact 40 (hA.dep 40 (by kernel_rfl) (by decide))) (hA.fact 43 (hA.dep 43 (by kernel_rfl) (by decide)))) rfl)
                  | k + 45, hk => exact absurd (show k + 45 < 45 from hk) (by omega)
                · intro vs w5 hg5 hv
                  have HG5 := Lib.hid ((Gr.refl w4).drew.trans hg5)
                  have v37 : vs 37 = .bool false := hv 37 (by omega)
                  have v44 : vs 44 = .bool false := hv 44 (by omega)
                  clear hv hg5
                  simp only [putN, List.drop_succ_cons, List.drop_zero, List.getElem?_cons_succ, List.getElem?_cons_zero]
                  generalize vs 37 = u37x at *
                  generalize vs 44 = u44x at *
                  subst v37
                  subst v44
                  generalize vs 0 = v0x at *
                  generalize vs 1 = v1x at *
                  generalize vs 2 = v2x at *
                  generalize vs 3 = v3x at *
                  generalize vs 4 = v4x at *
                  generalize vs 5 = v5x at *
                  generalize vs 6 = v6x at *
                  generalize vs 7 = v7x at *
                  generalize vs 8 = v8x at *
                  generalize vs 9 = v9x at *
                  generalize vs 10 = v10x at *
                  generalize vs 11 = v11x at *
                  generalize vs 12 = v12x at *
                  generalize vs 13 = v13x at *
                  generalize vs 14 = v14x at *
                  generalize vs 15 = v15x at *
                  generalize vs 16 = v16x at *
                  generalize vs 17 = v17x at *
                  generalize vs 18 = v18x at *
                  generalize vs 19 = v19x at *
                  generalize vs 20 = v20x at *
                  generalize vs 21 = v21x at *
                  generalize vs 22 = v22x at *
                  generalize vs 23 = v23x at *
                  generalize vs 24 = v24x at *
                  generalize vs 25 = v25x at *
                  generalize vs 26 = v26x at *
                  generalize vs 27 = v27x at *
                  generalize vs 28 = v28x at *
                  generalize vs 29 = v29x at *
                  generalize vs 30 = v30x at *
                  generalize vs 31 = v31x at *
                  generalize vs 32 = v32x at *
                  generalize vs 33 = v33x at *
                  generalize vs 34 = v34x at *
                  generalize vs 35 = v35x at *
                  generalize vs 36 = v36x at *
                  generalize vs 38 = v38x at *
                  generalize vs 39 = v39x at *
                  generalize vs 40 = v40x at *
                  generalize vs 41 = v41x at *
                  generalize vs 42 = v42x at *
                  generalize vs 43 = v43x at *
                  go_wp2
                  go_meet
                  exact ⟨rfl, HG5.out⟩
            case rest =>
              obtain ⟨rfl, hg⟩ := hcut
              have HGC := Lib.hid hg
              clear hg
              go_wp2
              rw [show wrap64 ((j : Int) + 1) = ((j + 1 : Nat) : Int) from by have := HNJ.out; unfold wrap64; omega]
              go_roundg (ts.length - (j + 1))
              case measure => omega
              case rel =>
                exact ⟨j + 1, n', a', b1, c1, by omega, by have := HNS.out; omega, rfl, rfl, rfl, HB4.out.gr HGC.out, HRW5.out.gr HGC.out, fun g hg => ⟨(HOW.out g hg).1, HON4.out g hg, HON2.out g hg⟩, HKV5.out.then (.of_gr HGC.out)⟩
    · obtain rfl : j = ts.length := by omega
      go_wp2
      go_ret
      exact ⟨rfl, HI.out.sav⟩
end
end Go.Proofs.YtgifghbnpdanhaaGreatDoor

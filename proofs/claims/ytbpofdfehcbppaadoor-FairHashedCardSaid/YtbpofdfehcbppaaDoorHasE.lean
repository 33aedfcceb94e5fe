/-
  The program's Hashed: Put. (Printed by genhas.py.)
-/
import Derived.Test.YtbpofdfehcbppaaDoorHasD
import Derived.Test.YtbpofdfehcbppaaDoorRegL
namespace Go.Proofs.YtbpofdfehcbppaaDoor
open Go.RowKit Go.Extern.Stop Go.Stop Go.Extern

section
variable {ev : Operand → Value} {o : Oper} {w : World} {x y z : Operand} {u : Value}
theorem hsp_fa_fair_Hashed_0 {p o' : Nat} (ho : o.op = .fieldAddr 134 x 0) (h : ev x = .pointer (some ⟨p, o', none⟩)) : (execOp ev o).run Tryd.prog w = .ok (.value (.pointer (some ⟨p, o', none⟩))) w := by
  simp [execOp, ho, h, go_sem]
theorem hsp_loadS___queue_List {ad : Addr} {a : Option Addr} {n c : Nat} (ho : o.op = .load 132 x) (h : ev x = .pointer (some ad)) (hc : w.cell? ad = some (.slice a n c)) : (execOp ev o).run Tryd.prog w = .ok (.value (.slice a n c)) w := by
  simp [execOp, ho, h, hc, go_sem]
theorem hsp_call___millrace_queue_List__Len {x0 : Operand} {v0 : Value} (ho : o.op = .call { callee := .value (.func 75), args := #[x0], argTypes := #[33] }) (hf : ev (.func 75) = .func (.func 75) #[] #[]) (h0 : ev x0 = v0) : (execOp ev o).run Tryd.prog w = .ok (.enter 75 #[v0]) w := by
  simp [execOp, ho, hf, h0, resolve, invoke, go_sem]
theorem hsp_fa_fair_Hashed_4 {p o' : Nat} (ho : o.op = .fieldAddr 134 x 4) (h : ev x = .pointer (some ⟨p, o', none⟩)) : (execOp ev o).run Tryd.prog w = .ok (.value (.pointer (some ⟨p, o' + 4, none⟩))) w := by
  simp [execOp, ho, h, go_sem]
theorem hsp_fa_fair_Hashed_2 {p o' : Nat} (ho : o.op = .fieldAddr 134 x 2) (h : ev x = .pointer (some ⟨p, o', none⟩)) : (execOp ev o).run Tryd.prog w = .ok (.value (.pointer (some ⟨p, o' + 2, none⟩))) w := by
  simp [execOp, ho, h, go_sem]
end

theorem hs_idx {ev : Operand → Value} {o : Oper} {w : World} {x y : Operand} {b n c j : Nat} (ho : o.op = .indexAddr 132 x y) (h : ev x = .slice (some ⟨b, 0, none⟩) n c) (k : ev y = .int .i64 (j : Int)) (hj : j < n) : (execOp ev o).run Tryd.prog w = .ok (.value (.pointer (some ⟨b, j * 2, none⟩))) w := by
  have h0 : (0 : Int) ≤ (j : Int) := by omega
  have h1 : (j : Int) < (n : Int) := by omega
  simp [execOp, ho, h, k, h0, h1, go_sem]
def longL (f : Nat → List Hel) : Nat → Nat
  | 0 => 0
  | n + 1 => if (f (longL f n)).length < (f n).length then n else longL f n
theorem longL_le (f : Nat → List Hel) : ∀ n, longL f n ≤ n := by
  intro n
  induction n with
  | zero => exact Nat.le_refl _
  | succ n ih =>
    rw [longL]
    split
    · omega
    · omega
theorem longL_lt (f : Nat → List Hel) {n : Nat} (h : 1 ≤ n) : longL f n < n := by
  induction n with
  | zero => omega
  | succ n ih =>
    rw [longL]
    split
    · omega
    · rcases Nat.eq_zero_or_pos n with e | e
      · subst e; exact Nat.lt_succ_self _
      · have := ih e; omega
def putLs (ls : Nat → List Hel) (k : Nat) (x : Hel) : Nat → List Hel := fu ls k (ls k ++ [x])
def putT (ls : Nat → List Hel) (turn : List Int) (k : Nat) : List Int := if ls k = [] then turn ++ [(k : Int)] else turn
theorem HM.res_in {w wr : World} {p ob n : Nat} {q : HasP} {tv tv' : Value} {vs vs' : Nat → Value} {R : List Nat} {ls : Nat → List Hel} {turn : List Int} {many : Int} (h : HM w wr p ob q tv vs R tv' vs' ls turn many) (hn : w.heap.size ≤ n ∧ n < wr.heap.size) (hf : ¬ HFoot p ob q tv' vs' n) : HM w wr p ob q tv vs (n :: R) tv' vs' ls turn many := by
  refine ⟨h.at_, h.sav, fun x e => ⟨(h.own x e).1, fun e2 => ?_⟩, fun x e => ?_⟩
  · rcases List.mem_cons.1 e2 with rfl | e3
    · exact hf e
    · exact (h.own x e).2 e3
  · rcases List.mem_cons.1 e with rfl | e3
    · exact hn
    · exact h.res x e3
/-- What Put asks of the state. -/
structure PutOk (q : HasP) (ls : Nat → List Hel) (turn : List Int) (many : Int) (x : Hel) : Prop where
  ok : q.Ok
  sums : ∀ k, k < q.lists → 0 ≤ sumLen (ls k) ∧ sumLen (ls k) ≤ 1000000000000000
  lens : ∀ k, k < q.lists → (ls k).length ≤ 900
  turn : turn.length ≤ 900
  len : 0 ≤ x.len ∧ x.len ≤ 10000
  flow : 0 ≤ x.flow ∧ x.flow ≤ 15
  many : 0 ≤ many ∧ many ≤ 1000000
set_option maxRecDepth 100000 in
set_option maxHeartbeats 40000000 in
theorem hput_fits (p ob : Nat) (q : HasP) (tv : Value) (vs : Nat → Value) (ls : Nat → List Hel) (turn : List Int) (many : Int) (x : Hel) (ok : PutOk q ls turn many x) (hroom : many + 1 ≤ q.room) (now : Int) (w : World) (h : HasC w p ob q tv vs ls turn many) :
    Calls Tryd.prog 118 #[.pointer (some ⟨p, 0, none⟩), .int .i64 now, x.val] w fun e w' => e = .returned (.slice none 0 0) ∧ HDid w w' p ob q tv vs (putLs ls (hashOf q x.flow) x) (putT ls turn (hashOf q x.flow)) (many + 1) := by
  have CB := Lib.hid (decide_eq_true hroom)
  obtain ⟨ta, tc, rfl⟩ := h.turn.shape
  have HA := Lib.hid h
  have HOK := Lib.hid ok
  have HWM := Lib.hid (show wrap64 (many + 1) = many + 1 from by have := ok.many; unfold wrap64; omega)
  have HPL := Lib.hid h.lt
  have hk := hashOf_lt ok.ok x.flow
  have HRL := Lib.hid ok.turn
  generalize hk0 : hashOf q x.flow = k at *
  have HK := Lib.hid hk0
  have i0 : (0 : Int) ≤ (k : Int) := by omega
  have i1 : (k : Int) < (q.lists : Int) := by omega
  have HKQ := Lib.hid hk
  clear h ok hroom hk0
  unfold Hel.val at *
  go_enter Tryd.func118, Tryd.ntmps118
  go_upto_region 1 with fail
  obtain ⟨w0, hw0⟩ : ∃ u, u = w.alloc (.cells #[.int .i64 x.t, .int .i64 x.len, .int .i64 x.flow, .int .i64 x.band, .int .i64 x.mark, .int .i64 x.n] 139) := ⟨_, rfl⟩
  obtain ⟨bx, hbx⟩ : ∃ u, u = w.heap.size := ⟨_, rfl⟩
  have HX0 : Hid (HelAt w0 bx 0 x ∧ bx = w.heap.size) := Lib.hid (by rw [hw0]; exact ⟨held_new w x hbx, hbx⟩)
  have HG0 : Hid (Gr w w0) := Lib.hid (by rw [hw0]; exact (Gr.refl _).alloc _)
  rw [← hw0, ← hbx]
  clear hw0 hbx
  have HM0 := Lib.hid ((HM.first HA.out).res_add HG0.out (show w.heap.size ≤ bx by have := HX0.out.2; omega) (cell_lt HX0.out.1.c0))
  have xf := HX0.out.1.c2
  rw [Nat.zero_add] at xf
  go_upto_region 2 with (go_at_call 27; refine (where_any p ob q HOK.out.ok x.flow HOK.out.flow _ HM0.out.at_.c0 HM0.out.at_.c1).mono ?_; rw [HK.out]; rintro e w1 ⟨rfl, hg1⟩; have HM1 := Lib.hid (HM0.out.gr hg1); have HX1 := Lib.hid (HX0.out.1.gr hg1); clear hg1)
  clear xf
  have c0 := HM1.out.at_.c0
  have HL1 := Lib.hid (HM1.out.at_.lst k hk)
  by_cases hk0 : ls k = []
  · have HT1 : Hid (putT ls turn k = turn ++ [(k : Int)]) := Lib.hid (by unfold putT; rw [if_pos hk0])
    rw [hk0] at HL1
    clear hk0
    have HT4 := Lib.hid HM1.out.at_.turn
    have c3 := HM1.out.at_.c3
    have f3 := HM1.out.at_.f3
    have HS4 := Lib.hid (show (∀ u, Sav (fun g => (Value.slice ta turn.length tc).ownBlock = some g) w1 u → u.cell? ⟨p, 3, none⟩ = some (.slice ta turn.length tc) ∧ u.frozen? ⟨p, 3, none⟩ = false) from fun u hs => ⟨hs.cell HM1.out.at_.c3 (fun e => (HM1.out.at_.tap p e).1 rfl), hs.frozen (p := ⟨p, 3, none⟩) HM1.out.at_.lt.1 HM1.out.at_.f3 (fun e => (HM1.out.at_.tap p e).1 rfl)⟩)
    go_upto_region 3 with (go_at_call 75; refine (llen_any ob (k * 2) (vs k) [] _ HL1.out).mono ?_; rintro e w2 ⟨rfl, rfl⟩)
    go_upto_region 4 with (at_builtin; refine wpList_append_intR rfl _ _ _ (by rfl) (by kernel_rfl) _ turn (k : Int) (by rfl) (HT4.out.gr ((Gr.refl w1).alloc (.cells #[.int .i64 (k : Int)] 3))) ⟨w1.heap.size, 0, none⟩ 1 (by rfl) (by simp) (by have := HRL.out; omega) ?_; intro v6 w6 hrow hgr hown; have hsv : Sav (fun g => (Value.slice ta turn.length tc).ownBlock = some g) w1 w6 := (Sav.of_gr ((Gr.refl w1).alloc (.cells #[.int .i64 (k : Int)] 3))).then (.of_grown hgr fun g e => e); have ho6 : ∀ g, v6.ownBlock = some g → (Value.slice ta turn.length tc).ownBlock = some g ∨ w1.heap.size ≤ g := fun g e => (hown g e).imp id (fun e => by simp at e; omega); have HM4 := Lib.hid (show HM w _ p ob q _ vs [bx] v6 vs ls (putT ls turn k) many from by rw [HT1.out]; exact HM1.out.set_turn hsv hrow ho6); have HX3 := Lib.hid (HX1.out.sav hsv (fun e => HM1.out.nin (r := bx) (by simp) (.inr (.inr (.inl e))))); have HX4 := Lib.hid (HX3.out.sav (.set p 3 v6) (fun e => by have h1 := HX0.out.2; have h2 := HPL.out.1; omega)); obtain ⟨d3, g3⟩ := HS4.out _ hsv; clear hgr hown ho6 hsv c3 f3; obtain ⟨a6, c6, rfl⟩ := hrow.shape; clear hrow; rw [show (turn ++ [(k : Int)]).length = turn.length + 1 from by simp] at HM4 HX4)
    generalize w6.setCell ⟨p, 3, none⟩ (.slice a6 (turn.length + 1) c6) = w4 at *
    generalize Value.slice a6 (turn.length + 1) c6 = tv4 at *
    clear d3 g3 c0 HX3 HS4 HT4 HL1 HM1 HX1
    have C4 := Lib.hid HM4.out.at_.c0
    refine wp_region_gg (n := 7) [Fg.eq (.pointer (some ⟨p, 0, none⟩)), Fg.eq (.pointer (some ⟨p, 0, none⟩)), Fg.eq (.pointer (some ⟨p, 0, none⟩)), Fg.eq (.slice (some ⟨ob, 0, none⟩) q.lists q.lists), Fg.eq (.int .i64 (k : Int)), Fg.eq (.pointer (some ⟨ob, k * 2, none⟩)), Fg.eq (x.val)] [35, 36, 37, 38, 39, 40, 41] (by kernel_rfl) (by kernel_rfl) (by kernel_rfl) ?_ ?_
    · intro L i o' ac w1 hi ho hA
      have hgr : Gr w4 w1 := (Gr.refl w4).drew.trans hA.gr
      match i, hi with
      | 0, _ =>
        obtain rfl := Option.some.inj ho
        exact gg_plain rfl (gstep_val (q_move rfl (show ac.eval (.tmp 0) = .pointer (some ⟨p, 0, none⟩) from hA.other 0 (by decide))) rfl)
      | 1, _ =>
        obtain rfl := Option.some.inj ho
        exact gg_plain rfl (gstep_val (q_nil rfl (hA.fact 0 (hA.dep 0 (by kernel_rfl) (by decide)))) rfl)
      | 2, _ =>
        obtain rfl := Option.some.inj ho
        exact gg_plain rfl (gstep_val (hsp_fa_fair_Hashed_0 rfl (hA.fact 1 (hA.dep 1 (by kernel_rfl) (by decide)))) rfl)
      | 3, _ =>
        obtain rfl := Option.some.inj ho
        exact gg_plain rfl (gstep_val (hsp_loadS___queue_List rfl (hA.fact 2 (hA.dep 2 (by kernel_rfl) (by decide))) (hgr.cell C4.out)) rfl)
      | 4, _ =>
        obtain rfl := Option.some.inj ho
        exact gg_plain rfl (gstep_val (q_move rfl (show ac.eval (.tmp 7) = .int .i64 (k : Int) from hA.other 7 (by decide))) rfl)
      | 5, _ =>
        obtain rfl := Option.some.inj ho
        exact gg_plain rfl (gstep_val (hs_idx rfl (hA.fact 3 (hA.dep 3 (by kernel_rfl) (by decide))) (show ac.eval (.tmp 39) = .int .i64 (k : Int) from (hA.fact 4 (hA.dep 4 (by kernel_rfl) (by decide)))) HKQ.out) rfl)
      | 6, _ =>
        obtain rfl := Option.some.inj ho
        exact gg_plain rfl (gstep_val (q_loadH rfl (show ac.eval (.tmp 5) = .pointer (some ⟨bx, 0, none⟩) from hA.other 5 (by decide)) (HX4.out.gr hgr)) rfl)
      | k + 7, hk => exact absurd (show k + 7 < 7 from hk) (by omega)
    · intro vz w5 hg5 hv
      have HGX := Lib.hid ((Gr.refl w4).drew.trans hg5)
      have r40 : (vz 5) = .pointer (some ⟨ob, k * 2, none⟩) := hv 5 (by omega)
      have v41 : vz 6 = x.val := hv 6 (by omega)
      clear hv hg5
      simp only [putN, List.drop_succ_cons, List.drop_zero, List.getElem?_cons_succ, List.getElem?_cons_zero]
      generalize vz 5 = z40 at *
      generalize vz 6 = z41 at *
      subst v41
      generalize vz 0 = z35 at *
      generalize vz 1 = z36 at *
      generalize vz 2 = z37 at *
      generalize vz 3 = z38 at *
      generalize vz 4 = z39 at *
      rw [r40]
      go_upto_region 5 with (go_at_call 80; go_loud (refine (ladd_any ob (k * 2) (vs k) (ls k) x _ ((HM4.out.at_.lst k HKQ.out).gr HGX.out) (by have := HOK.out.lens k HKQ.out; omega) (HOK.out.sums k HKQ.out) (by have := HOK.out.len; omega)).mono ?_; rintro e w6 ⟨rfl, v6, hl6, hs6, ho6⟩; have HM6 := Lib.hid (show HM w w6 p ob q _ vs [bx] tv4 (fu vs k v6) (putLs ls k x) (putT ls turn k) many from (HM4.out.gr HGX.out).list HKQ.out hl6 hs6 ho6); have HX6 := Lib.hid ((HX4.out.gr HGX.out).sav hs6.sav (fun e => (HM4.out.gr HGX.out).nin (r := bx) (by simp) (e.elim (fun e => .inr (.inl e)) (fun e => .inr (.inr (.inr ⟨k, HKQ.out, e⟩)))))); clear hl6 hs6 ho6))
      have c4 := HM6.out.at_.c4
      have f4 := HM6.out.at_.f4
      clear r40
      go_upto_region 6 with fail
      rw [HWM.out]
      have HM7 := Lib.hid (HM6.out.set_many (many + 1))
      have HX7 := Lib.hid (HX6.out.sav (.set p 4 (.int .i64 (many + 1))) (fun e => by have h1 := HX0.out.2; have h2 := HPL.out.1; omega))
      generalize w6.setCell ⟨p, 4, none⟩ (.int .i64 (many + 1)) = w7 at *
      clear c4 f4 HM6 HX6
      have C7 := Lib.hid (And.intro HM7.out.at_.c4 HM7.out.at_.c2)
      refine wp_region_gg (n := 8) [Fg.eq (.pointer (some ⟨p, 0, none⟩)), Fg.eq (.pointer (some ⟨p, 0, none⟩)), Fg.eq (.pointer (some ⟨p, 4, none⟩)), Fg.eq (.int .i64 (many + 1)), Fg.eq (.pointer (some ⟨p, 0, none⟩)), Fg.eq (.pointer (some ⟨p, 0, none⟩)), Fg.eq (.pointer (some ⟨p, 2, none⟩)), Fg.eq (.int .i64 q.room)] [50, 51, 52, 53, 54, 55, 56, 57] (by kernel_rfl) (by kernel_rfl) (by kernel_rfl) ?_ ?_
      · intro L i o' ac w1 hi ho hA
        have hgr : Gr w7 w1 := (Gr.refl w7).drew.trans hA.gr
        match i, hi with
        | 0, _ =>
          obtain rfl := Option.some.inj ho
          exact gg_plain rfl (gstep_val (q_move rfl (show ac.eval (.tmp 0) = .pointer (some ⟨p, 0, none⟩) from hA.other 0 (by decide))) rfl)
        | 1, _ =>
          obtain rfl := Option.some.inj ho
          exact gg_plain rfl (gstep_val (q_nil rfl (hA.fact 0 (hA.dep 0 (by kernel_rfl) (by decide)))) rfl)
        | 2, _ =>
          obtain rfl := Option.some.inj ho
          exact gg_plain rfl (gstep_val (hsp_fa_fair_Hashed_4 rfl (hA.fact 1 (hA.dep 1 (by kernel_rfl) (by decide)))) rfl)
        | 3, _ =>
          obtain rfl := Option.some.inj ho
          exact gg_plain rfl (gstep_val (q_loadI rfl (hA.fact 2 (hA.dep 2 (by kernel_rfl) (by decide))) (hgr.cell C7.out.1)) rfl)
        | 4, _ =>
          obtain rfl := Option.some.inj ho
          exact gg_plain rfl (gstep_val (q_move rfl (show ac.eval (.tmp 0) = .pointer (some ⟨p, 0, none⟩) from hA.other 0 (by decide))) rfl)
        | 5, _ =>
          obtain rfl := Option.some.inj ho
          exact gg_plain rfl (gstep_val (q_nil rfl (hA.fact 4 (hA.dep 4 (by kernel_rfl) (by decide)))) rfl)
        | 6, _ =>
          obtain rfl := Option.some.inj ho
          exact gg_plain rfl (gstep_val (hsp_fa_fair_Hashed_2 rfl (hA.fact 5 (hA.dep 5 (by kernel_rfl) (by decide)))) rfl)
        | 7, _ =>
          obtain rfl := Option.some.inj ho
          exact gg_plain rfl (gstep_val (q_loadI rfl (hA.fact 6 (hA.dep 6 (by kernel_rfl) (by decide))) (hgr.cell C7.out.2)) rfl)
        | k + 8, hk => exact absurd (show k + 8 < 8 from hk) (by omega)
      · intro vz w5 hg5 hv
        have HGY := Lib.hid ((Gr.refl w7).drew.trans hg5)
        have v53 : vz 3 = .int .i64 (many + 1) := hv 3 (by omega)
        have v57 : vz 7 = .int .i64 q.room := hv 7 (by omega)
        clear hv hg5
        simp only [putN, List.drop_succ_cons, List.drop_zero, List.getElem?_cons_succ, List.getElem?_cons_zero]
        generalize vz 3 = z53 at *
        subst v53
        generalize vz 7 = z57 at *
        subst v57
        generalize vz 0 = z50 at *
        generalize vz 1 = z51 at *
        generalize vz 2 = z52 at *
        generalize vz 4 = z54 at *
        generalize vz 5 = z55 at *
        generalize vz 6 = z56 at *
        have hroom := of_decide_eq_true CB.out
        go_wp2
        go_ret
        exact ⟨rfl, _, _, (HM7.out.gr HGY.out).did⟩
  · have HT1 : Hid (putT ls turn k = turn) := Lib.hid (by unfold putT; rw [if_neg hk0])
    have i2 : ¬ ((ls k).length : Int) = 0 := by have := List.length_pos_iff.2 hk0; omega
    clear hk0
    obtain ⟨tv4, HM4⟩ : ∃ tv4, Hid (HM w w1 p ob q (.slice ta turn.length tc) vs [bx] tv4 vs ls (putT ls turn k) many) := ⟨_, Lib.hid (by rw [HT1.out]; exact HM1.out)⟩
    have HX4 := HX1
    go_upto_region 4 with (go_at_call 75; refine (llen_any ob (k * 2) (vs k) (ls k) _ HL1.out).mono ?_; rintro e w2 ⟨rfl, rfl⟩)
    obtain ⟨w4, hw4⟩ : ∃ u, u = w1 := ⟨_, rfl⟩
    rw [← hw4] at HM4 HX4 ⊢
    clear hw4 i2 c0 HL1 HM1 HX1
    have C4 := Lib.hid HM4.out.at_.c0
    refine wp_region_gg (n := 7) [Fg.eq (.pointer (some ⟨p, 0, none⟩)), Fg.eq (.pointer (some ⟨p, 0, none⟩)), Fg.eq (.pointer (some ⟨p, 0, none⟩)), Fg.eq (.slice (some ⟨ob, 0, none⟩) q.lists q.lists), Fg.eq (.int .i64 (k : Int)), Fg.eq (.pointer (some ⟨ob, k * 2, none⟩)), Fg.eq (x.val)] [35, 36, 37, 38, 39, 40, 41] (by kernel_rfl) (by kernel_rfl) (by kernel_rfl) ?_ ?_
    · intro L i o' ac w1 hi ho hA
      have hgr : Gr w4 w1 := (Gr.refl w4).drew.trans hA.gr
      match i, hi with
      | 0, _ =>
        obtain rfl := Option.some.inj ho
        exact gg_plain rfl (gstep_val (q_move rfl (show ac.eval (.tmp 0) = .pointer (some ⟨p, 0, none⟩) from hA.other 0 (by decide))) rfl)
      | 1, _ =>
        obtain rfl := Option.some.inj ho
        exact gg_plain rfl (gstep_val (q_nil rfl (hA.fact 0 (hA.dep 0 (by kernel_rfl) (by decide)))) rfl)
      | 2, _ =>
        obtain rfl := Option.some.inj ho
        exact gg_plain rfl (gstep_val (hsp_fa_fair_Hashed_0 rfl (hA.fact 1 (hA.dep 1 (by kernel_rfl) (by decide)))) rfl)
      | 3, _ =>
        obtain rfl := Option.some.inj ho
        exact gg_plain rfl (gstep_val (hsp_loadS___queue_List rfl (hA.fact 2 (hA.dep 2 (by kernel_rfl) (by decide))) (hgr.cell C4.out)) rfl)
      | 4, _ =>
        obtain rfl := Option.some.inj ho
        exact gg_plain rfl (gstep_val (q_move rfl (show ac.eval (.tmp 7) = .int .i64 (k : Int) from hA.other 7 (by decide))) rfl)
      | 5, _ =>
        obtain rfl := Option.some.inj ho
        exact gg_plain rfl (gstep_val (hs_idx rfl (hA.fact 3 (hA.dep 3 (by kernel_rfl) (by decide))) (show ac.eval (.tmp 39) = .int .i64 (k : Int) from (hA.fact 4 (hA.dep 4 (by kernel_rfl) (by decide)))) HKQ.out) rfl)
      | 6, _ =>
        obtain rfl := Option.some.inj ho
        exact gg_plain rfl (gstep_val (q_loadH rfl (show ac.eval (.tmp 5) = .pointer (some ⟨bx, 0, none⟩) from hA.other 5 (by decide)) (HX4.out.gr hgr)) rfl)
      | k + 7, hk => exact absurd (show k + 7 < 7 from hk) (by omega)
    · intro vz w5 hg5 hv
      have HGX := Lib.hid ((Gr.refl w4).drew.trans hg5)
      have r40 : (vz 5) = .pointer (some ⟨ob, k * 2, none⟩) := hv 5 (by omega)
      have v41 : vz 6 = x.val := hv 6 (by omega)
      clear hv hg5
      simp only [putN, List.drop_succ_cons, List.drop_zero, List.getElem?_cons_succ, List.getElem?_cons_zero]
      generalize vz 5 = z40 at *
      generalize vz 6 = z41 at *
      subst v41
      generalize vz 0 = z35 at *
      generalize vz 1 = z36 at *
      generalize vz 2 = z37 at *
      generalize vz 3 = z38 at *
      generalize vz 4 = z39 at *
      rw [r40]
      go_upto_region 5 with (go_at_call 80; go_loud (refine (ladd_any ob (k * 2) (vs k) (ls k) x _ ((HM4.out.at_.lst k HKQ.out).gr HGX.out) (by have := HOK.out.lens k HKQ.out; omega) (HOK.out.sums k HKQ.out) (by have := HOK.out.len; omega)).mono ?_; rintro e w6 ⟨rfl, v6, hl6, hs6, ho6⟩; have HM6 := Lib.hid (show HM w w6 p ob q _ vs [bx] tv4 (fu vs k v6) (putLs ls k x) (putT ls turn k) many from (HM4.out.gr HGX.out).list HKQ.out hl6 hs6 ho6); have HX6 := Lib.hid ((HX4.out.gr HGX.out).sav hs6.sav (fun e => (HM4.out.gr HGX.out).nin (r := bx) (by simp) (e.elim (fun e => .inr (.inl e)) (fun e => .inr (.inr (.inr ⟨k, HKQ.out, e⟩)))))); clear hl6 hs6 ho6))
      have c4 := HM6.out.at_.c4
      have f4 := HM6.out.at_.f4
      clear r40
      go_upto_region 6 with fail
      rw [HWM.out]
      have HM7 := Lib.hid (HM6.out.set_many (many + 1))
      have HX7 := Lib.hid (HX6.out.sav (.set p 4 (.int .i64 (many + 1))) (fun e => by have h1 := HX0.out.2; have h2 := HPL.out.1; omega))
      generalize w6.setCell ⟨p, 4, none⟩ (.int .i64 (many + 1)) = w7 at *
      clear c4 f4 HM6 HX6
      have C7 := Lib.hid (And.intro HM7.out.at_.c4 HM7.out.at_.c2)
      refine wp_region_gg (n := 8) [Fg.eq (.pointer (some ⟨p, 0, none⟩)), Fg.eq (.pointer (some ⟨p, 0, none⟩)), Fg.eq (.pointer (some ⟨p, 4, none⟩)), Fg.eq (.int .i64 (many + 1)), Fg.eq (.pointer (some ⟨p, 0, none⟩)), Fg.eq (.pointer (some ⟨p, 0, none⟩)), Fg.eq (.pointer (some ⟨p, 2, none⟩)), Fg.eq (.int .i64 q.room)] [50, 51, 52, 53, 54, 55, 56, 57] (by kernel_rfl) (by kernel_rfl) (by kernel_rfl) ?_ ?_
      · intro L i o' ac w1 hi ho hA
        have hgr : Gr w7 w1 := (Gr.refl w7).drew.trans hA.gr
        match i, hi with
        | 0, _ =>
          obtain rfl := Option.some.inj ho
          exact gg_plain rfl (gstep_val (q_move rfl (show ac.eval (.tmp 0) = .pointer (some ⟨p, 0, none⟩) from hA.other 0 (by decide))) rfl)
        | 1, _ =>
          obtain rfl := Option.some.inj ho
          exact gg_plain rfl (gstep_val (q_nil rfl (hA.fact 0 (hA.dep 0 (by kernel_rfl) (by decide)))) rfl)
        | 2, _ =>
          obtain rfl := Option.some.inj ho
          exact gg_plain rfl (gstep_val (hsp_fa_fair_Hashed_4 rfl (hA.fact 1 (hA.dep 1 (by kernel_rfl) (by decide)))) rfl)
        | 3, _ =>
          obtain rfl := Option.some.inj ho
          exact gg_plain rfl (gstep_val (q_loadI rfl (hA.fact 2 (hA.dep 2 (by kernel_rfl) (by decide))) (hgr.cell C7.out.1)) rfl)
        | 4, _ =>
          obtain rfl := Option.some.inj ho
          exact gg_plain rfl (gstep_val (q_move rfl (show ac.eval (.tmp 0) = .pointer (some ⟨p, 0, none⟩) from hA.other 0 (by decide))) rfl)
        | 5, _ =>
          obtain rfl := Option.some.inj ho
          exact gg_plain rfl (gstep_val (q_nil rfl (hA.fact 4 (hA.dep 4 (by kernel_rfl) (by decide)))) rfl)
        | 6, _ =>
          obtain rfl := Option.some.inj ho
          exact gg_plain rfl (gstep_val (hsp_fa_fair_Hashed_2 rfl (hA.fact 5 (hA.dep 5 (by kernel_rfl) (by decide)))) rfl)
        | 7, _ =>
          obtain rfl := Option.some.inj ho
          exact gg_plain rfl (gstep_val (q_loadI rfl (hA.fact 6 (hA.dep 6 (by kernel_rfl) (by decide))) (hgr.cell C7.out.2)) rfl)
        | k + 8, hk => exact absurd (show k + 8 < 8 from hk) (by omega)
      · intro vz w5 hg5 hv
        have HGY := Lib.hid ((Gr.refl w7).drew.trans hg5)
        have v53 : vz 3 = .int .i64 (many + 1) := hv 3 (by omega)
        have v57 : vz 7 = .int .i64 q.room := hv 7 (by omega)
        clear hv hg5
        simp only [putN, List.drop_succ_cons, List.drop_zero, List.getElem?_cons_succ, List.getElem?_cons_zero]
        generalize vz 3 = z53 at *
        subst v53
        generalize vz 7 = z57 at *
        subst v57
        generalize vz 0 = z50 at *
        generalize vz 1 = z51 at *
        generalize vz 2 = z52 at *
        generalize vz 4 = z54 at *
        generalize vz 5 = z55 at *
        generalize vz 6 = z56 at *
        have hroom := of_decide_eq_true CB.out
        go_wp2
        go_ret
        exact ⟨rfl, _, _, (HM7.out.gr HGY.out).did⟩
end Go.Proofs.YtbpofdfehcbppaaDoor

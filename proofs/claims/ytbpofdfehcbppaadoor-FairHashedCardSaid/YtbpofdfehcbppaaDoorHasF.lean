/-
  The program's Hashed: Put, where one must go. (Printed by genhas.py.)
-/
import Derived.Test.YtbpofdfehcbppaaDoorHasE
namespace Go.Proofs.YtbpofdfehcbppaaDoor
open Go.RowKit Go.Extern.Stop Go.Stop Go.Extern


section
variable {ev : Operand → Value} {o : Oper} {w : World} {x y : Operand}
theorem hs_ext0 {a b : Value} (ho : o.op = .extract x 0) (h : ev x = .tuple #[a, b]) : (execOp ev o).run Tryd.prog w = .ok (.value a) w := by
  simp [execOp, ho, h, go_sem]
theorem hs_ext1 {a b : Value} (ho : o.op = .extract x 1) (h : ev x = .tuple #[a, b]) : (execOp ev o).run Tryd.prog w = .ok (.value b) w := by
  simp [execOp, ho, h, go_sem]
theorem hs_alloc (ho : o.op = .alloc 139) : (execOp ev o).run Tryd.prog w = .ok (.value (.pointer (some ⟨w.heap.size, 0, none⟩))) (w.alloc (.cells #[.int .i64 0, .int .i64 0, .int .i64 0, .int .i64 0, .int .i64 0, .int .i64 0] 139)) := by
  simp [execOp, ho, go_sem]
theorem hs_store {g : Nat} {z yy : Hel} (ho : o.op = .store 139 x y) (h : ev x = .pointer (some ⟨g, 0, none⟩)) (k : ev y = yy.val) (hr : HelRes w g z) : (execOp ev o).run Tryd.prog w = .ok .skip ((((((w.setCell ⟨g, 0, none⟩ (.int .i64 yy.t)).setCell ⟨g, 1, none⟩ (.int .i64 yy.len)).setCell ⟨g, 2, none⟩ (.int .i64 yy.flow)).setCell ⟨g, 3, none⟩ (.int .i64 yy.band)).setCell ⟨g, 4, none⟩ (.int .i64 yy.mark)).setCell ⟨g, 5, none⟩ (.int .i64 yy.n)) := by
  obtain ⟨⟨c0, c1, c2, c3, c4, c5⟩, f0, f1, f2, f3, f4, f5⟩ := hr
  simp only [Nat.zero_add] at c1 c2 c3 c4 c5
  simp [execOp, ho, h, k, c0, c1, c2, c3, c4, c5, f0, f1, f2, f3, f4, f5, Hel.val, go_sem]
theorem hs_last {v : Value} (ho : o.op = .call { callee := .value (.func 121), args := #[x], argTypes := #[33] }) (hf : ev (.func 121) = .func (.func 121) #[] #[]) (h : ev x = v) : (execOp ev o).run Tryd.prog w = .ok (.enter 121 #[v]) w := by
  simp [execOp, ho, hf, h, go_sem]
end
def Fg.resA (n : Nat) : Fg := ⟨fun u w => ∃ g z, u = .pointer (some ⟨g, 0, none⟩) ∧ n ≤ g ∧ HelRes w g z, fun _ _ _ ⟨g, z, h1, h2, h3⟩ k => ⟨g, z, h1, h2, h3.gr k⟩⟩
/-- What was stored where operation j's value points. -/
def Fv.stored (j n : Nat) (y : Hel) : Fv := ⟨[j], fun f w => ∃ g, f j = .pointer (some ⟨g, 0, none⟩) ∧ n ≤ g ∧ HelRes w g y, fun f h w e ⟨g, h1, h2⟩ => ⟨g, by rw [← e j (by simp)]; exact h1, h2⟩, fun _ _ _ ⟨g, h1, h2, h3⟩ k => ⟨g, h1, h2, h3.gr k⟩⟩
/-- A variable's box. -/
structure HBox (w : World) (b : Nat) (n : Int) : Prop where
  c : w.cell? ⟨b, 0, none⟩ = some (.int .i64 n)
  f : w.frozen? ⟨b, 0, none⟩ = false
theorem HBox.sav {w w' : World} {b : Nat} {n : Int} {B : Nat → Prop} (h : HBox w b n) (s : Sav B w w') (hb : ¬ B b) : HBox w' b n := ⟨s.cell h.c hb, s.frozen (p := ⟨b, 0, none⟩) (cell_lt h.c) h.f hb⟩
theorem HBox.gr {w w' : World} {b : Nat} {n : Int} (h : HBox w b n) (g : Gr w w') : HBox w' b n := h.sav (B := fun _ => False) (.of_gr g) id
theorem HBox.set {w : World} {b : Nat} {n : Int} (h : HBox w b n) (m : Int) : HBox (w.setCell ⟨b, 0, none⟩ (.int .i64 m)) b m := ⟨cell_ss h.c, by simpa using h.f⟩
/-- Last's world: the list lost its last, nothing else turned. -/
def LstMoved (w0 : World) (ob o : Nat) (v : Value) (f : List Hel) : Bool → World → Prop
  | false, u => Gr w0 u
  | true, u => ∃ v', LstAt u ob o v' f ∧ LSav ob o v w0 u ∧ v'.ownBlock = v.ownBlock
section
variable {w0 u u' : World} {ob o : Nat} {v : Value} {f : List Hel} {b : Bool}
theorem LstMoved.cell (h : LstMoved w0 ob o v f b u) {p : Addr} {x : Value} (hc : w0.cell? p = some x) (hp : ¬ LFoot ob v p.block) : u.cell? p = some x := by
  cases b with
  | false => exact Gr.cell h hc
  | true => obtain ⟨v', _, h2, _⟩ := h; exact h2.sav.cell hc hp
theorem LstMoved.size (h : LstMoved w0 ob o v f b u) : w0.heap.size ≤ u.heap.size := by
  cases b with
  | false => exact Gr.size h
  | true => obtain ⟨v', _, h2, _⟩ := h; exact h2.sav.size
theorem LstMoved.gr (h : LstMoved w0 ob o v f b u) (g : Gr u u') : LstMoved w0 ob o v f b u' := by
  cases b with
  | false => exact Gr.trans h g
  | true => obtain ⟨v', h1, h2, h3⟩ := h; exact ⟨v', h1.gr g, h2.then (.of_gr g h1.lt), h3⟩
theorem LstMoved.off {g : Nat} (h : LstMoved w0 ob o v f b u) (s : Sav (fun q => q = g) u u') (hg : w0.heap.size ≤ g) (hlt : ∀ q, LFoot ob v q → q < w0.heap.size) (hob : ob < w0.heap.size) : LstMoved w0 ob o v f b u' := by
  cases b with
  | false => exact Sav.gr h s (fun q e => by rw [e]; exact hg)
  | true =>
    obtain ⟨v', h1, h2, h3⟩ := h
    exact ⟨v', h1.sav s (fun e => by omega) (fun q hq e => by have := hlt q (.inr (by rw [← h3]; exact hq)); omega), h2.more s (fun q e => by rw [e]; exact hg) hob, h3⟩
end
/-- What Put leaves. -/
def HPutP (w : World) (p ob : Nat) (q : HasP) (tv : Value) (vs : Nat → Value) (ls : Nat → List Hel) (turn : List Int) (many : Int) (y : Hel) (e : Ending) (w' : World) : Prop := ∃ r, e = .returned r ∧ RowH 139 w' r [y] ∧ HDid w w' p ob q tv vs ls turn many
set_option maxRecDepth 100000 in
set_option maxHeartbeats 40000000 in
theorem hput_full (p ob : Nat) (q : HasP) (tv : Value) (vs : Nat → Value) (ls : Nat → List Hel) (turn : List Int) (many : Int) (x : Hel) (ok : PutOk q ls turn many x) (hroom : ¬ many + 1 ≤ q.room) (lg : Nat) (hlg : longL (putLs ls (hashOf q x.flow) x) q.lists = lg) (y : Hel) (f : List Hel) (hy : putLs ls (hashOf q x.flow) x lg = f ++ [y]) (hsf : 0 ≤ sumLen f ∧ sumLen f ≤ 1000000000000000) (it : Nat)
    (hT : f = [] → (putT ls turn (hashOf q x.flow))[it]? = some (lg : Int) ∧ ∀ j, j ≠ it → (putT ls turn (hashOf q x.flow))[j]? ≠ some (lg : Int)) (hTL : (putT ls turn (hashOf q x.flow)).length ≤ 1000) (T2 : List Int) (hT2 : T2 = if f = [] then (putT ls turn (hashOf q x.flow)).eraseIdx it else putT ls turn (hashOf q x.flow)) (now : Int) (w : World) (h : HasC w p ob q tv vs ls turn many) :
    Calls Tryd.prog 118 #[.pointer (some ⟨p, 0, none⟩), .int .i64 now, x.val] w (HPutP w p ob q tv vs (fu (putLs ls (hashOf q x.flow) x) lg f) T2 many y) := by
  have CB := Lib.hid (decide_eq_false hroom)
  have HLG := Lib.hid hlg
  have HY := Lib.hid hy
  have HSF := Lib.hid hsf
  have HTT := Lib.hid hT
  have HTN := Lib.hid hTL
  have HWD := Lib.hid (show wrap64 many = many from by have := ok.many; unfold wrap64; omega)
  have HT2 := Lib.hid hT2
  clear hlg hy hsf hT hTL hT2
  obtain ⟨ta, tc, rfl⟩ := h.turn.shape
  have HA := Lib.hid h
  have HOK := Lib.hid ok
  have HWM := Lib.hid (show wrap64 (many + 1) = many + 1 from by have := ok.many; unfold wrap64; omega)
  have HPL := Lib.hid h.lt
  have hk := hashOf_lt ok.ok x.flow
  have HRL := Lib.hid ok.turn
  generalize hk0 : hashOf q x.flow = k at *
  have HK := Lib.hid hk0
  have i0 : (0 : Int) ≤ (k : Int) := by omega
  have i1 : (k : Int) < (q.lists : Int) := by omega
  have HKQ := Lib.hid hk
  clear h ok hroom hk0
  unfold Hel.val at *
  go_enter Tryd.func118, Tryd.ntmps118
  go_upto_region 1 with fail
  obtain ⟨w0, hw0⟩ : ∃ u, u = w.alloc (.cells #[.int .i64 x.t, .int .i64 x.len, .int .i64 x.flow, .int .i64 x.band, .int .i64 x.mark, .int .i64 x.n] 139) := ⟨_, rfl⟩
  obtain ⟨bx, hbx⟩ : ∃ u, u = w.heap.size := ⟨_, rfl⟩
  have HX0 : Hid (HelAt w0 bx 0 x ∧ bx = w.heap.size) := Lib.hid (by rw [hw0]; exact ⟨held_new w x hbx, hbx⟩)
  have HG0 : Hid (Gr w w0) := Lib.hid (by rw [hw0]; exact (Gr.refl _).alloc _)
  rw [← hw0, ← hbx]
  clear hw0 hbx
  have HM0 := Lib.hid ((HM.first HA.out).res_add HG0.out (show w.heap.size ≤ bx by have := HX0.out.2; omega) (cell_lt HX0.out.1.c0))
  have xf := HX0.out.1.c2
  rw [Nat.zero_add] at xf
  go_upto_region 2 with (go_at_call 27; refine (where_any p ob q HOK.out.ok x.flow HOK.out.flow _ HM0.out.at_.c0 HM0.out.at_.c1).mono ?_; rw [HK.out]; rintro e w1 ⟨rfl, hg1⟩; have HM1 := Lib.hid (HM0.out.gr hg1); have HX1 := Lib.hid (HX0.out.1.gr hg1); clear hg1)
  clear xf
  have c0 := HM1.out.at_.c0
  have HL1 := Lib.hid (HM1.out.at_.lst k hk)
  by_cases hk0 : ls k = []
  · have HT1 : Hid (putT ls turn k = turn ++ [(k : Int)]) := Lib.hid (by unfold putT; rw [if_pos hk0])
    rw [hk0] at HL1
    clear hk0
    have HT4 := Lib.hid HM1.out.at_.turn
    have c3 := HM1.out.at_.c3
    have f3 := HM1.out.at_.f3
    have HS4 := Lib.hid (show (∀ u, Sav (fun g => (Value.slice ta turn.length tc).ownBlock = some g) w1 u → u.cell? ⟨p, 3, none⟩ = some (.slice ta turn.length tc) ∧ u.frozen? ⟨p, 3, none⟩ = false) from fun u hs => ⟨hs.cell HM1.out.at_.c3 (fun e => (HM1.out.at_.tap p e).1 rfl), hs.frozen (p := ⟨p, 3, none⟩) HM1.out.at_.lt.1 HM1.out.at_.f3 (fun e => (HM1.out.at_.tap p e).1 rfl)⟩)
    go_upto_region 3 with (go_at_call 75; refine (llen_any ob (k * 2) (vs k) [] _ HL1.out).mono ?_; rintro e w2 ⟨rfl, rfl⟩)
    go_upto_region 4 with (at_builtin; refine wpList_append_intR rfl _ _ _ (by rfl) (by kernel_rfl) _ turn (k : Int) (by rfl) (HT4.out.gr ((Gr.refl w1).alloc (.cells #[.int .i64 (k : Int)] 3))) ⟨w1.heap.size, 0, none⟩ 1 (by rfl) (by simp) (by have := HRL.out; omega) ?_; intro v6 w6 hrow hgr hown; have hsv : Sav (fun g => (Value.slice ta turn.length tc).ownBlock = some g) w1 w6 := (Sav.of_gr ((Gr.refl w1).alloc (.cells #[.int .i64 (k : Int)] 3))).then (.of_grown hgr fun g e => e); have ho6 : ∀ g, v6.ownBlock = some g → (Value.slice ta turn.length tc).ownBlock = some g ∨ w1.heap.size ≤ g := fun g e => (hown g e).imp id (fun e => by simp at e; omega); have HM4 := Lib.hid (show HM w _ p ob q _ vs [bx] v6 vs ls (putT ls turn k) many from by rw [HT1.out]; exact HM1.out.set_turn hsv hrow ho6); have HX3 := Lib.hid (HX1.out.sav hsv (fun e => HM1.out.nin (r := bx) (by simp) (.inr (.inr (.inl e))))); have HX4 := Lib.hid (HX3.out.sav (.set p 3 v6) (fun e => by have h1 := HX0.out.2; have h2 := HPL.out.1; omega)); obtain ⟨d3, g3⟩ := HS4.out _ hsv; clear hgr hown ho6 hsv c3 f3; obtain ⟨a6, c6, rfl⟩ := hrow.shape; clear hrow; rw [show (turn ++ [(k : Int)]).length = turn.length + 1 from by simp] at HM4 HX4)
    generalize w6.setCell ⟨p, 3, none⟩ (.slice a6 (turn.length + 1) c6) = w4 at *
    generalize Value.slice a6 (turn.length + 1) c6 = tv4 at *
    clear d3 g3 c0 HX3 HS4 HT4 HL1 HM1 HX1
    have C4 := Lib.hid HM4.out.at_.c0
    refine wp_region_gg (n := 7) [Fg.eq (.pointer (some ⟨p, 0, none⟩)), Fg.eq (.pointer (some ⟨p, 0, none⟩)), Fg.eq (.pointer (some ⟨p, 0, none⟩)), Fg.eq (.slice (some ⟨ob, 0, none⟩) q.lists q.lists), Fg.eq (.int .i64 (k : Int)), Fg.eq (.pointer (some ⟨ob, k * 2, none⟩)), Fg.eq (x.val)] [35, 36, 37, 38, 39, 40, 41] (by kernel_rfl) (by kernel_rfl) (by kernel_rfl) ?_ ?_
    · intro L i o' ac w1 hi ho hA
      have hgr : Gr w4 w1 := (Gr.refl w4).drew.trans hA.gr
      match i, hi with
      | 0, _ =>
        obtain rfl := Option.some.inj ho
        exact gg_plain rfl (gstep_val (q_move rfl (show ac.eval (.tmp 0) = .pointer (some ⟨p, 0, none⟩) from hA.other 0 (by decide))) rfl)
      | 1, _ =>
        obtain rfl := Option.some.inj ho
        exact gg_plain rfl (gstep_val (q_nil rfl (hA.fact 0 (hA.dep 0 (by kernel_rfl) (by decide)))) rfl)
      | 2, _ =>
        obtain rfl := Option.some.inj ho
        exact gg_plain rfl (gstep_val (hsp_fa_fair_Hashed_0 rfl (hA.fact 1 (hA.dep 1 (by kernel_rfl) (by decide)))) rfl)
      | 3, _ =>
        obtain rfl := Option.some.inj ho
        exact gg_plain rfl (gstep_val (hsp_loadS___queue_List rfl (hA.fact 2 (hA.dep 2 (by kernel_rfl) (by decide))) (hgr.cell C4.out)) rfl)
      | 4, _ =>
        obtain rfl := Option.some.inj ho
        exact gg_plain rfl (gstep_val (q_move rfl (show ac.eval (.tmp 7) = .int .i64 (k : Int) from hA.other 7 (by decide))) rfl)
      | 5, _ =>
        obtain rfl := Option.some.inj ho
        exact gg_plain rfl (gstep_val (hs_idx rfl (hA.fact 3 (hA.dep 3 (by kernel_rfl) (by decide))) (show ac.eval (.tmp 39) = .int .i64 (k : Int) from (hA.fact 4 (hA.dep 4 (by kernel_rfl) (by decide)))) HKQ.out) rfl)
      | 6, _ =>
        obtain rfl := Option.some.inj ho
        exact gg_plain rfl (gstep_val (q_loadH rfl (show ac.eval (.tmp 5) = .pointer (some ⟨bx, 0, none⟩) from hA.other 5 (by decide)) (HX4.out.gr hgr)) rfl)
      | k + 7, hk => exact absurd (show k + 7 < 7 from hk) (by omega)
    · intro vz w5 hg5 hv
      have HGX := Lib.hid ((Gr.refl w4).drew.trans hg5)
      have r40 : (vz 5) = .pointer (some ⟨ob, k * 2, none⟩) := hv 5 (by omega)
      have v41 : vz 6 = x.val := hv 6 (by omega)
      clear hv hg5
      simp only [putN, List.drop_succ_cons, List.drop_zero, List.getElem?_cons_succ, List.getElem?_cons_zero]
      generalize vz 5 = z40 at *
      generalize vz 6 = z41 at *
      subst v41
      generalize vz 0 = z35 at *
      generalize vz 1 = z36 at *
      generalize vz 2 = z37 at *
      generalize vz 3 = z38 at *
      generalize vz 4 = z39 at *
      rw [r40]
      go_upto_region 5 with (go_at_call 80; go_loud (refine (ladd_any ob (k * 2) (vs k) (ls k) x _ ((HM4.out.at_.lst k HKQ.out).gr HGX.out) (by have := HOK.out.lens k HKQ.out; omega) (HOK.out.sums k HKQ.out) (by have := HOK.out.len; omega)).mono ?_; rintro e w6 ⟨rfl, v6, hl6, hs6, ho6⟩; have HM6 := Lib.hid (show HM w w6 p ob q _ vs [bx] tv4 (fu vs k v6) (putLs ls k x) (putT ls turn k) many from (HM4.out.gr HGX.out).list HKQ.out hl6 hs6 ho6); have HX6 := Lib.hid ((HX4.out.gr HGX.out).sav hs6.sav (fun e => (HM4.out.gr HGX.out).nin (r := bx) (by simp) (e.elim (fun e => .inr (.inl e)) (fun e => .inr (.inr (.inr ⟨k, HKQ.out, e⟩)))))); clear hl6 hs6 ho6))
      have c4 := HM6.out.at_.c4
      have f4 := HM6.out.at_.f4
      clear r40
      go_upto_region 6 with fail
      rw [HWM.out]
      have HM7 := Lib.hid (HM6.out.set_many (many + 1))
      have HX7 := Lib.hid (HX6.out.sav (.set p 4 (.int .i64 (many + 1))) (fun e => by have h1 := HX0.out.2; have h2 := HPL.out.1; omega))
      generalize w6.setCell ⟨p, 4, none⟩ (.int .i64 (many + 1)) = w7 at *
      clear c4 f4 HM6 HX6
      have C7 := Lib.hid (And.intro HM7.out.at_.c4 HM7.out.at_.c2)
      refine wp_region_gg (n := 8) [Fg.eq (.pointer (some ⟨p, 0, none⟩)), Fg.eq (.pointer (some ⟨p, 0, none⟩)), Fg.eq (.pointer (some ⟨p, 4, none⟩)), Fg.eq (.int .i64 (many + 1)), Fg.eq (.pointer (some ⟨p, 0, none⟩)), Fg.eq (.pointer (some ⟨p, 0, none⟩)), Fg.eq (.pointer (some ⟨p, 2, none⟩)), Fg.eq (.int .i64 q.room)] [50, 51, 52, 53, 54, 55, 56, 57] (by kernel_rfl) (by kernel_rfl) (by kernel_rfl) ?_ ?_
      · intro L i o' ac w1 hi ho hA
        have hgr : Gr w7 w1 := (Gr.refl w7).drew.trans hA.gr
        match i, hi with
        | 0, _ =>
          obtain rfl := Option.some.inj ho
          exact gg_plain rfl (gstep_val (q_move rfl (show ac.eval (.tmp 0) = .pointer (some ⟨p, 0, none⟩) from hA.other 0 (by decide))) rfl)
        | 1, _ =>
          obtain rfl := Option.some.inj ho
          exact gg_plain rfl (gstep_val (q_nil rfl (hA.fact 0 (hA.dep 0 (by kernel_rfl) (by decide)))) rfl)
        | 2, _ =>
          obtain rfl := Option.some.inj ho
          exact gg_plain rfl (gstep_val (hsp_fa_fair_Hashed_4 rfl (hA.fact 1 (hA.dep 1 (by kernel_rfl) (by decide)))) rfl)
        | 3, _ =>
          obtain rfl := Option.some.inj ho
          exact gg_plain rfl (gstep_val (q_loadI rfl (hA.fact 2 (hA.dep 2 (by kernel_rfl) (by decide))) (hgr.cell C7.out.1)) rfl)
        | 4, _ =>
          obtain rfl := Option.some.inj ho
          exact gg_plain rfl (gstep_val (q_move rfl (show ac.eval (.tmp 0) = .pointer (some ⟨p, 0, none⟩) from hA.other 0 (by decide))) rfl)
        | 5, _ =>
          obtain rfl := Option.some.inj ho
          exact gg_plain rfl (gstep_val (q_nil rfl (hA.fact 4 (hA.dep 4 (by kernel_rfl) (by decide)))) rfl)
        | 6, _ =>
          obtain rfl := Option.some.inj ho
          exact gg_plain rfl (gstep_val (hsp_fa_fair_Hashed_2 rfl (hA.fact 5 (hA.dep 5 (by kernel_rfl) (by decide)))) rfl)
        | 7, _ =>
          obtain rfl := Option.some.inj ho
          exact gg_plain rfl (gstep_val (q_loadI rfl (hA.fact 6 (hA.dep 6 (by kernel_rfl) (by decide))) (hgr.cell C7.out.2)) rfl)
        | k + 8, hk => exact absurd (show k + 8 < 8 from hk) (by omega)
      · intro vz w5 hg5 hv
        have HGY := Lib.hid ((Gr.refl w7).drew.trans hg5)
        have v53 : vz 3 = .int .i64 (many + 1) := hv 3 (by omega)
        have v57 : vz 7 = .int .i64 q.room := hv 7 (by omega)
        clear hv hg5
        simp only [putN, List.drop_succ_cons, List.drop_zero, List.getElem?_cons_succ, List.getElem?_cons_zero]
        generalize vz 3 = z53 at *
        subst v53
        generalize vz 7 = z57 at *
        subst v57
        generalize vz 0 = z50 at *
        generalize vz 1 = z51 at *
        generalize vz 2 = z52 at *
        generalize vz 4 = z54 at *
        generalize vz 5 = z55 at *
        generalize vz 6 = z56 at *
        have hroom := of_decide_eq_false CB.out
        go_upto_region 9 with fail
        clear hroom
        have HM7g := Lib.hid (HM7.out.gr HGY.out)
        generalize putLs ls k x = Lx at *
        generalize putT ls turn k = Tx at *
        generalize fu vs k v6 = vs4 at *
        obtain ⟨w8, hw8⟩ : ∃ u, u = w5.alloc (.cells #[.int .i64 0] 3) := ⟨_, rfl⟩
        obtain ⟨bl, hbl⟩ : ∃ u, u = w5.heap.size := ⟨_, rfl⟩
        have HG8 : Hid (Gr w5 w8) := Lib.hid (by rw [hw8]; exact (Gr.refl _).alloc _)
        have HB8 : Hid (HBox w8 bl 0) := Lib.hid (by rw [hw8, hbl]; exact ⟨by simp, by simp⟩)
        have HM8 := Lib.hid (HM7g.out.res_add HG8.out (show w5.heap.size ≤ bl by omega) (cell_lt HB8.out.c))
        rw [← hw8, ← hbl]
        clear hw8 hbl HM7 HM7g HX7 HM4 HX4 HM0 HX0 HGX HGY HG8
        have c0 := HM8.out.at_.c0
        have HQL := Lib.hid HOK.out.ok.lists
        go_wp2
        clear c0
        go_loopw [64] (fun s64 wr => ∃ (ii : Nat), ii ≤ q.lists ∧ s64 = .int .i64 (ii : Int) ∧ Hid (HM w wr p ob q (.slice ta turn.length tc) vs [bl, bx] tv4 vs4 Lx Tx (many + 1)) ∧ Hid (HBox wr bl (longL Lx ii : Int))) (fun s _ => q.lists - (intOf s).toNat)
        case atStart => exact ⟨0, Nat.zero_le _, rfl, HM8, HB8⟩
        case round =>
          obtain ⟨ii, hi, rfl, HMR, HBR⟩ := hrel
          by_cases hlt : ii < q.lists
          · have j0 : (0 : Int) ≤ (ii : Int) := by omega
            have j1 : (ii : Int) < (q.lists : Int) := by omega
            have HIQ := Lib.hid hlt
            have HWI := Lib.hid (show wrap64 ((ii : Int) + 1) = (ii : Int) + 1 from by have := HQL.out; unfold wrap64; omega)
            have HLI := Lib.hid (show longL Lx ii < q.lists from by have := longL_le Lx ii; omega)
            have HLS := Lib.hid (show longL Lx (ii + 1) = if (Lx (longL Lx ii)).length < (Lx ii).length then ii else longL Lx ii from rfl)
            have CR := Lib.hid HMR.out.at_.c0
            go_upto_region 12 with fail
            generalize longL Lx ii = m at *
            refine wp_region_gg (n := 14) [Fg.eq (.pointer (some ⟨p, 0, none⟩)), Fg.eq (.pointer (some ⟨p, 0, none⟩)), Fg.eq (.pointer (some ⟨p, 0, none⟩)), Fg.eq (.slice (some ⟨ob, 0, none⟩) q.lists q.lists), Fg.eq (.int .i64 (ii : Int)), Fg.eq (.pointer (some ⟨ob, ii * 2, none⟩)), Fg.eq (.int .i64 ((Lx ii).length : Int)), Fg.eq (.pointer (some ⟨p, 0, none⟩)), Fg.eq (.pointer (some ⟨p, 0, none⟩)), Fg.eq (.pointer (some ⟨p, 0, none⟩)), Fg.eq (.slice (some ⟨ob, 0, none⟩) q.lists q.lists), Fg.eq (.int .i64 (m : Int)), Fg.eq (.pointer (some ⟨ob, m * 2, none⟩)), Fg.eq (.int .i64 ((Lx m).length : Int))] [67, 68, 69, 70, 71, 72, 73, 74, 75, 76, 77, 78, 79, 80] (by kernel_rfl) (by kernel_rfl) (by kernel_rfl) ?_ ?_
            · intro L i o' ac w1 hi ho hA
              have hgr : Gr wr w1 := (Gr.refl wr).drew.trans hA.gr
              match i, hi with
              | 0, _ =>
                obtain rfl := Option.some.inj ho
                exact gg_plain rfl (gstep_val (q_move rfl (show ac.eval (.tmp 0) = .pointer (some ⟨p, 0, none⟩) from hA.other 0 (by decide))) rfl)
              | 1, _ =>
                obtain rfl := Option.some.inj ho
                exact gg_plain rfl (gstep_val (q_nil rfl (hA.fact 0 (hA.dep 0 (by kernel_rfl) (by decide)))) rfl)
              | 2, _ =>
                obtain rfl := Option.some.inj ho
                exact gg_plain rfl (gstep_val (hsp_fa_fair_Hashed_0 rfl (hA.fact 1 (hA.dep 1 (by kernel_rfl) (by decide)))) rfl)
              | 3, _ =>
                obtain rfl := Option.some.inj ho
                exact gg_plain rfl (gstep_val (hsp_loadS___queue_List rfl (hA.fact 2 (hA.dep 2 (by kernel_rfl) (by decide))) (hgr.cell CR.out)) rfl)
              | 4, _ =>
                obtain rfl := Option.some.inj ho
                exact gg_plain rfl (gstep_val (q_move rfl (show ac.eval (.tmp 9) = .int .i64 (ii : Int) from hA.other 9 (by decide))) rfl)
              | 5, _ =>
                obtain rfl := Option.some.inj ho
                exact gg_plain rfl (gstep_val (hs_idx rfl (hA.fact 3 (hA.dep 3 (by kernel_rfl) (by decide))) (show ac.eval (.tmp 71) = .int .i64 (ii : Int) from (hA.fact 4 (hA.dep 4 (by kernel_rfl) (by decide)))) HIQ.out) rfl)
              | 6, _ =>
                obtain rfl := Option.some.inj ho
                exact gg_plain rfl (gstep_call (hsp_call___millrace_queue_List__Len rfl rfl (hA.fact 5 (hA.dep 5 (by kernel_rfl) (by decide)))) ((llen_g ob (ii * 2) (vs4 ii) (Lx ii) w1 ((HMR.out.at_.lst ii HIQ.out).gr hgr)).mono (fun e w' ⟨h1, h2⟩ => ⟨_, h1, h2, rfl⟩)))
              | 7, _ =>
                obtain rfl := Option.some.inj ho
                exact gg_plain rfl (gstep_val (q_move rfl (show ac.eval (.tmp 0) = .pointer (some ⟨p, 0, none⟩) from hA.other 0 (by decide))) rfl)
              | 8, _ =>
                obtain rfl := Option.some.inj ho
                exact gg_plain rfl (gstep_val (q_nil rfl (hA.fact 7 (hA.dep 7 (by kernel_rfl) (by decide)))) rfl)
              | 9, _ =>
                obtain rfl := Option.some.inj ho
                exact gg_plain rfl (gstep_val (hsp_fa_fair_Hashed_0 rfl (hA.fact 8 (hA.dep 8 (by kernel_rfl) (by decide)))) rfl)
              | 10, _ =>
                obtain rfl := Option.some.inj ho
                exact gg_plain rfl (gstep_val (hsp_loadS___queue_List rfl (hA.fact 9 (hA.dep 9 (by kernel_rfl) (by decide))) (hgr.cell CR.out)) rfl)
              | 11, _ =>
                obtain rfl := Option.some.inj ho
                exact gg_plain rfl (gstep_val (q_loadI rfl (show ac.eval (.tmp 8) = .pointer (some ⟨bl, 0, none⟩) from hA.other 8 (by decide)) (hgr.cell HBR.out.c)) rfl)
              | 12, _ =>
                obtain rfl := Option.some.inj ho
                exact gg_plain rfl (gstep_val (hs_idx rfl (hA.fact 10 (hA.dep 10 (by kernel_rfl) (by decide))) (show ac.eval (.tmp 78) = .int .i64 (m : Int) from (hA.fact 11 (hA.dep 11 (by kernel_rfl) (by decide)))) HLI.out) rfl)
              | 13, _ =>
                obtain rfl := Option.some.inj ho
                exact gg_plain rfl (gstep_call (hsp_call___millrace_queue_List__Len rfl rfl (hA.fact 12 (hA.dep 12 (by kernel_rfl) (by decide)))) ((llen_g ob (m * 2) (vs4 m) (Lx m) w1 ((HMR.out.at_.lst m HLI.out).gr hgr)).mono (fun e w' ⟨h1, h2⟩ => ⟨_, h1, h2, rfl⟩)))
              | k + 14, hk => exact absurd (show k + 14 < 14 from hk) (by omega)
            · intro vz w5 hg5 hv
              have HGZ := Lib.hid ((Gr.refl wr).drew.trans hg5)
              have v73 : vz 6 = .int .i64 ((Lx ii).length : Int) := hv 6 (by omega)
              have v80 : vz 13 = .int .i64 ((Lx m).length : Int) := hv 13 (by omega)
              clear hv hg5
              simp only [putN, List.drop_succ_cons, List.drop_zero, List.getElem?_cons_succ, List.getElem?_cons_zero]
              generalize vz 6 = z73 at *
              subst v73
              generalize vz 13 = z80 at *
              subst v80
              generalize vz 0 = z67 at *
              generalize vz 1 = z68 at *
              generalize vz 2 = z69 at *
              generalize vz 3 = z70 at *
              generalize vz 4 = z71 at *
              generalize vz 5 = z72 at *
              generalize vz 7 = z74 at *
              generalize vz 8 = z75 at *
              generalize vz 9 = z76 at *
              generalize vz 10 = z77 at *
              generalize vz 11 = z78 at *
              generalize vz 12 = z79 at *
              have HMZ := Lib.hid (HMR.out.gr HGZ.out)
              have HBZ := Lib.hid (HBR.out.gr HGZ.out)
              obtain ⟨b0, bf⟩ := HBZ.out
              by_cases c : (Lx m).length < (Lx ii).length
              · have c1 : ((Lx m).length : Int) < ((Lx ii).length : Int) := by omega
                rw [if_pos c] at HLS
                clear c
                go_wp2
                rw [HWI.out]
                go_roundw
                case measure => simp [intOf]; omega
                case rel => exact ⟨ii + 1, by omega, by go_num, Lib.hid (HMZ.out.off (.set bl 0 _) (fun g e => by simp [e])), Lib.hid (by rw [HLS.out]; exact HBZ.out.set _)⟩
              · have c1 : ¬ ((Lx m).length : Int) < ((Lx ii).length : Int) := by omega
                rw [if_neg c] at HLS
                clear c
                go_wp2
                rw [HWI.out]
                go_roundw
                case measure => simp [intOf]; omega
                case rel => exact ⟨ii + 1, by omega, by go_num, HMZ, Lib.hid (by rw [HLS.out]; exact HBZ.out)⟩
          · obtain rfl : ii = q.lists := by omega
            rw [HLG.out] at HBR
            have HLL := Lib.hid (show lg < q.lists from by rw [← HLG.out]; exact longL_lt Lx HQL.out.1)
            have j1 : ¬ (q.lists : Int) < (q.lists : Int) := by omega
            clear hi hlt
            go_upto_region 15 with fail
            have HL0 := Lib.hid (show LstAt wr ob (lg * 2) (vs4 lg) (f ++ [y]) from by rw [← HY.out]; exact HMR.out.at_.lst lg HLL.out)
            have HNP : Hid (¬ LFoot ob (vs4 lg) p ∧ ¬ LFoot ob (vs4 lg) bl) := Lib.hid ⟨fun e => e.elim HMR.out.at_.pob (HMR.out.at_.vpp lg HLL.out), fun e => HMR.out.nin (r := bl) (by simp) (e.elim (fun e => .inr (.inl e)) (fun e => .inr (.inr (.inr ⟨lg, HLL.out, e⟩))))⟩
            have CR := Lib.hid HMR.out.at_.c0
            have HLT := Lib.hid (fun g (hg : LFoot ob (vs4 lg) g) => show g < wr.heap.size from hg.elim (fun e => by rw [e]; exact HMR.out.at_.lt.2) (fun e => HL0.out.row.lt e))
            refine wp_region_l (n := 12) (LstMoved wr ob (lg * 2) (vs4 lg) f) 6 [Fv.of 0 (Fg.eq (.pointer (some ⟨p, 0, none⟩))), Fv.of 1 (Fg.eq (.pointer (some ⟨p, 0, none⟩))), Fv.of 2 (Fg.eq (.pointer (some ⟨p, 0, none⟩))), Fv.of 3 (Fg.eq (.slice (some ⟨ob, 0, none⟩) q.lists q.lists)), Fv.of 4 (Fg.eq (.int .i64 (lg : Int))), Fv.of 5 (Fg.eq (.pointer (some ⟨ob, lg * 2, none⟩))), Fv.of 6 (Fg.eq (.tuple #[y.val, .bool true])), Fv.of 7 (Fg.eq (.tuple #[y.val, .bool true])), Fv.of 8 (Fg.eq y.val), Fv.of 9 (Fg.eq (.bool true)), Fv.of 10 (Fg.resA wr.heap.size), Fv.stored 10 wr.heap.size y] [85, 86, 87, 88, 89, 90, 91, 84, 92, 93, 10] (Gr.refl wr).drew (by decide) (by kernel_rfl) (by kernel_rfl) (by kernel_rfl) (by kernel_rfl) ?_ ?_
            · intro L i o ac w1 hi ho hA
              have hcell : ∀ {pa : Addr} {u : Value}, wr.cell? pa = some u → ¬ LFoot ob (vs4 lg) pa.block → w1.cell? pa = some u := fun {pa u} hc hp => HeadAtL.any (R := fun u' => u'.cell? pa = some u) hA (fun b u' h => h.cell hc hp)
              match i, hi with
              | 0, _ =>
                obtain rfl := Option.some.inj ho
                exact lstep_val hA (by decide) (q_move rfl (show ac.eval (.tmp 0) = .pointer (some ⟨p, 0, none⟩) from hA.other 0 (by decide))) (fun _ hf => hf)
              | 1, _ =>
                obtain rfl := Option.some.inj ho
                exact lstep_val hA (by decide) (q_nil rfl (hA.fact 0 (hA.dep 0 (by kernel_rfl) (by decide)))) (fun _ hf => hf)
              | 2, _ =>
                obtain rfl := Option.some.inj ho
                exact lstep_val hA (by decide) (hsp_fa_fair_Hashed_0 rfl (hA.fact 1 (hA.dep 1 (by kernel_rfl) (by decide)))) (fun _ hf => hf)
              | 3, _ =>
                obtain rfl := Option.some.inj ho
                exact lstep_val hA (by decide) (hsp_loadS___queue_List rfl (hA.fact 2 (hA.dep 2 (by kernel_rfl) (by decide))) (hcell CR.out HNP.out.1)) (fun _ hf => hf)
              | 4, _ =>
                obtain rfl := Option.some.inj ho
                exact lstep_val hA (by decide) (q_loadI rfl (show ac.eval (.tmp 8) = .pointer (some ⟨bl, 0, none⟩) from hA.other 8 (by decide)) (hcell HBR.out.c HNP.out.2)) (fun _ hf => hf)
              | 5, _ =>
                obtain rfl := Option.some.inj ho
                exact lstep_val hA (by decide) (hs_idx rfl (hA.fact 3 (hA.dep 3 (by kernel_rfl) (by decide))) (hA.fact 4 (hA.dep 4 (by kernel_rfl) (by decide))) HLL.out) (fun _ hf => hf)
              | 6, _ =>
                obtain rfl := Option.some.inj ho
                refine lstep_call hA rfl (hs_last rfl rfl (hA.fact 5 (hA.dep 5 (by kernel_rfl) (by decide)))) (fun hF => (llast_snoc ob (lg * 2) (vs4 lg) y f w1 (HL0.out.gr hF) HSF.out).mono (fun e w' ⟨h1, v', h2, h3, h4⟩ => ⟨_, h1, ⟨v', h2, (LSav.of_gr hF HMR.out.at_.lt.2).then h3, h4⟩, fun _ hf => hf, fun j hj v hv => ?_⟩))
                match j, hv with
                | 0, hv => exact hv
                | 1, hv => exact hv
                | 2, hv => exact hv
                | 3, hv => exact hv
                | 4, hv => exact hv
                | 5, hv => exact hv
                | 6, hv => exact hv
                | 7, hv => exact hv
                | 8, hv => exact hv
                | 9, hv => exact hv
                | 10, hv =>
                  obtain ⟨g, z, k1, k2, k3⟩ := hv
                  exact ⟨g, z, k1, k2, k3.sav h3.sav (fun e => by have := HLT.out g e; omega)⟩
                | 11, hv =>
                  obtain ⟨g, k1, k2, k3⟩ := hv
                  exact ⟨g, k1, k2, k3.sav h3.sav (fun e => by have := HLT.out g e; omega)⟩
                | j + 12, _ => trivial
              | 7, _ =>
                obtain rfl := Option.some.inj ho
                exact lstep_val hA (by decide) (q_move rfl (hA.fact 6 (hA.dep 6 (by kernel_rfl) (by decide)))) (fun _ hf => hf)
              | 8, _ =>
                obtain rfl := Option.some.inj ho
                exact lstep_val hA (by decide) (hs_ext0 rfl (hA.fact 7 (hA.dep 7 (by kernel_rfl) (by decide)))) (fun _ hf => hf)
              | 9, _ =>
                obtain rfl := Option.some.inj ho
                exact lstep_val hA (by decide) (hs_ext1 rfl (hA.fact 7 (hA.dep 7 (by kernel_rfl) (by decide)))) (fun _ hf => hf)
              | 10, _ =>
                obtain rfl := Option.some.inj ho
                exact lstep_new hA (by decide) (hs_alloc rfl) ((Gr.refl _).alloc _) (fun b hb => hb.gr ((Gr.refl _).alloc _)) (fun _ hf => ⟨_, .zero, hf, HeadAtL.any (R := fun u' => wr.heap.size ≤ u'.heap.size) hA (fun b u' h => h.size), helRes_new w1 .zero rfl⟩)
              | 11, _ =>
                obtain rfl := Option.some.inj ho
                obtain ⟨g, z, hg, hn, hr⟩ := (hA.fact 10 (hA.dep 10 (by kernel_rfl) (by decide)))
                have h6 := hel_set6 hr y
                refine lstep_set hA (by decide) rfl (hs_store rfl hg (hA.fact 8 (hA.dep 8 (by kernel_rfl) (by decide))) hr) (fun b hb => hb.off h6.2 hn HLT.out HMR.out.at_.lt.2) (fun f' hL => ⟨g, (hL 10 (hA.dep 10 (by kernel_rfl) (by decide))).trans hg, hn, h6.1⟩) (fun j hj hv => ?_)
                match j, hj, hv with
                | 0, _, hv => exact hv
                | 1, _, hv => exact hv
                | 2, _, hv => exact hv
                | 3, _, hv => exact hv
                | 4, _, hv => exact hv
                | 5, _, hv => exact hv
                | 6, _, hv => exact hv
                | 7, _, hv => exact hv
                | 8, _, hv => exact hv
                | 9, _, hv => exact hv
                | 10, _, hv => exact ⟨g, y, hg, hn, h6.1⟩
                | 11, hj, _ => exact absurd hj hA.self
                | j + 12, _, _ => trivial
              | j + 12, hk => exact absurd (show j + 12 < 12 from hk) (by omega)
            · intro vz w9 hI hv
              obtain ⟨v9, hl9, hs9, ho9⟩ := hI
              obtain ⟨yb, _, e10, hyb, _⟩ := hv 10 (by omega)
              obtain ⟨yb', e11, _, hry⟩ := hv 11 (by omega)
              have e10' : vz 10 = .pointer (some ⟨yb, 0, none⟩) := e10
              have e11' : vz 10 = .pointer (some ⟨yb', 0, none⟩) := e11
              obtain rfl : yb = yb' := by rw [e10'] at e11'; cases e11'; rfl
              clear e10 e11 e11'
              have e10 := e10'
              clear e10'
              have e8 : vz 8 = y.val := hv 8 (by omega)
              have e9 : vz 9 = .bool true := hv 9 (by omega)
              have HM9 := Lib.hid ((HMR.out.list HLL.out hl9 hs9 (fun g e => .inl (by rw [← ho9]; exact e))).res_in (n := yb) ⟨by have := HMR.out.sav.size; omega, cell_lt hry.at_.c0⟩ (fun e => by
                have hf : HFoot p ob q tv4 vs4 yb := by
                  rcases e with e | e | e | ⟨j, hj, e⟩
                  · exact .inl e
                  · exact .inr (.inl e)
                  · exact .inr (.inr (.inl e))
                  · by_cases hj2 : j = lg
                    · subst hj2
                      rw [fu_at] at e
                      exact .inr (.inr (.inr ⟨j, hj, by rw [← ho9]; exact e⟩))
                    · rw [fu_ne _ _ hj2] at e
                      exact .inr (.inr (.inr ⟨j, hj, e⟩))
                have := HMR.out.at_.flt hf
                omega))
              have HB9 := Lib.hid (HBR.out.sav hs9.sav HNP.out.2)
              have HY9 := Lib.hid hry
              have HNE : Hid (bl ≠ yb) := Lib.hid (fun e => by have := (HMR.out.res bl (by simp)).2; omega)
              clear hv hl9 hs9 ho9 hyb hry HL0 HNP CR HLT HMR HBR
              simp only [putN, List.drop_succ_cons, List.drop_zero, List.getElem?_cons_succ, List.getElem?_cons_zero]
              generalize vz 0 = z85 at *
              generalize vz 1 = z86 at *
              generalize vz 2 = z87 at *
              generalize vz 3 = z88 at *
              generalize vz 4 = z89 at *
              generalize vz 5 = z90 at *
              generalize vz 6 = z91 at *
              generalize vz 7 = z84 at *
              generalize vz 8 = z92 at *
              generalize vz 9 = z93 at *
              generalize vz 10 = z10 at *
              generalize vz 11 = z0 at *
              subst e10 e8 e9
              have HM10 := HM9
              have HB10 := HB9
              have HY10 : Hid (HelRes w9 yb y ∧ True) := Lib.hid ⟨HY9.out, trivial⟩
              obtain ⟨w10, hw10⟩ : ∃ u, u = w9 := ⟨_, rfl⟩
              rw [← hw10] at HM10 HB10 HY10 ⊢
              clear hw10 HM9 HB9 HY9
              have c4 := HM10.out.at_.c4
              have f4 := HM10.out.at_.f4
              have HPN : Hid (bl ≠ p ∧ yb ≠ p) := Lib.hid ⟨fun e => HM10.out.nin (r := bl) (by simp) (.inl e), fun e => HM10.out.nin (r := yb) (by simp) (.inl e)⟩
              go_upto_region 17 with fail
              rw [HWD.out]
              have HM11 := Lib.hid (HM10.out.set_many many)
              have HB11 := Lib.hid (HB10.out.sav (.set p 4 (.int .i64 many)) (fun e => HPN.out.1 e))
              have HY11 := Lib.hid (HY10.out.1.sav (.set p 4 (.int .i64 many)) (fun e => HPN.out.2 e))
              generalize w10.setCell ⟨p, 4, none⟩ (.int .i64 many) = w11 at *
              clear c4 f4 HM10 HB10 HY10
              have CR := Lib.hid HM11.out.at_.c0
              have HL11 := Lib.hid (show LstAt w11 ob (lg * 2) v9 f from by have h1 := HM11.out.at_.lst lg HLL.out; rw [fu_at, fu_at] at h1; exact h1)
              refine wp_region_gg (n := 7) [Fg.eq (.pointer (some ⟨p, 0, none⟩)), Fg.eq (.pointer (some ⟨p, 0, none⟩)), Fg.eq (.pointer (some ⟨p, 0, none⟩)), Fg.eq (.slice (some ⟨ob, 0, none⟩) q.lists q.lists), Fg.eq (.int .i64 (lg : Int)), Fg.eq (.pointer (some ⟨ob, lg * 2, none⟩)), Fg.eq (.int .i64 (f.length : Int))] [101, 102, 103, 104, 105, 106, 107] (by kernel_rfl) (by kernel_rfl) (by kernel_rfl) ?_ ?_
              · intro L i o' ac w1 hi ho hA
                have hgr : Gr w11 w1 := (Gr.refl w11).drew.trans hA.gr
                match i, hi with
                | 0, _ =>
                  obtain rfl := Option.some.inj ho
                  exact gg_plain rfl (gstep_val (q_move rfl (show ac.eval (.tmp 0) = .pointer (some ⟨p, 0, none⟩) from hA.other 0 (by decide))) rfl)
                | 1, _ =>
                  obtain rfl := Option.some.inj ho
                  exact gg_plain rfl (gstep_val (q_nil rfl (hA.fact 0 (hA.dep 0 (by kernel_rfl) (by decide)))) rfl)
                | 2, _ =>
                  obtain rfl := Option.some.inj ho
                  exact gg_plain rfl (gstep_val (hsp_fa_fair_Hashed_0 rfl (hA.fact 1 (hA.dep 1 (by kernel_rfl) (by decide)))) rfl)
                | 3, _ =>
                  obtain rfl := Option.some.inj ho
                  exact gg_plain rfl (gstep_val (hsp_loadS___queue_List rfl (hA.fact 2 (hA.dep 2 (by kernel_rfl) (by decide))) (hgr.cell CR.out)) rfl)
                | 4, _ =>
                  obtain rfl := Option.some.inj ho
                  exact gg_plain rfl (gstep_val (q_loadI rfl (show ac.eval (.tmp 8) = .pointer (some ⟨bl, 0, none⟩) from hA.other 8 (by decide)) (hgr.cell HB11.out.c)) rfl)
                | 5, _ =>
                  obtain rfl := Option.some.inj ho
                  exact gg_plain rfl (gstep_val (hs_idx rfl (hA.fact 3 (hA.dep 3 (by kernel_rfl) (by decide))) (show ac.eval (.tmp 105) = .int .i64 (lg : Int) from (hA.fact 4 (hA.dep 4 (by kernel_rfl) (by decide)))) HLL.out) rfl)
                | 6, _ =>
                  obtain rfl := Option.some.inj ho
                  exact gg_plain rfl (gstep_call (hsp_call___millrace_queue_List__Len rfl rfl (hA.fact 5 (hA.dep 5 (by kernel_rfl) (by decide)))) ((llen_g ob (lg * 2) v9 f w1 (HL11.out.gr hgr)).mono (fun e w' ⟨h1, h2⟩ => ⟨_, h1, h2, rfl⟩)))
                | k + 7, hk => exact absurd (show k + 7 < 7 from hk) (by omega)
              · intro vz w5 hg5 hv
                have HGV := Lib.hid ((Gr.refl w11).drew.trans hg5)
                have v107 : vz 6 = .int .i64 (f.length : Int) := hv 6 (by omega)
                clear hv hg5
                simp only [putN, List.drop_succ_cons, List.drop_zero, List.getElem?_cons_succ, List.getElem?_cons_zero]
                generalize vz 6 = z107 at *
                subst v107
                generalize vz 0 = z101 at *
                generalize vz 1 = z102 at *
                generalize vz 2 = z103 at *
                generalize vz 3 = z104 at *
                generalize vz 4 = z105 at *
                generalize vz 5 = z106 at *
                have HM12 := Lib.hid (HM11.out.gr HGV.out)
                have HB12 := Lib.hid (HB11.out.gr HGV.out)
                have HY12 := Lib.hid (HY11.out.gr HGV.out)
                clear HM11 HB11 HY11 HL11 CR HGV
                by_cases hf0 : f = []
                · have HTZ : Hid (T2 = Tx.eraseIdx it) := Lib.hid (by rw [HT2.out, if_pos hf0])
                  have HTF := Lib.hid (HTT.out hf0)
                  subst hf0
                  have hTx : 0 < Tx.length := by
                    have h1 := (List.getElem?_eq_some_iff.1 HTF.out.1).1
                    omega
                  obtain ⟨tg, toff, cap, rfl, _⟩ := Row.cells HM12.out.at_.turn hTx
                  clear hTx
                  have c3 := HM12.out.at_.c3
                  have f3 := HM12.out.at_.f3
                  have HBG : Hid (bl ≠ tg) := Lib.hid (fun e => HM12.out.nin (r := bl) (by simp) (.inr (.inr (.inl (by rw [e]; rfl)))))
                  have HPG : Hid (p ≠ tg) := Lib.hid (fun e => (HM12.out.at_.tap tg rfl).1 e.symm)
                  have HYG : Hid (yb ≠ tg) := Lib.hid (fun e => HM12.out.nin (r := yb) (by simp) (.inr (.inr (.inl (by rw [e]; rfl)))))
                  have HDF := Lib.hid (idelete_any tg toff cap bl (lg : Int) Tx it HTF.out.1 HTF.out.2 HTN.out w5 HM12.out.at_.turn HB12.out.c HBG.out)
                  go_upto_region 19 with (go_at_call 122; (with_reducible refine HDF.out.mono ?_); rintro e w13 ⟨rfl, hr13, hs13⟩; have d3 := hs13.cell HM12.out.at_.c3 (fun e => HPG.out e); have g3 := hs13.frozen (p := ⟨p, 3, none⟩) HM12.out.at_.lt.1 HM12.out.at_.f3 (fun e => HPG.out e); have HR13 := Lib.hid hr13; have HS13 := Lib.hid hs13; clear hr13 hs13 c3 f3)
                  have HM14 := Lib.hid (HM12.out.set_turn (HS13.out.mono (fun g e => by rw [e]; rfl)) HR13.out (fun g e => .inl e))
                  have HY14 := Lib.hid ((HY12.out.sav HS13.out (fun e => HYG.out e)).sav (.set p 3 (.slice (some ⟨tg, toff, none⟩) (Tx.length - 1) cap)) (fun e => HPN.out.2 e))
                  generalize w13.setCell ⟨p, 3, none⟩ (.slice (some ⟨tg, toff, none⟩) (Tx.length - 1) cap) = w14 at *
                  clear d3 g3
                  obtain ⟨⟨q0, q1, q2, q3, q4, q5⟩, _⟩ := HY14.out
                  obtain ⟨w15, hw15⟩ : ∃ u, u = w14.alloc (.cells #[.int .i64 y.t, .int .i64 y.len, .int .i64 y.flow, .int .i64 y.band, .int .i64 y.mark, .int .i64 y.n] 139) := ⟨_, rfl⟩
                  have HR15 := Lib.hid (show RowH 139 w15 (.slice (some ⟨w14.heap.size, 0, none⟩) 1 1) [y] from by rw [hw15]; exact RowH.one _ w14 y rfl)
                  have HM15 := Lib.hid (HM14.out.gr (show Gr w14 w15 from by rw [hw15]; exact (Gr.refl _).alloc _))
                  go_wp2
                  rw [← hw15]
                  clear hw15
                  refine bodyPost_ret (v := .slice (some ⟨w14.heap.size, 0, none⟩) 1 1) (by simp [results, Tryd.results118, go_sem]) rfl ?_
                  rw [HTZ.out]
                  exact ⟨_, rfl, HR15.out, _, _, HM15.out.did⟩
                · have i9 : ¬ (f.length : Int) = 0 := by have := List.length_pos_iff.2 hf0; omega
                  have HTZ : Hid (T2 = Tx) := Lib.hid (by rw [HT2.out, if_neg hf0])
                  go_upto_region 19 with fail
                  obtain ⟨⟨q0, q1, q2, q3, q4, q5⟩, _⟩ := HY12.out
                  obtain ⟨w15, hw15⟩ : ∃ u, u = w5.alloc (.cells #[.int .i64 y.t, .int .i64 y.len, .int .i64 y.flow, .int .i64 y.band, .int .i64 y.mark, .int .i64 y.n] 139) := ⟨_, rfl⟩
                  have HR15 := Lib.hid (show RowH 139 w15 (.slice (some ⟨w5.heap.size, 0, none⟩) 1 1) [y] from by rw [hw15]; exact RowH.one _ w5 y rfl)
                  have HM15 := Lib.hid (HM12.out.gr (show Gr w5 w15 from by rw [hw15]; exact (Gr.refl _).alloc _))
                  go_wp2
                  rw [← hw15]
                  clear hw15
                  refine bodyPost_ret (v := .slice (some ⟨w5.heap.size, 0, none⟩) 1 1) (by simp [results, Tryd.results118, go_sem]) rfl ?_
                  rw [HTZ.out]
                  exact ⟨_, rfl, HR15.out, _, _, HM15.out.did⟩
  · have HT1 : Hid (putT ls turn k = turn) := Lib.hid (by unfold putT; rw [if_neg hk0])
    have i2 : ¬ ((ls k).length : Int) = 0 := by have := List.length_pos_iff.2 hk0; omega
    clear hk0
    obtain ⟨tv4, HM4⟩ : ∃ tv4, Hid (HM w w1 p ob q (.slice ta turn.length tc) vs [bx] tv4 vs ls (putT ls turn k) many) := ⟨_, Lib.hid (by rw [HT1.out]; exact HM1.out)⟩
    have HX4 := HX1
    go_upto_region 4 with (go_at_call 75; refine (llen_any ob (k * 2) (vs k) (ls k) _ HL1.out).mono ?_; rintro e w2 ⟨rfl, rfl⟩)
    obtain ⟨w4, hw4⟩ : ∃ u, u = w1 := ⟨_, rfl⟩
    rw [← hw4] at HM4 HX4 ⊢
    clear hw4 i2 c0 HL1 HM1 HX1
    have C4 := Lib.hid HM4.out.at_.c0
    refine wp_region_gg (n := 7) [Fg.eq (.pointer (some ⟨p, 0, none⟩)), Fg.eq (.pointer (some ⟨p, 0, none⟩)), Fg.eq (.pointer (some ⟨p, 0, none⟩)), Fg.eq (.slice (some ⟨ob, 0, none⟩) q.lists q.lists), Fg.eq (.int .i64 (k : Int)), Fg.eq (.pointer (some ⟨ob, k * 2, none⟩)), Fg.eq (x.val)] [35, 36, 37, 38, 39, 40, 41] (by kernel_rfl) (by kernel_rfl) (by kernel_rfl) ?_ ?_
    · intro L i o' ac w1 hi ho hA
      have hgr : Gr w4 w1 := (Gr.refl w4).drew.trans hA.gr
      match i, hi with
      | 0, _ =>
        obtain rfl := Option.some.inj ho
        exact gg_plain rfl (gstep_val (q_move rfl (show ac.eval (.tmp 0) = .pointer (some ⟨p, 0, none⟩) from hA.other 0 (by decide))) rfl)
      | 1, _ =>
        obtain rfl := Option.some.inj ho
        exact gg_plain rfl (gstep_val (q_nil rfl (hA.fact 0 (hA.dep 0 (by kernel_rfl) (by decide)))) rfl)
      | 2, _ =>
        obtain rfl := Option.some.inj ho
        exact gg_plain rfl (gstep_val (hsp_fa_fair_Hashed_0 rfl (hA.fact 1 (hA.dep 1 (by kernel_rfl) (by decide)))) rfl)
      | 3, _ =>
        obtain rfl := Option.some.inj ho
        exact gg_plain rfl (gstep_val (hsp_loadS___queue_List rfl (hA.fact 2 (hA.dep 2 (by kernel_rfl) (by decide))) (hgr.cell C4.out)) rfl)
      | 4, _ =>
        obtain rfl := Option.some.inj ho
        exact gg_plain rfl (gstep_val (q_move rfl (show ac.eval (.tmp 7) = .int .i64 (k : Int) from hA.other 7 (by decide))) rfl)
      | 5, _ =>
        obtain rfl := Option.some.inj ho
        exact gg_plain rfl (gstep_val (hs_idx rfl (hA.fact 3 (hA.dep 3 (by kernel_rfl) (by decide))) (show ac.eval (.tmp 39) = .int .i64 (k : Int) from (hA.fact 4 (hA.dep 4 (by kernel_rfl) (by decide)))) HKQ.out) rfl)
      | 6, _ =>
        obtain rfl := Option.some.inj ho
        exact gg_plain rfl (gstep_val (q_loadH rfl (show ac.eval (.tmp 5) = .pointer (some ⟨bx, 0, none⟩) from hA.other 5 (by decide)) (HX4.out.gr hgr)) rfl)
      | k + 7, hk => exact absurd (show k + 7 < 7 from hk) (by omega)
    · intro vz w5 hg5 hv
      have HGX := Lib.hid ((Gr.refl w4).drew.trans hg5)
      have r40 : (vz 5) = .pointer (some ⟨ob, k * 2, none⟩) := hv 5 (by omega)
      have v41 : vz 6 = x.val := hv 6 (by omega)
      clear hv hg5
      simp only [putN, List.drop_succ_cons, List.drop_zero, List.getElem?_cons_succ, List.getElem?_cons_zero]
      generalize vz 5 = z40 at *
      generalize vz 6 = z41 at *
      subst v41
      generalize vz 0 = z35 at *
      generalize vz 1 = z36 at *
      generalize vz 2 = z37 at *
      generalize vz 3 = z38 at *
      generalize vz 4 = z39 at *
      rw [r40]
      go_upto_region 5 with (go_at_call 80; go_loud (refine (ladd_any ob (k * 2) (vs k) (ls k) x _ ((HM4.out.at_.lst k HKQ.out).gr HGX.out) (by have := HOK.out.lens k HKQ.out; omega) (HOK.out.sums k HKQ.out) (by have := HOK.out.len; omega)).mono ?_; rintro e w6 ⟨rfl, v6, hl6, hs6, ho6⟩; have HM6 := Lib.hid (show HM w w6 p ob q _ vs [bx] tv4 (fu vs k v6) (putLs ls k x) (putT ls turn k) many from (HM4.out.gr HGX.out).list HKQ.out hl6 hs6 ho6); have HX6 := Lib.hid ((HX4.out.gr HGX.out).sav hs6.sav (fun e => (HM4.out.gr HGX.out).nin (r := bx) (by simp) (e.elim (fun e => .inr (.inl e)) (fun e => .inr (.inr (.inr ⟨k, HKQ.out, e⟩)))))); clear hl6 hs6 ho6))
      have c4 := HM6.out.at_.c4
      have f4 := HM6.out.at_.f4
      clear r40
      go_upto_region 6 with fail
      rw [HWM.out]
      have HM7 := Lib.hid (HM6.out.set_many (many + 1))
      have HX7 := Lib.hid (HX6.out.sav (.set p 4 (.int .i64 (many + 1))) (fun e => by have h1 := HX0.out.2; have h2 := HPL.out.1; omega))
      generalize w6.setCell ⟨p, 4, none⟩ (.int .i64 (many + 1)) = w7 at *
      clear c4 f4 HM6 HX6
      have C7 := Lib.hid (And.intro HM7.out.at_.c4 HM7.out.at_.c2)
      refine wp_region_gg (n := 8) [Fg.eq (.pointer (some ⟨p, 0, none⟩)), Fg.eq (.pointer (some ⟨p, 0, none⟩)), Fg.eq (.pointer (some ⟨p, 4, none⟩)), Fg.eq (.int .i64 (many + 1)), Fg.eq (.pointer (some ⟨p, 0, none⟩)), Fg.eq (.pointer (some ⟨p, 0, none⟩)), Fg.eq (.pointer (some ⟨p, 2, none⟩)), Fg.eq (.int .i64 q.room)] [50, 51, 52, 53, 54, 55, 56, 57] (by kernel_rfl) (by kernel_rfl) (by kernel_rfl) ?_ ?_
      · intro L i o' ac w1 hi ho hA
        have hgr : Gr w7 w1 := (Gr.refl w7).drew.trans hA.gr
        match i, hi with
        | 0, _ =>
          obtain rfl := Option.some.inj ho
          exact gg_plain rfl (gstep_val (q_move rfl (show ac.eval (.tmp 0) = .pointer (some ⟨p, 0, none⟩) from hA.other 0 (by decide))) rfl)
        | 1, _ =>
          obtain rfl := Option.some.inj ho
          exact gg_plain rfl (gstep_val (q_nil rfl (hA.fact 0 (hA.dep 0 (by kernel_rfl) (by decide)))) rfl)
        | 2, _ =>
          obtain rfl := Option.some.inj ho
          exact gg_plain rfl (gstep_val (hsp_fa_fair_Hashed_4 rfl (hA.fact 1 (hA.dep 1 (by kernel_rfl) (by decide)))) rfl)
        | 3, _ =>
          obtain rfl := Option.some.inj ho
          exact gg_plain rfl (gstep_val (q_loadI rfl (hA.fact 2 (hA.dep 2 (by kernel_rfl) (by decide))) (hgr.cell C7.out.1)) rfl)
        | 4, _ =>
          obtain rfl := Option.some.inj ho
          exact gg_plain rfl (gstep_val (q_move rfl (show ac.eval (.tmp 0) = .pointer (some ⟨p, 0, none⟩) from hA.other 0 (by decide))) rfl)
        | 5, _ =>
          obtain rfl := Option.some.inj ho
          exact gg_plain rfl (gstep_val (q_nil rfl (hA.fact 4 (hA.dep 4 (by kernel_rfl) (by decide)))) rfl)
        | 6, _ =>
          obtain rfl := Option.some.inj ho
          exact gg_plain rfl (gstep_val (hsp_fa_fair_Hashed_2 rfl (hA.fact 5 (hA.dep 5 (by kernel_rfl) (by decide)))) rfl)
        | 7, _ =>
          obtain rfl := Option.some.inj ho
          exact gg_plain rfl (gstep_val (q_loadI rfl (hA.fact 6 (hA.dep 6 (by kernel_rfl) (by decide))) (hgr.cell C7.out.2)) rfl)
        | k + 8, hk => exact absurd (show k + 8 < 8 from hk) (by omega)
      · intro vz w5 hg5 hv
        have HGY := Lib.hid ((Gr.refl w7).drew.trans hg5)
        have v53 : vz 3 = .int .i64 (many + 1) := hv 3 (by omega)
        have v57 : vz 7 = .int .i64 q.room := hv 7 (by omega)
        clear hv hg5
        simp only [putN, List.drop_succ_cons, List.drop_zero, List.getElem?_cons_succ, List.getElem?_cons_zero]
        generalize vz 3 = z53 at *
        subst v53
        generalize vz 7 = z57 at *
        subst v57
        generalize vz 0 = z50 at *
        generalize vz 1 = z51 at *
        generalize vz 2 = z52 at *
        generalize vz 4 = z54 at *
        generalize vz 5 = z55 at *
        generalize vz 6 = z56 at *
        have hroom := of_decide_eq_false CB.out
        go_upto_region 9 with fail
        clear hroom
        have HM7g := Lib.hid (HM7.out.gr HGY.out)
        generalize putLs ls k x = Lx at *
        generalize putT ls turn k = Tx at *
        generalize fu vs k v6 = vs4 at *
        obtain ⟨w8, hw8⟩ : ∃ u, u = w5.alloc (.cells #[.int .i64 0] 3) := ⟨_, rfl⟩
        obtain ⟨bl, hbl⟩ : ∃ u, u = w5.heap.size := ⟨_, rfl⟩
        have HG8 : Hid (Gr w5 w8) := Lib.hid (by rw [hw8]; exact (Gr.refl _).alloc _)
        have HB8 : Hid (HBox w8 bl 0) := Lib.hid (by rw [hw8, hbl]; exact ⟨by simp, by simp⟩)
        have HM8 := Lib.hid (HM7g.out.res_add HG8.out (show w5.heap.size ≤ bl by omega) (cell_lt HB8.out.c))
        rw [← hw8, ← hbl]
        clear hw8 hbl HM7 HM7g HX7 HM4 HX4 HM0 HX0 HGX HGY HG8
        have c0 := HM8.out.at_.c0
        have HQL := Lib.hid HOK.out.ok.lists
        go_wp2
        clear c0
        go_loopw [64] (fun s64 wr => ∃ (ii : Nat), ii ≤ q.lists ∧ s64 = .int .i64 (ii : Int) ∧ Hid (HM w wr p ob q (.slice ta turn.length tc) vs [bl, bx] tv4 vs4 Lx Tx (many + 1)) ∧ Hid (HBox wr bl (longL Lx ii : Int))) (fun s _ => q.lists - (intOf s).toNat)
        case atStart => exact ⟨0, Nat.zero_le _, rfl, HM8, HB8⟩
        case round =>
          obtain ⟨ii, hi, rfl, HMR, HBR⟩ := hrel
          by_cases hlt : ii < q.lists
          · have j0 : (0 : Int) ≤ (ii : Int) := by omega
            have j1 : (ii : Int) < (q.lists : Int) := by omega
            have HIQ := Lib.hid hlt
            have HWI := Lib.hid (show wrap64 ((ii : Int) + 1) = (ii : Int) + 1 from by have := HQL.out; unfold wrap64; omega)
            have HLI := Lib.hid (show longL Lx ii < q.lists from by have := longL_le Lx ii; omega)
            have HLS := Lib.hid (show longL Lx (ii + 1) = if (Lx (longL Lx ii)).length < (Lx ii).length then ii else longL Lx ii from rfl)
            have CR := Lib.hid HMR.out.at_.c0
            go_upto_region 12 with fail
            generalize longL Lx ii = m at *
            refine wp_region_gg (n := 14) [Fg.eq (.pointer (some ⟨p, 0, none⟩)), Fg.eq (.pointer (some ⟨p, 0, none⟩)), Fg.eq (.pointer (some ⟨p, 0, none⟩)), Fg.eq (.slice (some ⟨ob, 0, none⟩) q.lists q.lists), Fg.eq (.int .i64 (ii : Int)), Fg.eq (.pointer (some ⟨ob, ii * 2, none⟩)), Fg.eq (.int .i64 ((Lx ii).length : Int)), Fg.eq (.pointer (some ⟨p, 0, none⟩)), Fg.eq (.pointer (some ⟨p, 0, none⟩)), Fg.eq (.pointer (some ⟨p, 0, none⟩)), Fg.eq (.slice (some ⟨ob, 0, none⟩) q.lists q.lists), Fg.eq (.int .i64 (m : Int)), Fg.eq (.pointer (some ⟨ob, m * 2, none⟩)), Fg.eq (.int .i64 ((Lx m).length : Int))] [67, 68, 69, 70, 71, 72, 73, 74, 75, 76, 77, 78, 79, 80] (by kernel_rfl) (by kernel_rfl) (by kernel_rfl) ?_ ?_
            · intro L i o' ac w1 hi ho hA
              have hgr : Gr wr w1 := (Gr.refl wr).drew.trans hA.gr
              match i, hi with
              | 0, _ =>
                obtain rfl := Option.some.inj ho
                exact gg_plain rfl (gstep_val (q_move rfl (show ac.eval (.tmp 0) = .pointer (some ⟨p, 0, none⟩) from hA.other 0 (by decide))) rfl)
              | 1, _ =>
                obtain rfl := Option.some.inj ho
                exact gg_plain rfl (gstep_val (q_nil rfl (hA.fact 0 (hA.dep 0 (by kernel_rfl) (by decide)))) rfl)
              | 2, _ =>
                obtain rfl := Option.some.inj ho
                exact gg_plain rfl (gstep_val (hsp_fa_fair_Hashed_0 rfl (hA.fact 1 (hA.dep 1 (by kernel_rfl) (by decide)))) rfl)
              | 3, _ =>
                obtain rfl := Option.some.inj ho
                exact gg_plain rfl (gstep_val (hsp_loadS___queue_List rfl (hA.fact 2 (hA.dep 2 (by kernel_rfl) (by decide))) (hgr.cell CR.out)) rfl)
              | 4, _ =>
                obtain rfl := Option.some.inj ho
                exact gg_plain rfl (gstep_val (q_move rfl (show ac.eval (.tmp 9) = .int .i64 (ii : Int) from hA.other 9 (by decide))) rfl)
              | 5, _ =>
                obtain rfl := Option.some.inj ho
                exact gg_plain rfl (gstep_val (hs_idx rfl (hA.fact 3 (hA.dep 3 (by kernel_rfl) (by decide))) (show ac.eval (.tmp 71) = .int .i64 (ii : Int) from (hA.fact 4 (hA.dep 4 (by kernel_rfl) (by decide)))) HIQ.out) rfl)
              | 6, _ =>
                obtain rfl := Option.some.inj ho
                exact gg_plain rfl (gstep_call (hsp_call___millrace_queue_List__Len rfl rfl (hA.fact 5 (hA.dep 5 (by kernel_rfl) (by decide)))) ((llen_g ob (ii * 2) (vs4 ii) (Lx ii) w1 ((HMR.out.at_.lst ii HIQ.out).gr hgr)).mono (fun e w' ⟨h1, h2⟩ => ⟨_, h1, h2, rfl⟩)))
              | 7, _ =>
                obtain rfl := Option.some.inj ho
                exact gg_plain rfl (gstep_val (q_move rfl (show ac.eval (.tmp 0) = .pointer (some ⟨p, 0, none⟩) from hA.other 0 (by decide))) rfl)
              | 8, _ =>
                obtain rfl := Option.some.inj ho
                exact gg_plain rfl (gstep_val (q_nil rfl (hA.fact 7 (hA.dep 7 (by kernel_rfl) (by decide)))) rfl)
              | 9, _ =>
                obtain rfl := Option.some.inj ho
                exact gg_plain rfl (gstep_val (hsp_fa_fair_Hashed_0 rfl (hA.fact 8 (hA.dep 8 (by kernel_rfl) (by decide)))) rfl)
              | 10, _ =>
                obtain rfl := Option.some.inj ho
                exact gg_plain rfl (gstep_val (hsp_loadS___queue_List rfl (hA.fact 9 (hA.dep 9 (by kernel_rfl) (by decide))) (hgr.cell CR.out)) rfl)
              | 11, _ =>
                obtain rfl := Option.some.inj ho
                exact gg_plain rfl (gstep_val (q_loadI rfl (show ac.eval (.tmp 8) = .pointer (some ⟨bl, 0, none⟩) from hA.other 8 (by decide)) (hgr.cell HBR.out.c)) rfl)
              | 12, _ =>
                obtain rfl := Option.some.inj ho
                exact gg_plain rfl (gstep_val (hs_idx rfl (hA.fact 10 (hA.dep 10 (by kernel_rfl) (by decide))) (show ac.eval (.tmp 78) = .int .i64 (m : Int) from (hA.fact 11 (hA.dep 11 (by kernel_rfl) (by decide)))) HLI.out) rfl)
              | 13, _ =>
                obtain rfl := Option.some.inj ho
                exact gg_plain rfl (gstep_call (hsp_call___millrace_queue_List__Len rfl rfl (hA.fact 12 (hA.dep 12 (by kernel_rfl) (by decide)))) ((llen_g ob (m * 2) (vs4 m) (Lx m) w1 ((HMR.out.at_.lst m HLI.out).gr hgr)).mono (fun e w' ⟨h1, h2⟩ => ⟨_, h1, h2, rfl⟩)))
              | k + 14, hk => exact absurd (show k + 14 < 14 from hk) (by omega)
            · intro vz w5 hg5 hv
              have HGZ := Lib.hid ((Gr.refl wr).drew.trans hg5)
              have v73 : vz 6 = .int .i64 ((Lx ii).length : Int) := hv 6 (by omega)
              have v80 : vz 13 = .int .i64 ((Lx m).length : Int) := hv 13 (by omega)
              clear hv hg5
              simp only [putN, List.drop_succ_cons, List.drop_zero, List.getElem?_cons_succ, List.getElem?_cons_zero]
              generalize vz 6 = z73 at *
              subst v73
              generalize vz 13 = z80 at *
              subst v80
              generalize vz 0 = z67 at *
              generalize vz 1 = z68 at *
              generalize vz 2 = z69 at *
              generalize vz 3 = z70 at *
              generalize vz 4 = z71 at *
              generalize vz 5 = z72 at *
              generalize vz 7 = z74 at *
              generalize vz 8 = z75 at *
              generalize vz 9 = z76 at *
              generalize vz 10 = z77 at *
              generalize vz 11 = z78 at *
              generalize vz 12 = z79 at *
              have HMZ := Lib.hid (HMR.out.gr HGZ.out)
              have HBZ := Lib.hid (HBR.out.gr HGZ.out)
              obtain ⟨b0, bf⟩ := HBZ.out
              by_cases c : (Lx m).length < (Lx ii).length
              · have c1 : ((Lx m).length : Int) < ((Lx ii).length : Int) := by omega
                rw [if_pos c] at HLS
                clear c
                go_wp2
                rw [HWI.out]
                go_roundw
                case measure => simp [intOf]; omega
                case rel => exact ⟨ii + 1, by omega, by go_num, Lib.hid (HMZ.out.off (.set bl 0 _) (fun g e => by simp [e])), Lib.hid (by rw [HLS.out]; exact HBZ.out.set _)⟩
              · have c1 : ¬ ((Lx m).length : Int) < ((Lx ii).length : Int) := by omega
                rw [if_neg c] at HLS
                clear c
                go_wp2
                rw [HWI.out]
                go_roundw
                case measure => simp [intOf]; omega
                case rel => exact ⟨ii + 1, by omega, by go_num, HMZ, Lib.hid (by rw [HLS.out]; exact HBZ.out)⟩
          · obtain rfl : ii = q.lists := by omega
            rw [HLG.out] at HBR
            have HLL := Lib.hid (show lg < q.lists from by rw [← HLG.out]; exact longL_lt Lx HQL.out.1)
            have j1 : ¬ (q.lists : Int) < (q.lists : Int) := by omega
            clear hi hlt
            go_upto_region 15 with fail
            have HL0 := Lib.hid (show LstAt wr ob (lg * 2) (vs4 lg) (f ++ [y]) from by rw [← HY.out]; exact HMR.out.at_.lst lg HLL.out)
            have HNP : Hid (¬ LFoot ob (vs4 lg) p ∧ ¬ LFoot ob (vs4 lg) bl) := Lib.hid ⟨fun e => e.elim HMR.out.at_.pob (HMR.out.at_.vpp lg HLL.out), fun e => HMR.out.nin (r := bl) (by simp) (e.elim (fun e => .inr (.inl e)) (fun e => .inr (.inr (.inr ⟨lg, HLL.out, e⟩))))⟩
            have CR := Lib.hid HMR.out.at_.c0
            have HLT := Lib.hid (fun g (hg : LFoot ob (vs4 lg) g) => show g < wr.heap.size from hg.elim (fun e => by rw [e]; exact HMR.out.at_.lt.2) (fun e => HL0.out.row.lt e))
            refine wp_region_l (n := 12) (LstMoved wr ob (lg * 2) (vs4 lg) f) 6 [Fv.of 0 (Fg.eq (.pointer (some ⟨p, 0, none⟩))), Fv.of 1 (Fg.eq (.pointer (some ⟨p, 0, none⟩))), Fv.of 2 (Fg.eq (.pointer (some ⟨p, 0, none⟩))), Fv.of 3 (Fg.eq (.slice (some ⟨ob, 0, none⟩) q.lists q.lists)), Fv.of 4 (Fg.eq (.int .i64 (lg : Int))), Fv.of 5 (Fg.eq (.pointer (some ⟨ob, lg * 2, none⟩))), Fv.of 6 (Fg.eq (.tuple #[y.val, .bool true])), Fv.of 7 (Fg.eq (.tuple #[y.val, .bool true])), Fv.of 8 (Fg.eq y.val), Fv.of 9 (Fg.eq (.bool true)), Fv.of 10 (Fg.resA wr.heap.size), Fv.stored 10 wr.heap.size y] [85, 86, 87, 88, 89, 90, 91, 84, 92, 93, 10] (Gr.refl wr).drew (by decide) (by kernel_rfl) (by kernel_rfl) (by kernel_rfl) (by kernel_rfl) ?_ ?_
            · intro L i o ac w1 hi ho hA
              have hcell : ∀ {pa : Addr} {u : Value}, wr.cell? pa = some u → ¬ LFoot ob (vs4 lg) pa.block → w1.cell? pa = some u := fun {pa u} hc hp => HeadAtL.any (R := fun u' => u'.cell? pa = some u) hA (fun b u' h => h.cell hc hp)
              match i, hi with
              | 0, _ =>
                obtain rfl := Option.some.inj ho
                exact lstep_val hA (by decide) (q_move rfl (show ac.eval (.tmp 0) = .pointer (some ⟨p, 0, none⟩) from hA.other 0 (by decide))) (fun _ hf => hf)
              | 1, _ =>
                obtain rfl := Option.some.inj ho
                exact lstep_val hA (by decide) (q_nil rfl (hA.fact 0 (hA.dep 0 (by kernel_rfl) (by decide)))) (fun _ hf => hf)
              | 2, _ =>
                obtain rfl := Option.some.inj ho
                exact lstep_val hA (by decide) (hsp_fa_fair_Hashed_0 rfl (hA.fact 1 (hA.dep 1 (by kernel_rfl) (by decide)))) (fun _ hf => hf)
              | 3, _ =>
                obtain rfl := Option.some.inj ho
                exact lstep_val hA (by decide) (hsp_loadS___queue_List rfl (hA.fact 2 (hA.dep 2 (by kernel_rfl) (by decide))) (hcell CR.out HNP.out.1)) (fun _ hf => hf)
              | 4, _ =>
                obtain rfl := Option.some.inj ho
                exact lstep_val hA (by decide) (q_loadI rfl (show ac.eval (.tmp 8) = .pointer (some ⟨bl, 0, none⟩) from hA.other 8 (by decide)) (hcell HBR.out.c HNP.out.2)) (fun _ hf => hf)
              | 5, _ =>
                obtain rfl := Option.some.inj ho
                exact lstep_val hA (by decide) (hs_idx rfl (hA.fact 3 (hA.dep 3 (by kernel_rfl) (by decide))) (hA.fact 4 (hA.dep 4 (by kernel_rfl) (by decide))) HLL.out) (fun _ hf => hf)
              | 6, _ =>
                obtain rfl := Option.some.inj ho
                refine lstep_call hA rfl (hs_last rfl rfl (hA.fact 5 (hA.dep 5 (by kernel_rfl) (by decide)))) (fun hF => (llast_snoc ob (lg * 2) (vs4 lg) y f w1 (HL0.out.gr hF) HSF.out).mono (fun e w' ⟨h1, v', h2, h3, h4⟩ => ⟨_, h1, ⟨v', h2, (LSav.of_gr hF HMR.out.at_.lt.2).then h3, h4⟩, fun _ hf => hf, fun j hj v hv => ?_⟩))
                match j, hv with
                | 0, hv => exact hv
                | 1, hv => exact hv
                | 2, hv => exact hv
                | 3, hv => exact hv
                | 4, hv => exact hv
                | 5, hv => exact hv
                | 6, hv => exact hv
                | 7, hv => exact hv
                | 8, hv => exact hv
                | 9, hv => exact hv
                | 10, hv =>
                  obtain ⟨g, z, k1, k2, k3⟩ := hv
                  exact ⟨g, z, k1, k2, k3.sav h3.sav (fun e => by have := HLT.out g e; omega)⟩
                | 11, hv =>
                  obtain ⟨g, k1, k2, k3⟩ := hv
                  exact ⟨g, k1, k2, k3.sav h3.sav (fun e => by have := HLT.out g e; omega)⟩
                | j + 12, _ => trivial
              | 7, _ =>
                obtain rfl := Option.some.inj ho
                exact lstep_val hA (by decide) (q_move rfl (hA.fact 6 (hA.dep 6 (by kernel_rfl) (by decide)))) (fun _ hf => hf)
              | 8, _ =>
                obtain rfl := Option.some.inj ho
                exact lstep_val hA (by decide) (hs_ext0 rfl (hA.fact 7 (hA.dep 7 (by kernel_rfl) (by decide)))) (fun _ hf => hf)
              | 9, _ =>
                obtain rfl := Option.some.inj ho
                exact lstep_val hA (by decide) (hs_ext1 rfl (hA.fact 7 (hA.dep 7 (by kernel_rfl) (by decide)))) (fun _ hf => hf)
              | 10, _ =>
                obtain rfl := Option.some.inj ho
                exact lstep_new hA (by decide) (hs_alloc rfl) ((Gr.refl _).alloc _) (fun b hb => hb.gr ((Gr.refl _).alloc _)) (fun _ hf => ⟨_, .zero, hf, HeadAtL.any (R := fun u' => wr.heap.size ≤ u'.heap.size) hA (fun b u' h => h.size), helRes_new w1 .zero rfl⟩)
              | 11, _ =>
                obtain rfl := Option.some.inj ho
                obtain ⟨g, z, hg, hn, hr⟩ := (hA.fact 10 (hA.dep 10 (by kernel_rfl) (by decide)))
                have h6 := hel_set6 hr y
                refine lstep_set hA (by decide) rfl (hs_store rfl hg (hA.fact 8 (hA.dep 8 (by kernel_rfl) (by decide))) hr) (fun b hb => hb.off h6.2 hn HLT.out HMR.out.at_.lt.2) (fun f' hL => ⟨g, (hL 10 (hA.dep 10 (by kernel_rfl) (by decide))).trans hg, hn, h6.1⟩) (fun j hj hv => ?_)
                match j, hj, hv with
                | 0, _, hv => exact hv
                | 1, _, hv => exact hv
                | 2, _, hv => exact hv
                | 3, _, hv => exact hv
                | 4, _, hv => exact hv
                | 5, _, hv => exact hv
                | 6, _, hv => exact hv
                | 7, _, hv => exact hv
                | 8, _, hv => exact hv
                | 9, _, hv => exact hv
                | 10, _, hv => exact ⟨g, y, hg, hn, h6.1⟩
                | 11, hj, _ => exact absurd hj hA.self
                | j + 12, _, _ => trivial
              | j + 12, hk => exact absurd (show j + 12 < 12 from hk) (by omega)
            · intro vz w9 hI hv
              obtain ⟨v9, hl9, hs9, ho9⟩ := hI
              obtain ⟨yb, _, e10, hyb, _⟩ := hv 10 (by omega)
              obtain ⟨yb', e11, _, hry⟩ := hv 11 (by omega)
              have e10' : vz 10 = .pointer (some ⟨yb, 0, none⟩) := e10
              have e11' : vz 10 = .pointer (some ⟨yb', 0, none⟩) := e11
              obtain rfl : yb = yb' := by rw [e10'] at e11'; cases e11'; rfl
              clear e10 e11 e11'
              have e10 := e10'
              clear e10'
              have e8 : vz 8 = y.val := hv 8 (by omega)
              have e9 : vz 9 = .bool true := hv 9 (by omega)
              have HM9 := Lib.hid ((HMR.out.list HLL.out hl9 hs9 (fun g e => .inl (by rw [← ho9]; exact e))).res_in (n := yb) ⟨by have := HMR.out.sav.size; omega, cell_lt hry.at_.c0⟩ (fun e => by
                have hf : HFoot p ob q tv4 vs4 yb := by
                  rcases e with e | e | e | ⟨j, hj, e⟩
                  · exact .inl e
                  · exact .inr (.inl e)
                  · exact .inr (.inr (.inl e))
                  · by_cases hj2 : j = lg
                    · subst hj2
                      rw [fu_at] at e
                      exact .inr (.inr (.inr ⟨j, hj, by rw [← ho9]; exact e⟩))
                    · rw [fu_ne _ _ hj2] at e
                      exact .inr (.inr (.inr ⟨j, hj, e⟩))
                have := HMR.out.at_.flt hf
                omega))
              have HB9 := Lib.hid (HBR.out.sav hs9.sav HNP.out.2)
              have HY9 := Lib.hid hry
              have HNE : Hid (bl ≠ yb) := Lib.hid (fun e => by have := (HMR.out.res bl (by simp)).2; omega)
              clear hv hl9 hs9 ho9 hyb hry HL0 HNP CR HLT HMR HBR
              simp only [putN, List.drop_succ_cons, List.drop_zero, List.getElem?_cons_succ, List.getElem?_cons_zero]
              generalize vz 0 = z85 at *
              generalize vz 1 = z86 at *
              generalize vz 2 = z87 at *
              generalize vz 3 = z88 at *
              generalize vz 4 = z89 at *
              generalize vz 5 = z90 at *
              generalize vz 6 = z91 at *
              generalize vz 7 = z84 at *
              generalize vz 8 = z92 at *
              generalize vz 9 = z93 at *
              generalize vz 10 = z10 at *
              generalize vz 11 = z0 at *
              subst e10 e8 e9
              have HM10 := HM9
              have HB10 := HB9
              have HY10 : Hid (HelRes w9 yb y ∧ True) := Lib.hid ⟨HY9.out, trivial⟩
              obtain ⟨w10, hw10⟩ : ∃ u, u = w9 := ⟨_, rfl⟩
              rw [← hw10] at HM10 HB10 HY10 ⊢
              clear hw10 HM9 HB9 HY9
              have c4 := HM10.out.at_.c4
              have f4 := HM10.out.at_.f4
              have HPN : Hid (bl ≠ p ∧ yb ≠ p) := Lib.hid ⟨fun e => HM10.out.nin (r := bl) (by simp) (.inl e), fun e => HM10.out.nin (r := yb) (by simp) (.inl e)⟩
              go_upto_region 17 with fail
              rw [HWD.out]
              have HM11 := Lib.hid (HM10.out.set_many many)
              have HB11 := Lib.hid (HB10.out.sav (.set p 4 (.int .i64 many)) (fun e => HPN.out.1 e))
              have HY11 := Lib.hid (HY10.out.1.sav (.set p 4 (.int .i64 many)) (fun e => HPN.out.2 e))
              generalize w10.setCell ⟨p, 4, none⟩ (.int .i64 many) = w11 at *
              clear c4 f4 HM10 HB10 HY10
              have CR := Lib.hid HM11.out.at_.c0
              have HL11 := Lib.hid (show LstAt w11 ob (lg * 2) v9 f from by have h1 := HM11.out.at_.lst lg HLL.out; rw [fu_at, fu_at] at h1; exact h1)
              refine wp_region_gg (n := 7) [Fg.eq (.pointer (some ⟨p, 0, none⟩)), Fg.eq (.pointer (some ⟨p, 0, none⟩)), Fg.eq (.pointer (some ⟨p, 0, none⟩)), Fg.eq (.slice (some ⟨ob, 0, none⟩) q.lists q.lists), Fg.eq (.int .i64 (lg : Int)), Fg.eq (.pointer (some ⟨ob, lg * 2, none⟩)), Fg.eq (.int .i64 (f.length : Int))] [101, 102, 103, 104, 105, 106, 107] (by kernel_rfl) (by kernel_rfl) (by kernel_rfl) ?_ ?_
              · intro L i o' ac w1 hi ho hA
                have hgr : Gr w11 w1 := (Gr.refl w11).drew.trans hA.gr
                match i, hi with
                | 0, _ =>
                  obtain rfl := Option.some.inj ho
                  exact gg_plain rfl (gstep_val (q_move rfl (show ac.eval (.tmp 0) = .pointer (some ⟨p, 0, none⟩) from hA.other 0 (by decide))) rfl)
                | 1, _ =>
                  obtain rfl := Option.some.inj ho
                  exact gg_plain rfl (gstep_val (q_nil rfl (hA.fact 0 (hA.dep 0 (by kernel_rfl) (by decide)))) rfl)
                | 2, _ =>
                  obtain rfl := Option.some.inj ho
                  exact gg_plain rfl (gstep_val (hsp_fa_fair_Hashed_0 rfl (hA.fact 1 (hA.dep 1 (by kernel_rfl) (by decide)))) rfl)
                | 3, _ =>
                  obtain rfl := Option.some.inj ho
                  exact gg_plain rfl (gstep_val (hsp_loadS___queue_List rfl (hA.fact 2 (hA.dep 2 (by kernel_rfl) (by decide))) (hgr.cell CR.out)) rfl)
                | 4, _ =>
                  obtain rfl := Option.some.inj ho
                  exact gg_plain rfl (gstep_val (q_loadI rfl (show ac.eval (.tmp 8) = .pointer (some ⟨bl, 0, none⟩) from hA.other 8 (by decide)) (hgr.cell HB11.out.c)) rfl)
                | 5, _ =>
                  obtain rfl := Option.some.inj ho
                  exact gg_plain rfl (gstep_val (hs_idx rfl (hA.fact 3 (hA.dep 3 (by kernel_rfl) (by decide))) (show ac.eval (.tmp 105) = .int .i64 (lg : Int) from (hA.fact 4 (hA.dep 4 (by kernel_rfl) (by decide)))) HLL.out) rfl)
                | 6, _ =>
                  obtain rfl := Option.some.inj ho
                  exact gg_plain rfl (gstep_call (hsp_call___millrace_queue_List__Len rfl rfl (hA.fact 5 (hA.dep 5 (by kernel_rfl) (by decide)))) ((llen_g ob (lg * 2) v9 f w1 (HL11.out.gr hgr)).mono (fun e w' ⟨h1, h2⟩ => ⟨_, h1, h2, rfl⟩)))
                | k + 7, hk => exact absurd (show k + 7 < 7 from hk) (by omega)
              · intro vz w5 hg5 hv
                have HGV := Lib.hid ((Gr.refl w11).drew.trans hg5)
                have v107 : vz 6 = .int .i64 (f.length : Int) := hv 6 (by omega)
                clear hv hg5
                simp only [putN, List.drop_succ_cons, List.drop_zero, List.getElem?_cons_succ, List.getElem?_cons_zero]
                generalize vz 6 = z107 at *
                subst v107
                generalize vz 0 = z101 at *
                generalize vz 1 = z102 at *
                generalize vz 2 = z103 at *
                generalize vz 3 = z104 at *
                generalize vz 4 = z105 at *
                generalize vz 5 = z106 at *
                have HM12 := Lib.hid (HM11.out.gr HGV.out)
                have HB12 := Lib.hid (HB11.out.gr HGV.out)
                have HY12 := Lib.hid (HY11.out.gr HGV.out)
                clear HM11 HB11 HY11 HL11 CR HGV
                by_cases hf0 : f = []
                · have HTZ : Hid (T2 = Tx.eraseIdx it) := Lib.hid (by rw [HT2.out, if_pos hf0])
                  have HTF := Lib.hid (HTT.out hf0)
                  subst hf0
                  have hTx : 0 < Tx.length := by
                    have h1 := (List.getElem?_eq_some_iff.1 HTF.out.1).1
                    omega
                  obtain ⟨tg, toff, cap, rfl, _⟩ := Row.cells HM12.out.at_.turn hTx
                  clear hTx
                  have c3 := HM12.out.at_.c3
                  have f3 := HM12.out.at_.f3
                  have HBG : Hid (bl ≠ tg) := Lib.hid (fun e => HM12.out.nin (r := bl) (by simp) (.inr (.inr (.inl (by rw [e]; rfl)))))
                  have HPG : Hid (p ≠ tg) := Lib.hid (fun e => (HM12.out.at_.tap tg rfl).1 e.symm)
                  have HYG : Hid (yb ≠ tg) := Lib.hid (fun e => HM12.out.nin (r := yb) (by simp) (.inr (.inr (.inl (by rw [e]; rfl)))))
                  have HDF := Lib.hid (idelete_any tg toff cap bl (lg : Int) Tx it HTF.out.1 HTF.out.2 HTN.out w5 HM12.out.at_.turn HB12.out.c HBG.out)
                  go_upto_region 19 with (go_at_call 122; (with_reducible refine HDF.out.mono ?_); rintro e w13 ⟨rfl, hr13, hs13⟩; have d3 := hs13.cell HM12.out.at_.c3 (fun e => HPG.out e); have g3 := hs13.frozen (p := ⟨p, 3, none⟩) HM12.out.at_.lt.1 HM12.out.at_.f3 (fun e => HPG.out e); have HR13 := Lib.hid hr13; have HS13 := Lib.hid hs13; clear hr13 hs13 c3 f3)
                  have HM14 := Lib.hid (HM12.out.set_turn (HS13.out.mono (fun g e => by rw [e]; rfl)) HR13.out (fun g e => .inl e))
                  have HY14 := Lib.hid ((HY12.out.sav HS13.out (fun e => HYG.out e)).sav (.set p 3 (.slice (some ⟨tg, toff, none⟩) (Tx.length - 1) cap)) (fun e => HPN.out.2 e))
                  generalize w13.setCell ⟨p, 3, none⟩ (.slice (some ⟨tg, toff, none⟩) (Tx.length - 1) cap) = w14 at *
                  clear d3 g3
                  obtain ⟨⟨q0, q1, q2, q3, q4, q5⟩, _⟩ := HY14.out
                  obtain ⟨w15, hw15⟩ : ∃ u, u = w14.alloc (.cells #[.int .i64 y.t, .int .i64 y.len, .int .i64 y.flow, .int .i64 y.band, .int .i64 y.mark, .int .i64 y.n] 139) := ⟨_, rfl⟩
                  have HR15 := Lib.hid (show RowH 139 w15 (.slice (some ⟨w14.heap.size, 0, none⟩) 1 1) [y] from by rw [hw15]; exact RowH.one _ w14 y rfl)
                  have HM15 := Lib.hid (HM14.out.gr (show Gr w14 w15 from by rw [hw15]; exact (Gr.refl _).alloc _))
                  go_wp2
                  rw [← hw15]
                  clear hw15
                  refine bodyPost_ret (v := .slice (some ⟨w14.heap.size, 0, none⟩) 1 1) (by simp [results, Tryd.results118, go_sem]) rfl ?_
                  rw [HTZ.out]
                  exact ⟨_, rfl, HR15.out, _, _, HM15.out.did⟩
                · have i9 : ¬ (f.length : Int) = 0 := by have := List.length_pos_iff.2 hf0; omega
                  have HTZ : Hid (T2 = Tx) := Lib.hid (by rw [HT2.out, if_neg hf0])
                  go_upto_region 19 with fail
                  obtain ⟨⟨q0, q1, q2, q3, q4, q5⟩, _⟩ := HY12.out
                  obtain ⟨w15, hw15⟩ : ∃ u, u = w5.alloc (.cells #[.int .i64 y.t, .int .i64 y.len, .int .i64 y.flow, .int .i64 y.band, .int .i64 y.mark, .int .i64 y.n] 139) := ⟨_, rfl⟩
                  have HR15 := Lib.hid (show RowH 139 w15 (.slice (some ⟨w5.heap.size, 0, none⟩) 1 1) [y] from by rw [hw15]; exact RowH.one _ w5 y rfl)
                  have HM15 := Lib.hid (HM12.out.gr (show Gr w5 w15 from by rw [hw15]; exact (Gr.refl _).alloc _))
                  go_wp2
                  rw [← hw15]
                  clear hw15
                  refine bodyPost_ret (v := .slice (some ⟨w5.heap.size, 0, none⟩) 1 1) (by simp [results, Tryd.results118, go_sem]) rfl ?_
                  rw [HTZ.out]
                  exact ⟨_, rfl, HR15.out, _, _, HM15.out.did⟩
end Go.Proofs.YtbpofdfehcbppaaDoor

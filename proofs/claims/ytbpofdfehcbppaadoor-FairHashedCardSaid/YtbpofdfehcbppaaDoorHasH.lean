/-
  The reference's Hashed: Where, of, out, All. (Printed by genhas.py.)
-/
import Derived.Test.YtbpofdfehcbppaaDoorHasA
import Derived.Test.YtbpofdfehcbppaaDoorFifoR
import Derived.Test.YtbpofdfehcbppaaDoorBoxd
import Derived.Test.YtbpofdfehcbppaaDoorRegG
import Derived.Test.YtbpofdfehcbppaaDoorRedA
import Derived.BigQuiet
import Derived.BigRegion
import Derived.Deep.RegionWith
import Derived.Deep.DeepCutAuto
import Derived.Deep.CutBlock
import Derived.Deep.LoopGhost
namespace Go.Proofs.YtbpofdfehcbppaaDoor
open Go.RowKit Go.Extern.Stop Go.Stop Go.Extern

section
variable {ev : Operand → Value} {o : Oper} {w : World} {x y z : Operand} {u : Value}
theorem rhw_mul {m n r : Int} (ho : o.op = .binOp .mul 3 x y 3) (h : ev x = .int .i64 m) (k : ev y = .int .i64 n) (hb : IntKind.i64.wrap (m * n) = r) : (execOp ev o).run Tryd.prog w = .ok (.value (.int .i64 r)) w := by
  subst hb
  simp [execOp, ho, h, k, go_sem]
theorem rhw_fa_millraceref_Hashed_1 {p o' : Nat} (ho : o.op = .fieldAddr 91 x 1) (h : ev x = .pointer (some ⟨p, o', none⟩)) : (execOp ev o).run Tryd.prog w = .ok (.value (.pointer (some ⟨p, o' + 1, none⟩))) w := by
  simp [execOp, ho, h, go_sem]
theorem rhw_add {m n r : Int} (ho : o.op = .binOp .add 3 x y 3) (h : ev x = .int .i64 m) (k : ev y = .int .i64 n) (hb : IntKind.i64.wrap (m + n) = r) : (execOp ev o).run Tryd.prog w = .ok (.value (.int .i64 r)) w := by
  subst hb
  simp [execOp, ho, h, k, go_sem]
theorem rhw_fa_millraceref_Hashed_0 {p o' : Nat} (ho : o.op = .fieldAddr 91 x 0) (h : ev x = .pointer (some ⟨p, o', none⟩)) : (execOp ev o).run Tryd.prog w = .ok (.value (.pointer (some ⟨p, o', none⟩))) w := by
  simp [execOp, ho, h, go_sem]
theorem rhw_rem {m n r : Int} (ho : o.op = .binOp .rem 3 x y 3) (h : ev x = .int .i64 m) (k : ev y = .int .i64 n) (hn : n ≠ 0) (hb : m.tmod n = r) : (execOp ev o).run Tryd.prog w = .ok (.value (.int .i64 r)) w := by
  subst hb
  simp [execOp, ho, h, k, hn, go_sem]
end

/-- A Hashed of the reference's at p. -/
structure RHasC (w : World) (p : Nat) (q : HasP) (lv tv : Value) (l : List Hel) (turn : List Int) : Prop where
  c0 : w.cell? ⟨p, 0, none⟩ = some (.int .i64 q.lists)
  c1 : w.cell? ⟨p, 1, none⟩ = some (.int .i64 q.salt)
  c2 : w.cell? ⟨p, 2, none⟩ = some (.int .i64 q.room)
  c3 : w.cell? ⟨p, 3, none⟩ = some lv
  f3 : w.frozen? ⟨p, 3, none⟩ = false
  c4 : w.cell? ⟨p, 4, none⟩ = some tv
  f4 : w.frozen? ⟨p, 4, none⟩ = false
  row : RowH 108 w lv l
  turn : IntRow w tv turn
  ap : ∀ g, lv.ownBlock = some g → g ≠ p ∧ tv.ownBlock ≠ some g
  tp : tv.ownBlock ≠ some p
/-- What it may write. -/
def RHFoot (p : Nat) (lv tv : Value) (g : Nat) : Prop := g = p ∨ lv.ownBlock = some g ∨ tv.ownBlock = some g
section
variable {w w' : World} {p : Nat} {q : HasP} {lv tv lv' tv' : Value} {l l' : List Hel} {turn turn' : List Int}
theorem RHasC.lt (h : RHasC w p q lv tv l turn) : p < w.heap.size := cell_lt h.c0
theorem RHasC.flt (h : RHasC w p q lv tv l turn) {g : Nat} (hg : RHFoot p lv tv g) : g < w.heap.size := by
  rcases hg with e | e | e
  · rw [e]; exact h.lt
  · exact h.row.lt e
  · exact Row.lt h.turn e
theorem RHasC.sav {B : Nat → Prop} (h : RHasC w p q lv tv l turn) (s : Sav B w w') (hB : ∀ g, B g → ¬ RHFoot p lv tv g) : RHasC w' p q lv tv l turn :=
  have hp : ¬ B p := fun e => hB _ e (.inl rfl)
  ⟨s.cell h.c0 hp, s.cell h.c1 hp, s.cell h.c2 hp, s.cell h.c3 hp, s.frozen (p := ⟨p, 3, none⟩) h.lt h.f3 hp, s.cell h.c4 hp, s.frozen (p := ⟨p, 4, none⟩) h.lt h.f4 hp, h.row.sav s (fun _ hg e => hB _ e (.inr (.inl hg))), Row.sav h.turn s (fun _ hg e => hB _ e (.inr (.inr hg))), h.ap, h.tp⟩
theorem RHasC.gr (h : RHasC w p q lv tv l turn) (g : Gr w w') : RHasC w' p q lv tv l turn := h.sav (B := fun _ => False) (.of_gr g) (fun _ e => e.elim)
/-- The row is another, at any world that kept all else but the old one. -/
theorem RHasC.set_l (h : RHasC w p q lv tv l turn) (s : Sav (fun g => lv.ownBlock = some g) w w') (hr : RowH 108 w' lv' l') (ho : ∀ g, lv'.ownBlock = some g → lv.ownBlock = some g ∨ w.heap.size ≤ g) : RHasC (w'.setCell ⟨p, 3, none⟩ lv') p q lv' tv l' turn := by
  have hp : ¬ lv.ownBlock = some p := fun e => (h.ap p e).1 rfl
  have s2 : Sav (fun g => g = p) w' (w'.setCell ⟨p, 3, none⟩ lv') := .set p 3 _
  have hlt := h.lt
  have hnew : ∀ g, lv'.ownBlock = some g → g ≠ p ∧ tv.ownBlock ≠ some g := fun g hg => (ho g hg).elim (h.ap g) (fun e => ⟨by omega, fun e2 => by have := Row.lt h.turn e2; omega⟩)
  exact ⟨cell_so (s.cell h.c0 hp) (by simp), cell_so (s.cell h.c1 hp) (by simp), cell_so (s.cell h.c2 hp) (by simp), cell_ss (s.cell h.c3 hp), by simpa using s.frozen (p := ⟨p, 3, none⟩) hlt h.f3 hp, cell_so (s.cell h.c4 hp) (by simp), by simpa using s.frozen (p := ⟨p, 4, none⟩) hlt h.f4 hp, hr.sav s2 (fun g hg e => (hnew g hg).1 e), Row.sav (Row.sav h.turn s (fun g hg e => (h.ap g e).2 hg)) s2 (fun g hg e => h.tp (by rw [← e]; exact hg)), hnew, h.tp⟩
theorem RHasC.set_t (h : RHasC w p q lv tv l turn) (s : Sav (fun g => tv.ownBlock = some g) w w') (hr : IntRow w' tv' turn') (ho : ∀ g, tv'.ownBlock = some g → tv.ownBlock = some g ∨ w.heap.size ≤ g) : RHasC (w'.setCell ⟨p, 4, none⟩ tv') p q lv tv' l turn' := by
  have hp : ¬ tv.ownBlock = some p := h.tp
  have s2 : Sav (fun g => g = p) w' (w'.setCell ⟨p, 4, none⟩ tv') := .set p 4 _
  have hlt := h.lt
  exact ⟨cell_so (s.cell h.c0 hp) (by simp), cell_so (s.cell h.c1 hp) (by simp), cell_so (s.cell h.c2 hp) (by simp), cell_so (s.cell h.c3 hp) (by simp), by simpa using s.frozen (p := ⟨p, 3, none⟩) hlt h.f3 hp, cell_ss (s.cell h.c4 hp), by simpa using s.frozen (p := ⟨p, 4, none⟩) hlt h.f4 hp, (h.row.sav s (fun g hg e => (h.ap g hg).2 e)).sav s2 (fun g hg e => (h.ap g hg).1 e), Row.sav hr s2 (fun g hg e => (ho g hg).elim (fun e2 => hp (by rw [← e]; exact e2)) (fun e2 => by omega)),
    fun g hg => ⟨(h.ap g hg).1, fun e => (ho g e).elim (h.ap g hg).2 (fun e2 => by have := h.row.lt hg; omega)⟩, fun e => (ho p e).elim hp (fun e2 => by omega)⟩
end
set_option maxRecDepth 100000 in
theorem rwhere_any (p : Nat) (q : HasP) (hq : q.Ok) (flow : Int) (hf : 0 ≤ flow ∧ flow ≤ 15) (w : World) (h0 : w.cell? ⟨p, 0, none⟩ = some (.int .i64 q.lists)) (h1 : w.cell? ⟨p, 1, none⟩ = some (.int .i64 q.salt)) :
    Calls Tryd.prog 28 #[.pointer (some ⟨p, 0, none⟩), .int .i64 flow] w fun e w' => e = .returned (.int .i64 (hashOf q flow : Int)) ∧ Gr w w' := by
  have H0 := Lib.hid h0
  have H1 := Lib.hid h1
  have hs := hq.salt
  have hl := hq.lists
  have hp0 : 0 ≤ flow * q.salt := Int.mul_nonneg hf.1 hs.1
  have hp1 : flow * q.salt ≤ 15 * 1000000 := Int.mul_le_mul hf.2 hs.2 hs.1 (by omega)
  have D1 := Lib.hid (show IntKind.i64.wrap (31 * flow) = 31 * flow from by rw [IntKind.wrap_i64]; omega)
  have D2 := Lib.hid (show IntKind.i64.wrap (7 * q.salt) = 7 * q.salt from by rw [IntKind.wrap_i64]; omega)
  have D3 := Lib.hid (show IntKind.i64.wrap (31 * flow + 7 * q.salt) = 31 * flow + 7 * q.salt from by rw [IntKind.wrap_i64]; omega)
  have D4 := Lib.hid (show IntKind.i64.wrap (flow * q.salt) = flow * q.salt from by rw [IntKind.wrap_i64]; omega)
  have D5 := Lib.hid (show IntKind.i64.wrap (31 * flow + 7 * q.salt + flow * q.salt) = 31 * flow + 7 * q.salt + flow * q.salt from by rw [IntKind.wrap_i64]; omega)
  have D6 := Lib.hid (show (31 * flow + 7 * q.salt + flow * q.salt).tmod (q.lists : Int) = (hashOf q flow : Int) from by
    rw [hashOf_cast hq, Int.tmod_eq_emod_of_nonneg (by omega)]
    rfl)
  have HNZ := Lib.hid (show (q.lists : Int) ≠ 0 from by omega)
  clear h0 h1 hs hl hp0 hp1 hf
  go_enter Tryd.func28, Tryd.ntmps28
  go_upto_region 1 with fail
  refine wp_region_gg (n := 20) [Fg.eq (.int .i64 flow), Fg.eq (.int .i64 (31 * flow)), Fg.eq (.pointer (some ⟨p, 0, none⟩)), Fg.eq (.pointer (some ⟨p, 0, none⟩)), Fg.eq (.pointer (some ⟨p, 1, none⟩)), Fg.eq (.int .i64 q.salt), Fg.eq (.int .i64 (7 * q.salt)), Fg.eq (.int .i64 (31 * flow + 7 * q.salt)), Fg.eq (.int .i64 flow), Fg.eq (.pointer (some ⟨p, 0, none⟩)), Fg.eq (.pointer (some ⟨p, 0, none⟩)), Fg.eq (.pointer (some ⟨p, 1, none⟩)), Fg.eq (.int .i64 q.salt), Fg.eq (.int .i64 (flow * q.salt)), Fg.eq (.int .i64 (31 * flow + 7 * q.salt + flow * q.salt)), Fg.eq (.pointer (some ⟨p, 0, none⟩)), Fg.eq (.pointer (some ⟨p, 0, none⟩)), Fg.eq (.pointer (some ⟨p, 0, none⟩)), Fg.eq (.int .i64 q.lists), Fg.eq (.int .i64 ((hashOf q flow : Int)))] [5, 6, 7, 8, 9, 10, 11, 12, 13, 14, 15, 16, 17, 18, 19, 20, 21, 22, 23, 24] (by kernel_rfl) (by kernel_rfl) (by kernel_rfl) ?_ ?_
  · intro L i o' ac w1 hi ho hA
    have hgr : Gr w w1 := (Gr.refl w).drew.trans hA.gr
    match i, hi with
    | 0, _ =>
      obtain rfl := Option.some.inj ho
      exact gg_plain rfl (gstep_val (q_move rfl (show ac.eval (.tmp 1) = .int .i64 flow from hA.other 1 (by decide))) rfl)
    | 1, _ =>
      obtain rfl := Option.some.inj ho
      exact gg_plain rfl (gstep_val (rhw_mul rfl rfl (hA.fact 0 (hA.dep 0 (by kernel_rfl) (by decide))) (D1.out)) rfl)
    | 2, _ =>
      obtain rfl := Option.some.inj ho
      exact gg_plain rfl (gstep_val (q_move rfl (show ac.eval (.tmp 0) = .pointer (some ⟨p, 0, none⟩) from hA.other 0 (by decide))) rfl)
    | 3, _ =>
      obtain rfl := Option.some.inj ho
      exact gg_plain rfl (gstep_val (q_nil rfl (hA.fact 2 (hA.dep 2 (by kernel_rfl) (by decide)))) rfl)
    | 4, _ =>
      obtain rfl := Option.some.inj ho
      exact gg_plain rfl (gstep_val (rhw_fa_millraceref_Hashed_1 rfl (hA.fact 3 (hA.dep 3 (by kernel_rfl) (by decide)))) rfl)
    | 5, _ =>
      obtain rfl := Option.some.inj ho
      exact gg_plain rfl (gstep_val (q_loadI rfl (hA.fact 4 (hA.dep 4 (by kernel_rfl) (by decide))) (hgr.cell H1.out)) rfl)
    | 6, _ =>
      obtain rfl := Option.some.inj ho
      exact gg_plain rfl (gstep_val (rhw_mul rfl rfl (hA.fact 5 (hA.dep 5 (by kernel_rfl) (by decide))) (D2.out)) rfl)
    | 7, _ =>
      obtain rfl := Option.some.inj ho
      exact gg_plain rfl (gstep_val (rhw_add rfl (hA.fact 1 (hA.dep 1 (by kernel_rfl) (by decide))) (hA.fact 6 (hA.dep 6 (by kernel_rfl) (by decide))) (D3.out)) rfl)
    | 8, _ =>
      obtain rfl := Option.some.inj ho
      exact gg_plain rfl (gstep_val (q_move rfl (show ac.eval (.tmp 1) = .int .i64 flow from hA.other 1 (by decide))) rfl)
    | 9, _ =>
      obtain rfl := Option.some.inj ho
      exact gg_plain rfl (gstep_val (q_move rfl (show ac.eval (.tmp 0) = .pointer (some ⟨p, 0, none⟩) from hA.other 0 (by decide))) rfl)
    | 10, _ =>
      obtain rfl := Option.some.inj ho
      exact gg_plain rfl (gstep_val (q_nil rfl (hA.fact 9 (hA.dep 9 (by kernel_rfl) (by decide)))) rfl)
    | 11, _ =>
      obtain rfl := Option.some.inj ho
      exact gg_plain rfl (gstep_val (rhw_fa_millraceref_Hashed_1 rfl (hA.fact 10 (hA.dep 10 (by kernel_rfl) (by decide)))) rfl)
    | 12, _ =>
      obtain rfl := Option.some.inj ho
      exact gg_plain rfl (gstep_val (q_loadI rfl (hA.fact 11 (hA.dep 11 (by kernel_rfl) (by decide))) (hgr.cell H1.out)) rfl)
    | 13, _ =>
      obtain rfl := Option.some.inj ho
      exact gg_plain rfl (gstep_val (rhw_mul rfl (hA.fact 8 (hA.dep 8 (by kernel_rfl) (by decide))) (hA.fact 12 (hA.dep 12 (by kernel_rfl) (by decide))) (D4.out)) rfl)
    | 14, _ =>
      obtain rfl := Option.some.inj ho
      exact gg_plain rfl (gstep_val (rhw_add rfl (hA.fact 7 (hA.dep 7 (by kernel_rfl) (by decide))) (hA.fact 13 (hA.dep 13 (by kernel_rfl) (by decide))) (D5.out)) rfl)
    | 15, _ =>
      obtain rfl := Option.some.inj ho
      exact gg_plain rfl (gstep_val (q_move rfl (show ac.eval (.tmp 0) = .pointer (some ⟨p, 0, none⟩) from hA.other 0 (by decide))) rfl)
    | 16, _ =>
      obtain rfl := Option.some.inj ho
      exact gg_plain rfl (gstep_val (q_nil rfl (hA.fact 15 (hA.dep 15 (by kernel_rfl) (by decide)))) rfl)
    | 17, _ =>
      obtain rfl := Option.some.inj ho
      exact gg_plain rfl (gstep_val (rhw_fa_millraceref_Hashed_0 rfl (hA.fact 16 (hA.dep 16 (by kernel_rfl) (by decide)))) rfl)
    | 18, _ =>
      obtain rfl := Option.some.inj ho
      exact gg_plain rfl (gstep_val (q_loadI rfl (hA.fact 17 (hA.dep 17 (by kernel_rfl) (by decide))) (hgr.cell H0.out)) rfl)
    | 19, _ =>
      obtain rfl := Option.some.inj ho
      exact gg_plain rfl (gstep_val (rhw_rem rfl (hA.fact 14 (hA.dep 14 (by kernel_rfl) (by decide))) (hA.fact 18 (hA.dep 18 (by kernel_rfl) (by decide))) (HNZ.out) (D6.out)) rfl)
    | k + 20, hk => exact absurd (show k + 20 < 20 from hk) (by omega)
  · intro vs w5 hg5 hv
    have HGX := Lib.hid ((Gr.refl w).drew.trans hg5)
    have v24 : vs 19 = .int .i64 ((hashOf q flow : Int)) := hv 19 (by omega)
    clear hv hg5
    simp only [putN, List.drop_succ_cons, List.drop_zero, List.getElem?_cons_succ, List.getElem?_cons_zero]
    generalize vs 19 = z24 at *
    subst v24
    generalize vs 0 = z5 at *
    generalize vs 1 = z6 at *
    generalize vs 2 = z7 at *
    generalize vs 3 = z8 at *
    generalize vs 4 = z9 at *
    generalize vs 5 = z10 at *
    generalize vs 6 = z11 at *
    generalize vs 7 = z12 at *
    generalize vs 8 = z13 at *
    generalize vs 9 = z14 at *
    generalize vs 10 = z15 at *
    generalize vs 11 = z16 at *
    generalize vs 12 = z17 at *
    generalize vs 13 = z18 at *
    generalize vs 14 = z19 at *
    generalize vs 15 = z20 at *
    generalize vs 16 = z21 at *
    generalize vs 17 = z22 at *
    generalize vs 18 = z23 at *
    go_wp2
    go_ret
    exact ⟨rfl, HGX.out⟩
set_option maxRecDepth 100000 in
theorem rhall_any (p : Nat) (q : HasP) (lv tv : Value) (l : List Hel) (turn : List Int) (w : World) (h : RHasC w p q lv tv l turn) :
    Calls Tryd.prog 124 #[.pointer (some ⟨p, 0, none⟩)] w fun e w' => e = .returned lv ∧ w = w' := by
  obtain ⟨a, c, rfl⟩ := h.row.shape
  have c3 := h.c3
  clear h
  go_enter Tryd.func124, Tryd.ntmps124
  go_wp2
  go_ret
  exact ⟨rfl, rfl⟩
theorem ofK_le (q : HasP) (l : List Hel) (k : Nat) : (ofK q l k).length ≤ l.length := List.length_filter_le _ _
set_option maxRecDepth 100000 in
set_option maxHeartbeats 40000000 in
theorem rof_any (p : Nat) (q : HasP) (hq : q.Ok) (lv tv : Value) (l : List Hel) (turn : List Int) (hn : l.length ≤ 300) (hfl : ∀ x ∈ l, 0 ≤ x.flow ∧ x.flow ≤ 15) (k : Nat) (w : World) (h : RHasC w p q lv tv l turn) :
    Calls Tryd.prog 128 #[.pointer (some ⟨p, 0, none⟩), .int .i64 (k : Int)] w fun e w' => ∃ r, e = .returned r ∧ RowH 108 w' r (ofK q l k) ∧ Gr w w' ∧ ∀ g, r.ownBlock = some g → w.heap.size ≤ g := by
  obtain ⟨i0', hi0, hz0, hz1, hz2⟩ := info_parts packInfo
  have HC := Lib.hid h
  have HQ := Lib.hid hq
  have HFL := Lib.hid hfl
  have HN := Lib.hid hn
  obtain ⟨la, lc, rfl, _, _, hce⟩ := h.row.any
  have c3 := h.c3
  have HCE := Lib.hid hce
  clear h hq hfl hce hn
  go_enter Tryd.func128, Tryd.ntmps128
  go_wp2
  clear c3
  go_loopw [5, 13] (fun s5 s13 wr => ∃ (i : Nat), i ≤ l.length ∧ s13 = .int .i64 (i : Int) ∧ Hid (Gr w wr ∧ RowH 108 wr s5 (ofK q (l.take i) k) ∧ ∀ g, s5.ownBlock = some g → w.heap.size ≤ g)) (fun _ s _ => l.length - (intOf s).toNat)
  case atStart => exact ⟨0, Nat.zero_le _, rfl, Lib.hid ⟨Gr.refl _, RowH.nil _ _, fun g hg => by cases hg⟩⟩
  case round =>
    obtain ⟨i, hi, rfl, HK⟩ := hrel
    by_cases hlt : i < l.length
    · have i0 : (0 : Int) ≤ (i : Int) := by omega
      have i1 : (i : Int) < (l.length : Int) := by omega
      obtain ⟨lb, lo, rfl, hcell⟩ := HCE.out (by omega)
      obtain ⟨x, hx⟩ : ∃ x, x = l.getD i .zero := ⟨_, rfl⟩
      have hxm : x ∈ l := by rw [hx, List.getD_eq_getElem?_getD, List.getElem?_eq_getElem hlt]; exact List.getElem_mem hlt
      have HXF := Lib.hid (HFL.out x hxm)
      have HTK := Lib.hid (show ofK q (l.take (i + 1)) k = ofK q (l.take i) k ++ (if hashOf q x.flow = k then [x] else []) from by
        rw [← ofK_one, ← ofK_app, hx, List.getD_eq_getElem?_getD, List.getElem?_eq_getElem hlt]
        rw [List.take_add_one, List.getElem?_eq_getElem hlt]
        rfl)
      have HLE := Lib.hid (show (ofK q (l.take i) k).length ≤ 300 from by have h1 := ofK_le q (l.take i) k; have h2 := HN.out; rw [List.length_take] at h1; omega)
      have HWI := Lib.hid (show wrap64 ((i : Int) + 1) = (i : Int) + 1 from by have := HN.out; unfold wrap64; omega)
      have hel := (hcell i hlt).gr HK.out.1
      rw [← hx] at hel
      clear hcell hx hxm
      obtain ⟨c0, c1, c2, c3, c4, c5⟩ := hel
      go_upto_region 5 with fail
      clear c0 c1 c2 c3 c4 c5
      obtain ⟨w1, hw1⟩ : ∃ u, u = wr.alloc (.cells #[.int .i64 x.t, .int .i64 x.len, .int .i64 x.flow, .int .i64 x.band, .int .i64 x.mark, .int .i64 x.n] 108) := ⟨_, rfl⟩
      obtain ⟨xb, hxb⟩ : ∃ u, u = wr.heap.size := ⟨_, rfl⟩
      have HX1 : Hid (HelAt w1 xb 0 x) := Lib.hid (by rw [hw1]; exact held_new wr x hxb)
      have HK1 : Hid (Gr w w1 ∧ RowH 108 w1 u5 (ofK q (l.take i) k)) := Lib.hid (by rw [hw1]; exact ⟨HK.out.1.trans ((Gr.refl _).alloc _), HK.out.2.1.gr ((Gr.refl _).alloc _)⟩)
      rw [← hw1, ← hxb]
      clear hw1 hxb
      have x2 := HX1.out.c2
      rw [Nat.zero_add] at x2
      obtain ⟨oa, oc, rfl⟩ := HK1.out.2.shape
      have HOW := Lib.hid HK.out.2.2
      by_cases hk : hashOf q x.flow = k
      · rw [if_pos hk] at HTK
        have HKK := Lib.hid hk
        go_upto_region 6 with (go_at_call 28; refine (rwhere_any p q HQ.out x.flow HXF.out _ (HC.out.gr HK1.out.1).c0 (HC.out.gr HK1.out.1).c1).mono ?_; rw [HKK.out]; rintro e w2 ⟨rfl, hg2⟩; have HX2 := Lib.hid (HX1.out.gr hg2); have HK2 := Lib.hid (show Gr w w2 ∧ _ from ⟨HK1.out.1.trans hg2, HK1.out.2.gr hg2⟩); clear hg2)
        clear x2
        obtain ⟨x0, x1, x2, x3, x4, x5⟩ := HX2.out
        simp only [Nat.zero_add] at x1 x2 x3 x4 x5
        go_wp2_with (at_builtin; refine wpList_append_rowH rfl _ _ _ (by rfl) i0' Hel.zero.val Tryd.underlying38 hi0 hz0 hz1 hz2 rfl ?c1 (by rfl) (HK2.out.2.gr ((Gr.refl _).alloc _)) ⟨w2.heap.size, 0, none⟩ 1 [x] (by rfl) (by simp) ?c3 ?c2 ?_; (case c1 => (intro u hu; exact (cells_int Hel.zero u (by simpa [Hel.val, Value.cells, Hel.cells] using hu)).2)); (case c3 => (rw [flat_one]; exact (held_new w2 x rfl).news)); (case c2 => (have h1 := HLE.out; simp; omega)); intro v4 w4 hrow hgr hown hold; have HG4 := Lib.hid (show Gr w w4 from (HK2.out.1.trans ((Gr.refl w2).alloc (.cells #[.int .i64 x.t, .int .i64 x.len, .int .i64 x.flow, .int .i64 x.band, .int .i64 x.mark, .int .i64 x.n] 108))).grown hgr (fun g hg => HOW.out g hg)); have HR4 := Lib.hid hrow; have HO4 := Lib.hid (show ∀ g, v4.ownBlock = some g → w.heap.size ≤ g from fun g hg => (hown g hg).elim (HOW.out g) (fun e => Nat.le_trans (HK2.out.1.trans ((Gr.refl w2).alloc (.cells #[.int .i64 x.t, .int .i64 x.len, .int .i64 x.flow, .int .i64 x.band, .int .i64 x.mark, .int .i64 x.n] 108))).size e)); clear hrow hgr hown hold)
        rw [HWI.out]
        go_roundw
        case measure => simp [intOf]; omega
        case rel => exact ⟨i + 1, by omega, by go_num, Lib.hid ⟨HG4.out, by rw [HTK.out]; exact HR4.out, HO4.out⟩⟩
      · rw [if_neg hk, List.append_nil] at HTK
        have HKK := Lib.hid hk
        have j2 : ¬ ((hashOf q x.flow : Nat) : Int) = (k : Int) := by omega
        go_wp2_with (go_at_call 28; refine (rwhere_any p q HQ.out x.flow HXF.out _ (HC.out.gr HK1.out.1).c0 (HC.out.gr HK1.out.1).c1).mono ?_; rintro e w2 ⟨rfl, hg2⟩; have HK2 := Lib.hid (show Gr w w2 ∧ _ from ⟨HK1.out.1.trans hg2, HK1.out.2.gr hg2⟩); clear hg2)
        rw [HWI.out]
        go_roundw
        case measure => simp [intOf]; omega
        case rel => exact ⟨i + 1, by omega, by go_num, Lib.hid ⟨HK2.out.1, by rw [HTK.out]; exact HK2.out.2, HOW.out⟩⟩
    · obtain rfl : i = l.length := by omega
      have i1 : ¬ (l.length : Int) < (l.length : Int) := by omega
      go_wp2
      go_ret
      have h1 := HK.out
      rw [List.take_length] at h1
      exact ⟨_, rfl, h1.2.1, h1.1, h1.2.2⟩
end Go.Proofs.YtbpofdfehcbppaaDoor

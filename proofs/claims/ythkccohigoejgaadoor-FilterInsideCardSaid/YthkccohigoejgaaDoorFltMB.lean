/-
  The program's Meant, walked.
-/
import Derived.Test.YthkccohigoejgaaDoorFltMA
import Derived.Test.YthkccohigoejgaaDoorFltV
import Derived.Test.YthkccohigoejgaaDoorMeth
import Derived.BigGuardPart
import Derived.BigQuiet
import Derived.Deep.DeepCutAuto
namespace Go.Proofs.YthkccohigoejgaaDoor
open Go Go.RowKit

/-- Block q holds these cells. -/
def HB (w : World) (q : Nat) (cs : Array Value) (ty : TypeId) : Prop := w.heap[q]? = some (.cells cs ty (0, 0))
theorem HB.gr {w w' : World} {q : Nat} {cs : Array Value} {ty : TypeId} (h : HB w q cs ty) (g : Gr w w') : HB w' q cs ty := (g.block (Array.getElem?_eq_some_iff.1 h).1).trans h
theorem HB.c {w : World} {q : Nat} {cs : Array Value} {ty : TypeId} (h : HB w q cs ty) (j : Nat) {v : Value} (hv : cs[j]? = some v) : w.cell? ⟨q, j, none⟩ = some v := by
  have e := (cell_of_row w q j cs ty (0, 0) h)
  rw [e]; exact hv
theorem HB.new (w : World) (cs : Array Value) (ty : TypeId) : HB (w.alloc (.cells cs ty)) w.heap.size cs ty := heap_alloc_new w _
theorem HB.lt {w : World} {q : Nat} {cs : Array Value} {ty : TypeId} (h : HB w q cs ty) : q < w.heap.size := (Array.getElem?_eq_some_iff.1 h).1
theorem idx0 (v0 v1 v2 v3 v4 : Value) (w : World) : Sem.run Tryd.prog (Instr.index 154 (.agg #[v0, v1, v2, v3, v4]) (.int .i64 0)) w = .ok v0 w := by kernel_rfl
theorem idx1 (v0 v1 v2 v3 v4 : Value) (w : World) : Sem.run Tryd.prog (Instr.index 154 (.agg #[v0, v1, v2, v3, v4]) (.int .i64 1)) w = .ok v1 w := by kernel_rfl
theorem idx2 (v0 v1 v2 v3 v4 : Value) (w : World) : Sem.run Tryd.prog (Instr.index 154 (.agg #[v0, v1, v2, v3, v4]) (.int .i64 2)) w = .ok v2 w := by kernel_rfl
theorem idx3 (v0 v1 v2 v3 v4 : Value) (w : World) : Sem.run Tryd.prog (Instr.index 154 (.agg #[v0, v1, v2, v3, v4]) (.int .i64 3)) w = .ok v3 w := by kernel_rfl
theorem idx4 (v0 v1 v2 v3 v4 : Value) (w : World) : Sem.run Tryd.prog (Instr.index 154 (.agg #[v0, v1, v2, v3, v4]) (.int .i64 4)) w = .ok v4 w := by kernel_rfl
set_option maxRecDepth 100000 in
set_option maxHeartbeats 4000000 in
theorem value_any (x : Itm) (i : Nat) (hi : i < 5) (w : World) :
    Calls Tryd.prog 102 #[x.val, .int .i64 (i : Int)] w fun E w' => E = .returned (.int .i64 (x.fld i)) ∧ Gr w w' := by
  obtain ⟨t, len, flow, band, mark⟩ := x
  unfold Itm.val Itm.fld
  match i, hi with
  | 0, _ =>
    have hx := idx0
    show Calls Tryd.prog 102 #[.agg #[.int .i64 t, .int .i64 len, .int .i64 flow, .int .i64 band, .int .i64 mark], .int .i64 0] w _
    go_enter Tryd.func102, Tryd.ntmps102
    go_wp2
    go_ret
    exact ⟨rfl, (Gr.refl w).alloc _⟩
  | 1, _ =>
    have hx := idx1
    show Calls Tryd.prog 102 #[.agg #[.int .i64 t, .int .i64 len, .int .i64 flow, .int .i64 band, .int .i64 mark], .int .i64 1] w _
    go_enter Tryd.func102, Tryd.ntmps102
    go_wp2
    go_ret
    exact ⟨rfl, (Gr.refl w).alloc _⟩
  | 2, _ =>
    have hx := idx2
    show Calls Tryd.prog 102 #[.agg #[.int .i64 t, .int .i64 len, .int .i64 flow, .int .i64 band, .int .i64 mark], .int .i64 2] w _
    go_enter Tryd.func102, Tryd.ntmps102
    go_wp2
    go_ret
    exact ⟨rfl, (Gr.refl w).alloc _⟩
  | 3, _ =>
    have hx := idx3
    show Calls Tryd.prog 102 #[.agg #[.int .i64 t, .int .i64 len, .int .i64 flow, .int .i64 band, .int .i64 mark], .int .i64 3] w _
    go_enter Tryd.func102, Tryd.ntmps102
    go_wp2
    go_ret
    exact ⟨rfl, (Gr.refl w).alloc _⟩
  | 4, _ =>
    have hx := idx4
    show Calls Tryd.prog 102 #[.agg #[.int .i64 t, .int .i64 len, .int .i64 flow, .int .i64 band, .int .i64 mark], .int .i64 4] w _
    go_enter Tryd.func102, Tryd.ntmps102
    go_wp2
    go_ret
    exact ⟨rfl, (Gr.refl w).alloc _⟩
theorem meth_always (v : Value) : Meth (.iface 76 v) "Meant" 97 v := fun args w => by kernel_rfl
theorem meth_test (v : Value) : Meth (.iface 86 v) "Meant" 100 v := fun args w => by kernel_rfl
theorem meth_not (v : Value) : Meth (.iface 64 v) "Meant" 93 v := fun args w => by kernel_rfl
theorem meth_several (v : Value) : Meth (.iface 66 v) "Meant" 95 v := fun args w => by kernel_rfl
set_option maxRecDepth 100000 in
set_option maxHeartbeats 4000000 in
theorem mean_always (x : Itm) (w : World) : Calls Tryd.prog 97 #[.agg #[], x.val] w fun E w' => E = .returned (.bool true) ∧ Gr w w' := by
  unfold Itm.val
  go_enter Tryd.func97, Tryd.ntmps97
  go_wp2
  go_ret
  exact ⟨rfl, ((Gr.refl w).alloc _).alloc _⟩
-- THE METHODS
set_option maxRecDepth 100000 in
set_option maxHeartbeats 4000000 in
theorem mean_test (x : Itm) (i : Nat) (hi : i < 5) (lo hi' : Int) (w : World) : Calls Tryd.prog 100 #[.agg #[.int .i64 (i : Int), .int .i64 lo, .int .i64 hi', .bool false], x.val] w fun E w' => E = .returned (.bool (decide (lo ≤ x.fld i) && decide (x.fld i ≤ hi'))) ∧ Gr w w' := by
  have HV : Hid (∀ w, Calls Tryd.prog 102 #[.agg #[.int .i64 x.t, .int .i64 x.len, .int .i64 x.flow, .int .i64 x.band, .int .i64 x.mark], .int .i64 (i : Int)] w fun E w' => E = .returned (.int .i64 (x.fld i)) ∧ Gr w w') := Lib.hid (fun w => value_any x i hi w)
  obtain ⟨v, hv⟩ : ∃ v, v = x.fld i := ⟨_, rfl⟩
  rw [← hv] at HV ⊢
  clear hv
  unfold Itm.val
  go_enter Tryd.func100, Tryd.ntmps100
  go_upto_region 1 with fail
  obtain ⟨q, hq⟩ : ∃ q, q = w.heap.size := ⟨_, rfl⟩
  obtain ⟨w1, hw1⟩ : ∃ w1, w1 = (w.alloc (.cells #[.int .i64 (i : Int), .int .i64 lo, .int .i64 hi', .bool false] 86)).alloc (.cells #[.int .i64 x.t, .int .i64 x.len, .int .i64 x.flow, .int .i64 x.band, .int .i64 x.mark] 23) := ⟨_, rfl⟩
  have HW1 : Hid (HB w1 q #[.int .i64 (i : Int), .int .i64 lo, .int .i64 hi', .bool false] 86 ∧ HB w1 (q + 1) #[.int .i64 x.t, .int .i64 x.len, .int .i64 x.flow, .int .i64 x.band, .int .i64 x.mark] 23 ∧ Gr w w1) := Lib.hid (by
    rw [hw1, hq]
    exact ⟨(HB.new _ _ _).gr ((Gr.refl _).alloc _), by simpa using HB.new (w.alloc (.cells #[.int .i64 (i : Int), .int .i64 lo, .int .i64 hi', .bool false] 86)) #[.int .i64 x.t, .int .i64 x.len, .int .i64 x.flow, .int .i64 x.band, .int .i64 x.mark] 23, ((Gr.refl w).alloc _).alloc _⟩)
  rw [← hw1, ← hq]
  clear hw1 hq
  have c0 : w1.cell? ⟨q, 0, none⟩ = some (.int .i64 (i : Int)) := HW1.out.1.c 0 rfl
  have d0 : w1.cell? ⟨q + 1, 0, none⟩ = some (.int .i64 x.t) := HW1.out.2.1.c 0 rfl
  have d1 : w1.cell? ⟨q + 1, 1, none⟩ = some (.int .i64 x.len) := HW1.out.2.1.c 1 rfl
  have d2 : w1.cell? ⟨q + 1, 2, none⟩ = some (.int .i64 x.flow) := HW1.out.2.1.c 2 rfl
  have d3 : w1.cell? ⟨q + 1, 3, none⟩ = some (.int .i64 x.band) := HW1.out.2.1.c 3 rfl
  have d4 : w1.cell? ⟨q + 1, 4, none⟩ = some (.int .i64 x.mark) := HW1.out.2.1.c 4 rfl
  by_cases h1 : lo ≤ v
  · by_cases h2 : v ≤ hi'
    · go_wp2_with (go_at_call 102; refine (HV.out _).mono ?_; rintro E w2 ⟨rfl, hg⟩; have HG := Lib.hid hg; have c1 : w2.cell? ⟨q, 1, none⟩ = some (.int .i64 lo) := (HW1.out.1.gr hg).c 1 rfl; have c2 : w2.cell? ⟨q, 2, none⟩ = some (.int .i64 hi') := (HW1.out.1.gr hg).c 2 rfl; have c3 : w2.cell? ⟨q, 3, none⟩ = some (.bool false) := (HW1.out.1.gr hg).c 3 rfl; clear hg)
      go_ret
      exact ⟨by simp [h1, h2] <;> omega, HW1.out.2.2.trans HG.out⟩
    · go_wp2_with (go_at_call 102; refine (HV.out _).mono ?_; rintro E w2 ⟨rfl, hg⟩; have HG := Lib.hid hg; have c1 : w2.cell? ⟨q, 1, none⟩ = some (.int .i64 lo) := (HW1.out.1.gr hg).c 1 rfl; have c2 : w2.cell? ⟨q, 2, none⟩ = some (.int .i64 hi') := (HW1.out.1.gr hg).c 2 rfl; have c3 : w2.cell? ⟨q, 3, none⟩ = some (.bool false) := (HW1.out.1.gr hg).c 3 rfl; clear hg)
      go_ret
      exact ⟨by simp [h1] <;> omega, HW1.out.2.2.trans HG.out⟩
  · go_wp2_with (go_at_call 102; refine (HV.out _).mono ?_; rintro E w2 ⟨rfl, hg⟩; have HG := Lib.hid hg; have c1 : w2.cell? ⟨q, 1, none⟩ = some (.int .i64 lo) := (HW1.out.1.gr hg).c 1 rfl; have c2 : w2.cell? ⟨q, 2, none⟩ = some (.int .i64 hi') := (HW1.out.1.gr hg).c 2 rfl; have c3 : w2.cell? ⟨q, 3, none⟩ = some (.bool false) := (HW1.out.1.gr hg).c 3 rfl; clear hg)
    go_ret
    exact ⟨by simp <;> omega, HW1.out.2.2.trans HG.out⟩
set_option maxRecDepth 100000 in
set_option maxHeartbeats 4000000 in
theorem mean_has (x : Itm) (i : Nat) (hi : i < 5) (lo : Int) (w : World) : Calls Tryd.prog 100 #[.agg #[.int .i64 (i : Int), .int .i64 lo, .int .i64 lo, .bool true], x.val] w fun E w' => E = .returned (.bool (hasB (x.fld i) lo)) ∧ Gr w w' := by
  have HV : Hid (∀ w, Calls Tryd.prog 102 #[.agg #[.int .i64 x.t, .int .i64 x.len, .int .i64 x.flow, .int .i64 x.band, .int .i64 x.mark], .int .i64 (i : Int)] w fun E w' => E = .returned (.int .i64 (x.fld i)) ∧ Gr w w') := Lib.hid (fun w => value_any x i hi w)
  obtain ⟨v, hv⟩ : ∃ v, v = x.fld i := ⟨_, rfl⟩
  rw [← hv] at HV ⊢
  clear hv
  unfold Itm.val
  go_enter Tryd.func100, Tryd.ntmps100
  go_upto_region 1 with fail
  obtain ⟨q, hq⟩ : ∃ q, q = w.heap.size := ⟨_, rfl⟩
  obtain ⟨w1, hw1⟩ : ∃ w1, w1 = (w.alloc (.cells #[.int .i64 (i : Int), .int .i64 lo, .int .i64 lo, .bool true] 86)).alloc (.cells #[.int .i64 x.t, .int .i64 x.len, .int .i64 x.flow, .int .i64 x.band, .int .i64 x.mark] 23) := ⟨_, rfl⟩
  have HW1 : Hid (HB w1 q #[.int .i64 (i : Int), .int .i64 lo, .int .i64 lo, .bool true] 86 ∧ HB w1 (q + 1) #[.int .i64 x.t, .int .i64 x.len, .int .i64 x.flow, .int .i64 x.band, .int .i64 x.mark] 23 ∧ Gr w w1) := Lib.hid (by
    rw [hw1, hq]
    exact ⟨(HB.new _ _ _).gr ((Gr.refl _).alloc _), by simpa using HB.new (w.alloc (.cells #[.int .i64 (i : Int), .int .i64 lo, .int .i64 lo, .bool true] 86)) #[.int .i64 x.t, .int .i64 x.len, .int .i64 x.flow, .int .i64 x.band, .int .i64 x.mark] 23, ((Gr.refl w).alloc _).alloc _⟩)
  rw [← hw1, ← hq]
  clear hw1 hq
  have c0 : w1.cell? ⟨q, 0, none⟩ = some (.int .i64 (i : Int)) := HW1.out.1.c 0 rfl
  have d0 : w1.cell? ⟨q + 1, 0, none⟩ = some (.int .i64 x.t) := HW1.out.2.1.c 0 rfl
  have d1 : w1.cell? ⟨q + 1, 1, none⟩ = some (.int .i64 x.len) := HW1.out.2.1.c 1 rfl
  have d2 : w1.cell? ⟨q + 1, 2, none⟩ = some (.int .i64 x.flow) := HW1.out.2.1.c 2 rfl
  have d3 : w1.cell? ⟨q + 1, 3, none⟩ = some (.int .i64 x.band) := HW1.out.2.1.c 3 rfl
  have d4 : w1.cell? ⟨q + 1, 4, none⟩ = some (.int .i64 x.mark) := HW1.out.2.1.c 4 rfl
  go_wp2_with (go_at_call 102; refine (HV.out _).mono ?_; rintro E w2 ⟨rfl, hg⟩; have HG := Lib.hid hg; have c1 : w2.cell? ⟨q, 1, none⟩ = some (.int .i64 lo) := (HW1.out.1.gr hg).c 1 rfl; have c2 : w2.cell? ⟨q, 2, none⟩ = some (.int .i64 lo) := (HW1.out.1.gr hg).c 2 rfl; have c3 : w2.cell? ⟨q, 3, none⟩ = some (.bool true) := (HW1.out.1.gr hg).c 3 rfl; clear hg)
  go_ret
  exact ⟨rfl, HW1.out.2.2.trans HG.out⟩
/-- A filter that is called: what it answers. -/
def MeanF (x : Itm) (v : Value) (b : Bool) (w : World) : Prop := ∃ f r, Meth v "Meant" f r ∧ ∀ w', Gr w w' → Calls Tryd.prog f #[r, .agg #[.int .i64 x.t, .int .i64 x.len, .int .i64 x.flow, .int .i64 x.band, .int .i64 x.mark]] w' fun E w2 => E = .returned (.bool b) ∧ Gr w' w2
set_option maxRecDepth 100000 in
set_option maxHeartbeats 4000000 in
theorem mean_not (x : Itm) (t : TypeId) (y : Value) (b : Bool) (w : World) (h : MeanF x (.iface t y) b w) : Calls Tryd.prog 93 #[.agg #[.iface t y], x.val] w fun E w' => E = .returned (.bool (!b)) ∧ Gr w w' := by
  obtain ⟨f, r, hm, hc⟩ := h
  have HM := Lib.hid hm
  have HC := Lib.hid hc
  clear hm hc
  unfold Itm.val
  go_enter Tryd.func93, Tryd.ntmps93
  go_upto_region 1 with fail
  obtain ⟨q, hq⟩ : ∃ q, q = w.heap.size := ⟨_, rfl⟩
  obtain ⟨w1, hw1⟩ : ∃ w1, w1 = (w.alloc (.cells #[.iface t y] 64)).alloc (.cells #[.int .i64 x.t, .int .i64 x.len, .int .i64 x.flow, .int .i64 x.band, .int .i64 x.mark] 23) := ⟨_, rfl⟩
  have HW1 : Hid (HB w1 q #[.iface t y] 64 ∧ HB w1 (q + 1) #[.int .i64 x.t, .int .i64 x.len, .int .i64 x.flow, .int .i64 x.band, .int .i64 x.mark] 23 ∧ Gr w w1) := Lib.hid (by
    rw [hw1, hq]
    exact ⟨(HB.new _ _ _).gr ((Gr.refl _).alloc _), by simpa using HB.new (w.alloc (.cells #[.iface t y] 64)) #[.int .i64 x.t, .int .i64 x.len, .int .i64 x.flow, .int .i64 x.band, .int .i64 x.mark] 23, ((Gr.refl w).alloc _).alloc _⟩)
  rw [← hw1, ← hq]
  clear hw1 hq
  have c0 : w1.cell? ⟨q, 0, none⟩ = some (.iface t y) := HW1.out.1.c 0 rfl
  have d0 : w1.cell? ⟨q + 1, 0, none⟩ = some (.int .i64 x.t) := HW1.out.2.1.c 0 rfl
  have d1 : w1.cell? ⟨q + 1, 1, none⟩ = some (.int .i64 x.len) := HW1.out.2.1.c 1 rfl
  have d2 : w1.cell? ⟨q + 1, 2, none⟩ = some (.int .i64 x.flow) := HW1.out.2.1.c 2 rfl
  have d3 : w1.cell? ⟨q + 1, 3, none⟩ = some (.int .i64 x.band) := HW1.out.2.1.c 3 rfl
  have d4 : w1.cell? ⟨q + 1, 4, none⟩ = some (.int .i64 x.mark) := HW1.out.2.1.c 4 rfl
  go_wp2_with ((with_reducible refine wpList_here "Meant" ?_); refine wpList_invoke HM.out rfl _ _ _ rfl rfl (ys := [.agg #[.int .i64 x.t, .int .i64 x.len, .int .i64 x.flow, .int .i64 x.band, .int .i64 x.mark]]) rfl (HC.out _ HW1.out.2.2) ?_; rintro e w2 ⟨rfl, hg⟩; have HG := Lib.hid hg; clear hg; refine ⟨_, rfl, ?_⟩)
  go_ret
  exact ⟨rfl, HW1.out.2.2.trans HG.out⟩
end Go.Proofs.YthkccohigoejgaaDoor

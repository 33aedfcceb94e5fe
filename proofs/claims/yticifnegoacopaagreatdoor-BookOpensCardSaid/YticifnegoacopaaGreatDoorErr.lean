/-
  Errors taken apart: api.Tell, plain.Place, millraceref.Bare, millracelaw.at, millracelaw.bare.
-/
import Derived.Test.YticifnegoacopaaGreatDoorErrB
import Derived.Test.YticifnegoacopaaGreatDoorBase
import Derived.BigQuiet
import Derived.Lib.Hide
namespace Go.Proofs.YticifnegoacopaaGreatDoor
open Go.RowKit Go.Extern.Stop Go.Stop Go.Extern

/-- errors.errorType is laid. -/
def Glob (w : World) : Prop := w.cell? ⟨3, 0, none⟩ = some (.iface 183 (.agg #[.pointer (some ⟨9, 35, none⟩)]))
theorem Glob.gr {w w' : World} (h : Glob w) (g : Gr w w') : Glob w' := g.cell h

/-- The value v is, in w, an error of this number at this place. -/
def ErrIs (w : World) (v : Value) (n p : Int) : Prop :=
  (v = .nilIface ∧ n = 0 ∧ p = -1) ∨ (v = .iface 37 (.int .i64 n) ∧ p = -1) ∨
    ∃ b o, v = .iface 96 (.pointer (some ⟨b, o, none⟩)) ∧ w.cell? ⟨b, o, none⟩ = some (.int .i64 n) ∧ w.cell? ⟨b, o + 1, none⟩ = some (.int .i64 p)
theorem ErrIs.gr {w w' : World} {v : Value} {n p : Int} (h : ErrIs w v n p) (g : Gr w w') : ErrIs w' v n p := by
  rcases h with h | h | ⟨b, o, h1, h2, h3⟩
  · exact .inl h
  · exact .inr (.inl h)
  · exact .inr (.inr ⟨b, o, h1, g.cell h2, g.cell h3⟩)
theorem ErrIs.nil (w : World) : ErrIs w .nilIface 0 (-1) := .inl ⟨rfl, rfl, rfl⟩
theorem ErrIs.no (w : World) (n : Int) : ErrIs w (.iface 37 (.int .i64 n)) n (-1) := .inr (.inl ⟨rfl, rfl⟩)

/-- The error of a number: nil for 0. -/
def errV (c : Int) : Value := if c = 0 then .nilIface else .iface 37 (.int .i64 c)
theorem errV_is (w : World) (c : Int) : ErrIs w (errV c) c (-1) := by
  unfold errV
  by_cases h : c = 0
  · rw [if_pos h, h]; exact ErrIs.nil w
  · rw [if_neg h]; exact ErrIs.no w c
theorem errV_zero {c : Int} (h : c = 0) : errV c = .nilIface := by unfold errV; rw [if_pos h]
theorem errV_ne {c : Int} (h : c ≠ 0) : errV c = .iface 37 (.int .i64 c) := by unfold errV; rw [if_neg h]

theorem asW_gr (w : World) (t : Addr) (n : Int) (u : World) (hu : Gr u w) (ht : u.heap.size ≤ t.block) : Gr u (asW w t n) :=
  ((((hu.alloc _).alloc _).alloc _).alloc _).setCell ht _
theorem asW_cell (w : World) (t : Addr) (n : Int) (old : Value) (ht : w.cell? t = some old) : (asW w t n).cell? t = some (.int .i64 n) := by
  unfold asW
  refine World.cell?_setCell_same _ _ _ (u := old) ?_
  rw [World.cell?_alloc_lt _ _ t (by have := cell_lt ht; simp; omega), World.cell?_alloc_lt _ _ t (by have := cell_lt ht; simp; omega), World.cell?_alloc_lt _ _ t (by have := cell_lt ht; simp; omega), World.cell?_alloc_lt _ _ t (cell_lt ht), ht]

set_option maxHeartbeats 1000000 in
theorem tell_nil (w : World) :
    Calls Tryz.prog 56 #[.nilIface] w fun e w' => e = .returned (.int .i64 0) ∧ Gr w w' := by
  go_enter Tryz.func56, Tryz.ntmps56
  go_wp2
  go_ret
  exact ⟨rfl, Gr.refl _⟩
set_option maxHeartbeats 1000000 in
theorem tell_no (n : Int) (w : World) (hg : Glob w) :
    Calls Tryz.prog 56 #[.iface 37 (.int .i64 n)] w fun e w' => e = .returned (.int .i64 n) ∧ Gr w w' := by
  have H := Lib.hid hg
  clear hg
  have ht : (w.alloc (.cells #[.int .i64 0] 37)).cell? ⟨w.heap.size, 0, none⟩ = some (.int .i64 0) := by simp
  have hf : (w.alloc (.cells #[.int .i64 0] 37)).frozen? ⟨w.heap.size, 0, none⟩ = false := by simp
  have hw := asW_cell (w.alloc (.cells #[.int .i64 0] 37)) ⟨w.heap.size, 0, none⟩ n _ ht
  go_enter Tryz.func56, Tryz.ntmps56
  go_wp2_with (go_at_call 78; refine (as_hit n _ _ _ (H.out.gr ((Gr.refl w).alloc _)) ht hf).mono ?_; rintro e w' ⟨rfl, rfl⟩)
  go_ret
  exact ⟨rfl, asW_gr _ _ _ _ ((Gr.refl w).alloc _) (Nat.le_refl _)⟩
set_option maxHeartbeats 1000000 in
theorem tell_at (a : Addr) (n : Int) (w : World) (hg : Glob w) (ha : w.cell? a = some (.int .i64 n)) :
    Calls Tryz.prog 56 #[.iface 96 (.pointer (some a))] w fun e w' => e = .returned (.int .i64 n) ∧ Gr w w' := by
  have H := Lib.hid hg
  have HA := Lib.hid ha
  clear hg ha
  have ht : (w.alloc (.cells #[.int .i64 0] 37)).cell? ⟨w.heap.size, 0, none⟩ = some (.int .i64 0) := by simp
  have hf : (w.alloc (.cells #[.int .i64 0] 37)).frozen? ⟨w.heap.size, 0, none⟩ = false := by simp
  have hw := asW_cell (w.alloc (.cells #[.int .i64 0] 37)) ⟨w.heap.size, 0, none⟩ n _ ht
  go_enter Tryz.func56, Tryz.ntmps56
  go_wp2_with (go_at_call 78; refine (as_at a n _ _ _ (H.out.gr ((Gr.refl w).alloc _)) ht hf (((Gr.refl w).alloc _).cell HA.out)).mono ?_; rintro e w' ⟨rfl, rfl⟩)
  go_ret
  exact ⟨rfl, asW_gr _ _ _ _ ((Gr.refl w).alloc _) (Nat.le_refl _)⟩
/-- api.Tell at any error. -/
theorem tell_any {v : Value} {n p : Int} (w : World) (hg : Glob w) (h : ErrIs w v n p) :
    Calls Tryz.prog 56 #[v] w fun e w' => e = .returned (.int .i64 n) ∧ Gr w w' := by
  rcases h with ⟨rfl, rfl, _⟩ | ⟨rfl, _⟩ | ⟨b, o, rfl, h2, _⟩
  · exact tell_nil w
  · exact tell_no n w hg
  · exact tell_at _ n w hg h2

set_option maxHeartbeats 1000000 in
theorem place_nil (w : World) :
    Calls Tryz.prog 35 #[.nilIface] w fun e w' => e = .returned (.tuple #[.int .i64 0, .int .i64 (-1)]) ∧ Gr w w' := by
  go_enter Tryz.func35, Tryz.ntmps35
  go_wp2_with (go_at_call 56; refine (tell_nil _).mono ?_; rintro e w' ⟨rfl, hgr⟩)
  refine wp_loop_rounds 1 ?_
  rw [rounds_succ]
  go_wp2
  go_ret2
  exact ⟨rfl, hgr⟩
set_option maxHeartbeats 1000000 in
theorem place_no (n : Int) (w : World) (hg : Glob w) :
    Calls Tryz.prog 35 #[.iface 37 (.int .i64 n)] w fun e w' => e = .returned (.tuple #[.int .i64 n, .int .i64 (-1)]) ∧ Gr w w' := by
  have H := Lib.hid hg
  clear hg
  have noAt : ∀ (v : Value) (w : World), (Instr.typeAssert (.iface 37 v) 35 96 true).run Tryz.prog w = .ok (.tuple #[.pointer none, .bool false]) w := fun v w => by kernel_rfl
  have noU := fun (v : Value) (xT : TypeId) (w : World) => run_typeAssert_lacksB (P := Tryz.prog) (z := .nilIface) (t := 37) (asserted := 99) Tryz.underlying99 (by kernel_rfl) (by kernel_rfl) v xT w
  go_enter Tryz.func35, Tryz.ntmps35
  go_wp2_with (go_at_call 56; refine (tell_no n _ H.out).mono ?_; rintro e w' ⟨rfl, hgr⟩)
  refine wp_loop_rounds 1 ?_
  rw [rounds_succ]
  go_wp2
  go_ret2
  exact ⟨rfl, hgr⟩
set_option maxHeartbeats 1000000 in
theorem place_at (b o : Nat) (n p : Int) (w : World) (hg : Glob w) (hn : w.cell? ⟨b, o, none⟩ = some (.int .i64 n)) (hp : w.cell? ⟨b, o + 1, none⟩ = some (.int .i64 p)) :
    Calls Tryz.prog 35 #[.iface 96 (.pointer (some ⟨b, o, none⟩))] w fun e w' => e = .returned (.tuple #[.int .i64 n, .int .i64 p]) ∧ Gr w w' := by
  have H := Lib.hid hg
  have HN := Lib.hid hn
  have HP := Lib.hid hp
  clear hg hn hp
  have isAt : ∀ (v : Value) (w : World), (Instr.typeAssert (.iface 96 v) 35 96 true).run Tryz.prog w = .ok (.tuple #[v, .bool true]) w := fun v w => by kernel_rfl
  go_enter Tryz.func35, Tryz.ntmps35
  go_wp2_with (go_at_call 56; refine (tell_at _ n _ H.out HN.out).mono ?_; rintro e w' ⟨rfl, hgr⟩)
  have hp' := hgr.cell HP.out
  have HG := Lib.hid hgr
  clear hgr
  refine wp_loop_rounds 1 ?_
  rw [rounds_succ]
  go_wp2
  go_quiet (fail)
  go_wp2
  go_ret2
  exact ⟨rfl, HG.out.drewN _⟩
/-- plain.Place at any error. -/
theorem place_any {v : Value} {n p : Int} (w : World) (hg : Glob w) (h : ErrIs w v n p) :
    Calls Tryz.prog 35 #[v] w fun e w' => e = .returned (.tuple #[.int .i64 n, .int .i64 p]) ∧ Gr w w' := by
  rcases h with ⟨rfl, rfl, rfl⟩ | ⟨rfl, rfl⟩ | ⟨b, o, rfl, h2, h3⟩
  · exact place_nil w
  · exact place_no n w hg
  · exact place_at b o n p w hg h2 h3

set_option maxHeartbeats 1000000 in
/-- millracelaw.at: an error's number and place held against a fault's. -/
theorem law_at {v : Value} {n p : Int} (n' p' : Int) (w : World) (hg : Glob w) (h : ErrIs w v n p) :
    Calls Tryz.prog 21 #[v, .agg #[.int .i64 n', .int .i64 p']] w fun e w' => e = .returned (.bool (decide (n = n') && decide (p = p'))) ∧ Gr w w' := by
  have H := Lib.hid (hg.gr ((Gr.refl w).alloc (.cells #[.int .i64 n', .int .i64 p'] 56)))
  have HE := Lib.hid (h.gr ((Gr.refl w).alloc (.cells #[.int .i64 n', .int .i64 p'] 56)))
  have c0 : (w.alloc (.cells #[.int .i64 n', .int .i64 p'] 56)).cell? ⟨w.heap.size, 0, none⟩ = some (.int .i64 n') := by simp
  have c1 : (w.alloc (.cells #[.int .i64 n', .int .i64 p'] 56)).cell? ⟨w.heap.size, 1, none⟩ = some (.int .i64 p') := by simp
  have g0 := (Gr.refl w).alloc (.cells #[.int .i64 n', .int .i64 p'] 56)
  have C0 := Lib.hid c0
  have C1 := Lib.hid c1
  clear hg h c0 c1
  by_cases e1 : n = n'
  · have b1 : ((n : Int) == n') = true := by simpa using e1
    have E1 := Lib.hid e1
    clear e1
    go_enter Tryz.func21, Tryz.ntmps21
    go_wp2_with (go_at_call 35; refine (place_any _ H.out HE.out).mono ?_; rintro e w' ⟨rfl, hgr⟩; have c0 := hgr.cell C0.out; have c1 := hgr.cell C1.out)
    go_ret
    exact ⟨by rw [Bool.beq_eq_decide_eq]; simp [E1.out], g0.trans hgr⟩
  · have b1 : ((n : Int) == n') = false := by simpa using e1
    have E1 := Lib.hid e1
    clear e1
    go_enter Tryz.func21, Tryz.ntmps21
    go_wp2_with (go_at_call 35; refine (place_any _ H.out HE.out).mono ?_; rintro e w' ⟨rfl, hgr⟩; have c0 := hgr.cell C0.out; have c1 := hgr.cell C1.out)
    go_ret
    exact ⟨by simp [E1.out], g0.trans hgr⟩
theorem bare_any (n : Int) (w : World) :
    Calls Tryz.prog 22 #[.int .i64 n] w fun e w' => e = .returned (.agg #[.int .i64 n, .int .i64 (-1)]) ∧ Gr w w' := by
  go_enter Tryz.func22, Tryz.ntmps22
  go_wp2
  exact bodyPost_ret (v := .agg #[.int .i64 n, .int .i64 (-1)]) (by simp [results, Tryz.results22, go_sem]) rfl ⟨rfl, (Gr.refl _).alloc _⟩
set_option maxHeartbeats 1000000 in
/-- millracelaw.bare: an error is this one, without a place. -/
theorem law_bare {v : Value} {n p : Int} (n' : Int) (w : World) (hg : Glob w) (h : ErrIs w v n p) :
    Calls Tryz.prog 5 #[v, .int .i64 n'] w fun e w' => e = .returned (.bool (decide (n = n') && decide (p = -1))) ∧ Gr w w' := by
  have H := Lib.hid hg
  have HE := Lib.hid h
  clear hg h
  go_enter Tryz.func5, Tryz.ntmps5
  go_wp2_with (first | (go_at_call 22; refine (bare_any _ _).mono ?_; rintro e w' ⟨rfl, hgr⟩) | (go_at_call 21; refine (law_at _ _ _ (H.out.gr hgr) (HE.out.gr hgr)).mono ?_; rintro e w'' ⟨rfl, hgr2⟩))
  go_ret
  exact ⟨rfl, hgr.trans hgr2⟩
theorem at_yes {v : Value} {n p : Int} (w : World) (hg : Glob w) (h : ErrIs w v n p) :
    Calls Tryz.prog 21 #[v, .agg #[.int .i64 n, .int .i64 p]] w fun e w' => e = .returned (.bool true) ∧ Gr w w' := by
  have := law_at n p w hg h
  simpa using this
theorem bare_true {v : Value} {n : Int} (w : World) (hg : Glob w) (h : ErrIs w v n (-1)) :
    Calls Tryz.prog 5 #[v, .int .i64 n] w fun e w' => e = .returned (.bool true) ∧ Gr w w' := by
  have := law_bare n w hg h
  simpa using this
end Go.Proofs.YticifnegoacopaaGreatDoor

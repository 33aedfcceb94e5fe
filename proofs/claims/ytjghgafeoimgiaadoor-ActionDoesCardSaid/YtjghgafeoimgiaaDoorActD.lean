/-
  Program.Do, walked. (Printed by genact.py.)
-/
import Derived.Test.YtjghgafeoimgiaaDoorActC
import Derived.Test.YtjghgafeoimgiaaDoorRegL
import Derived.Test.YtjghgafeoimgiaaDoorRegG
namespace Go.Proofs.YtjghgafeoimgiaaDoor
open Go.RowKit

section
variable {ev : Operand → Value} {o : Oper} {w : World} {x y z : Operand} {u : Value}
theorem adp_fa_action_Action_1 {p o' : Nat} (ho : o.op = .fieldAddr 28 x 1) (h : ev x = .pointer (some ⟨p, o', none⟩)) : (execOp ev o).run Tryd.prog w = .ok (.value (.pointer (some ⟨p, o' + 1, none⟩))) w := by
  simp [execOp, ho, h, go_sem]
theorem adp_fa_action_Program_2 {p o' : Nat} (ho : o.op = .fieldAddr 69 x 2) (h : ev x = .pointer (some ⟨p, o', none⟩)) : (execOp ev o).run Tryd.prog w = .ok (.value (.pointer (some ⟨p, o' + 2, none⟩))) w := by
  simp [execOp, ho, h, go_sem]
theorem adp_idx__8_int {p o' j : Nat} (ho : o.op = .indexAddr 48 x y) (h : ev x = .pointer (some ⟨p, o', none⟩)) (k : ev y = .int .i64 (j : Int)) (hj : j < 8) : (execOp ev o).run Tryd.prog w = .ok (.value (.pointer (some ⟨p, o' + j, none⟩))) w := by
  have h0 : (0 : Int) ≤ (j : Int) := by omega
  have h1 : (j : Int) < 8 := by omega
  simp [execOp, ho, h, k, h0, h1, go_sem]
theorem adp_add {m n r : Int} (ho : o.op = .binOp .add 3 x y 3) (h : ev x = .int .i64 m) (k : ev y = .int .i64 n) (hb : IntKind.i64.wrap (m + n) = r) : (execOp ev o).run Tryd.prog w = .ok (.value (.int .i64 r)) w := by
  subst hb
  simp [execOp, ho, h, k, go_sem]
theorem adp_fa_action_Program_1 {p o' : Nat} (ho : o.op = .fieldAddr 69 x 1) (h : ev x = .pointer (some ⟨p, o', none⟩)) : (execOp ev o).run Tryd.prog w = .ok (.value (.pointer (some ⟨p, o' + 1, none⟩))) w := by
  simp [execOp, ho, h, go_sem]
theorem adp_loadS____bucket_State {ad : Addr} {a : Option Addr} {n c : Nat} (ho : o.op = .load 67 x) (h : ev x = .pointer (some ad)) (hc : w.cell? ad = some (.slice a n c)) : (execOp ev o).run Tryd.prog w = .ok (.value (.slice a n c)) w := by
  simp [execOp, ho, h, hc, go_sem]
theorem adp_idxs____bucket_State {b off n c j : Nat} (ho : o.op = .indexAddr 67 x y) (h : ev x = .slice (some ⟨b, off, none⟩) n c) (k : ev y = .int .i64 (j : Int)) (hj : j < n) : (execOp ev o).run Tryd.prog w = .ok (.value (.pointer (some ⟨b, off + j, none⟩))) w := by
  have h0 : (0 : Int) ≤ (j : Int) := by omega
  have h1 : (j : Int) < (n : Int) := by omega
  simp [execOp, ho, h, k, h0, h1, go_sem]
theorem adp_loadP__bucket_State {ad : Addr} {v : Option Addr} (ho : o.op = .load 70 x) (h : ev x = .pointer (some ad)) (hc : w.cell? ad = some (.pointer v)) : (execOp ev o).run Tryd.prog w = .ok (.value (.pointer v)) w := by
  simp [execOp, ho, h, hc, go_sem]
theorem adp_fa_api_Item_0 {p o' : Nat} (ho : o.op = .fieldAddr 54 x 0) (h : ev x = .pointer (some ⟨p, o', none⟩)) : (execOp ev o).run Tryd.prog w = .ok (.value (.pointer (some ⟨p, o', none⟩))) w := by
  simp [execOp, ho, h, go_sem]
theorem adp_fa_api_Item_1 {p o' : Nat} (ho : o.op = .fieldAddr 54 x 1) (h : ev x = .pointer (some ⟨p, o', none⟩)) : (execOp ev o).run Tryd.prog w = .ok (.value (.pointer (some ⟨p, o' + 1, none⟩))) w := by
  simp [execOp, ho, h, go_sem]
theorem adp_call___millrace_bucket_State__Take {x0 x1 x2 : Operand} {v0 v1 v2 : Value} (ho : o.op = .call { callee := .value (.func 21), args := #[x0, x1, x2], argTypes := #[70, 3, 3] }) (hf : ev (.func 21) = .func (.func 21) #[] #[]) (h0 : ev x0 = v0) (h1 : ev x1 = v1) (h2 : ev x2 = v2) : (execOp ev o).run Tryd.prog w = .ok (.enter 21 #[v0, v1, v2]) w := by
  simp [execOp, ho, hf, h0, h1, h2, resolve, invoke, go_sem]
theorem adp_not {b c : Bool} {t : TypeId} (ho : o.op = .unOp .not t x) (h : ev x = .bool b) (hc : (!b) = c) : (execOp ev o).run Tryd.prog w = .ok (.value (.bool c)) w := by
  subst hc
  simp [execOp, ho, h, go_sem]
end

def tellP (c : Int) : Value := if c = 2 then .iface 36 (.int .i64 11) else .nilIface
theorem icheck_fine (x : Itm) (w : World) (h : x.ok) : Calls Tryd.prog 20 #[.agg #[.int .i64 x.t, .int .i64 x.len, .int .i64 x.flow, .int .i64 x.band, .int .i64 x.mark]] w fun e w' => e = .returned .nilIface ∧ Gr w w' := icheck_ok x w h
set_option maxRecDepth 100000 in
set_option maxHeartbeats 40000000 in
theorem do_run (pp : Nat) (la : Option Addr) (lc : Nat) (bv : Value) (n m : Nat) (F : Nat → Nat → Int) (Bk : Nat → Bkt) (bp : Nat → Nat) (x : Itm) (c : Nat → Int) (bs : Nat → BSt) (w : World) (hx : x.ok) (hn : n ≤ 50) (hA : ActsOk F n m) (hok : BsOk Bk m bs)
    (h : PAt stP 70 w pp (.slice la n lc) bv n m F Bk bp c bs) (hlt : (∀ g, PFoot pp m bp g → g < w.heap.size) ∧ (∀ g, (Value.slice la n lc).ownBlock = some g → g < w.heap.size) ∧ ∀ g, bv.ownBlock = some g → g < w.heap.size) :
    Calls Tryd.prog 9 #[.pointer (some ⟨pp, 0, none⟩), x.val] w (DoPost stP 70 tellP w pp (.slice la n lc) bv n m F Bk bp (arun F n Bk 100 ⟨x, 0, c, bs⟩)) := by
  have HCK := Lib.hid (fun u => icheck_fine x u hx)
  obtain ⟨R, hR⟩ : ∃ R, arun F n Bk 100 ⟨x, 0, c, bs⟩ = R := ⟨_, rfl⟩
  have HR0 := Lib.hid hR
  rw [hR]
  have HAC := Lib.hid hA
  have HN := Lib.hid hn
  have HM0 : Hid (AMid stP 70 w ((w.alloc (.cells #[.int .i64 x.t, .int .i64 x.len, .int .i64 x.flow, .int .i64 x.band, .int .i64 x.mark] 54)).alloc (.cells #[.int .i64 0, .int .i64 0, .int .i64 0, .int .i64 0, .int .i64 0] 54)) w.heap.size (w.heap.size + 1) pp (.slice la n lc) bv n m F Bk bp x c bs) := Lib.hid
    ⟨h.gr (((Gr.refl w).alloc _).alloc _), (Did.refl pp m bp w).to (((Gr.refl w).alloc _).alloc _), (xAt_new w x rfl).gr ((Gr.refl _).alloc _), ⟨.zero, xAt_new _ .zero (by simp)⟩, ⟨Nat.le_refl _, by omega, by omega⟩, hlt, hok, hx.1.1⟩
  clear hR hA hok h hlt hn hx
  unfold Itm.val
  go_enter Tryd.func9, Tryd.ntmps9
  go_upto_region 1 with fail
  obtain ⟨w0, hw0⟩ : ∃ u, u = ((w.alloc (.cells #[.int .i64 x.t, .int .i64 x.len, .int .i64 x.flow, .int .i64 x.band, .int .i64 x.mark] 54)).alloc (.cells #[.int .i64 0, .int .i64 0, .int .i64 0, .int .i64 0, .int .i64 0] 54)) := ⟨_, rfl⟩
  rw [← hw0] at HM0
  obtain ⟨xb, hxb⟩ : ∃ u, u = w.heap.size := ⟨_, rfl⟩
  obtain ⟨yb, hyb⟩ : ∃ u, u = w.heap.size + 1 := ⟨_, rfl⟩
  rw [← hyb, ← hxb] at HM0
  rw [← hw0, ← hyb, ← hxb]
  clear hw0 hyb hxb
  obtain ⟨x0, x1, x2, x3, x4⟩ := HM0.out.px.at_
  simp only [Nat.zero_add] at x1 x2 x3 x4
  go_wp2_with (go_at_call 20; refine (HCK.out _).mono ?_; rintro e w1 ⟨rfl, hg⟩; have HM1 := Lib.hid (HM0.out.gr hg); clear hg)
  clear x0 x1 x2 x3 x4
  go_loopw [8, 17] (fun sa sb wr => ∃ (k : Nat) (x1 : Itm) (pc : Nat) (c1 : Nat → Int) (c2 : Nat → BSt), k ≤ 100 ∧ sa = .int .i64 (pc : Int) ∧ sb = .int .i64 (k : Int) ∧ Hid (arun F n Bk (100 - k) ⟨x1, pc, c1, c2⟩ = R) ∧ Hid (AMid stP 70 w wr xb yb pp (.slice la n lc) bv n m F Bk bp x1 c1 c2)) (fun _ s _ => 100 - (intOf s).toNat)
  case atStart => exact ⟨0, x, 0, c, bs, by omega, rfl, rfl, HR0, HM1⟩
  case round =>
    obtain ⟨k, x1, pc, c1, c2, hk, rfl, rfl, HR, HM⟩ := hrel
    clear HR0 HM0 HM1
    by_cases hk1 : k < 100
    · have k0 : (0 : Int) ≤ (k : Int) := by omega
      have k1 : (k : Int) < 100 := by omega
      have k2 : ¬ (k : Int) = 100 := by omega
      obtain ⟨f, hf⟩ : ∃ f, 100 - k = f + 1 := ⟨99 - k, by omega⟩
      have HF := Lib.hid hf
      clear hf
      have p0 := HM.out.prog.c0
      by_cases hpc : pc < n
      · have HPC := Lib.hid hpc
        obtain ⟨lb, lo, rfl, r0, r1, r2⟩ := HM.out.prog.recs.read hpc
        have HKK := Lib.hid (HAC.out.kind hpc)
        have HNX := Lib.hid (show wrap64 ((pc : Int) + 1) = ((pc + 1 : Nat) : Int) from by have := HN.out; unfold wrap64; omega)
        obtain ⟨kd, hkd⟩ : ∃ kd, kd = F pc 0 := ⟨_, rfl⟩
        obtain ⟨A, hAA⟩ : ∃ A, A = F pc 1 := ⟨_, rfl⟩
        obtain ⟨B, hBB⟩ : ∃ B, B = F pc 2 := ⟨_, rfl⟩
        rw [← hkd, ← hAA, ← hBB] at HKK
        rw [← hkd] at r0
        rw [← hAA] at r1
        rw [← hBB] at r2
        have HAA := Lib.hid hAA
        have HBB := Lib.hid hBB
        have HKD := Lib.hid hkd
        clear hAA hBB hkd
        have i0 : (0 : Int) ≤ (pc : Int) := by omega
        have i1 : (pc : Int) < (n : Int) := by omega
        go_upto_region 13 with fail
        clear r0 r1 r2 p0
        rw [HNX.out]
        obtain ⟨wa, hwa⟩ : ∃ u, u = wr.alloc (.cells #[.int .i64 kd, .int .i64 A, .int .i64 B] 28) := ⟨_, rfl⟩
        obtain ⟨ab, hab⟩ : ∃ u, u = wr.heap.size := ⟨_, rfl⟩
        have HAL := Lib.hid (show w.heap.size ≤ ab from by rw [hab]; exact HM.out.did.sav.size)
        have d0 : wa.cell? ⟨ab, 0, none⟩ = some (.int .i64 kd) := by rw [hwa, hab]; simp
        have d1 : wa.cell? ⟨ab, 1, none⟩ = some (.int .i64 A) := by rw [hwa, hab]; simp
        have d2 : wa.cell? ⟨ab, 2, none⟩ = some (.int .i64 B) := by rw [hwa, hab]; simp
        have HM1 := Lib.hid (HM.out.gr (show Gr wr wa from by rw [hwa]; exact (Gr.refl _).alloc _))
        rw [← hwa, ← hab]
        clear hwa hab HM
        obtain ⟨kd0, kd1, HRA, HRB⟩ := HKK.out
        replace HRA := Lib.hid HRA
        replace HRB := Lib.hid HRB
        have HTP : Hid True := Lib.hid trivial
        clear HKK
        obtain rfl | rfl | rfl | rfl | rfl | rfl | rfl | rfl | rfl | rfl : kd = 1 ∨ kd = 2 ∨ kd = 3 ∨ kd = 4 ∨ kd = 5 ∨ kd = 6 ∨ kd = 7 ∨ kd = 8 ∨ kd = 9 ∨ kd = 10 := by omega
        all_goals clear kd0 kd1
        · obtain ⟨z, hz⟩ := HM1.out.py
          obtain ⟨⟨y0, y1, y2, y3, y4⟩, g0, g1, g2, g3, g4⟩ := hz
          obtain ⟨x0, x1', x2, x3, x4⟩ := HM1.out.px.at_
          simp only [Nat.zero_add] at y1 y2 y3 y4 x1' x2 x3 x4
          go_wp2
          obtain ⟨w9, hw9⟩ : ∃ u, u = (((((wa.setCell ⟨yb, 0, none⟩ (.int .i64 x1.t)).setCell ⟨yb, 1, none⟩ (.int .i64 x1.len)).setCell ⟨yb, 2, none⟩ (.int .i64 x1.flow)).setCell ⟨yb, 3, none⟩ (.int .i64 x1.band)).setCell ⟨yb, 4, none⟩ (.int .i64 x1.mark)) := ⟨_, rfl⟩
          obtain ⟨z2, hz2⟩ := HM1.out.py
          have H9 := Lib.hid (show XAt w9 yb x1 ∧ Sav (fun g => g = yb) wa w9 ∧ KeepC wa w9 from by rw [hw9]; exact hz2.set5 x1)
          rw [← hw9]
          clear hw9 hz2 y0 y1 y2 y3 y4 g0 g1 g2 g3 g4 x0 x1' x2 x3 x4
          obtain ⟨q0, q1, q2, q3, q4⟩ := H9.out.1.at_
          simp only [Nat.zero_add] at q1 q2 q3 q4
          refine bodyPost_ret (v := .tuple #[.agg #[.int .i64 x1.t, .int .i64 x1.len, .int .i64 x1.flow, .int .i64 x1.band, .int .i64 x1.mark], .bool true, .nilIface]) (by simp [results, Tryd.results9, go_sem, q0, q1, q2, q3, q4]) rfl ?_
          have hR := HR.out
          rw [HF.out, arun_pass (s := ⟨x1, pc, c1, c2⟩) HPC.out HKD.out.symm] at hR
          subst hR
          exact ⟨rfl, HM1.out.own HM1.out.ax.2.1 H9.out.2.1 H9.out.2.2⟩
        · obtain ⟨z, hz⟩ := HM1.out.py
          obtain ⟨⟨y0, y1, y2, y3, y4⟩, g0, g1, g2, g3, g4⟩ := hz
          obtain ⟨x0, x1', x2, x3, x4⟩ := HM1.out.px.at_
          simp only [Nat.zero_add] at y1 y2 y3 y4 x1' x2 x3 x4
          go_wp2
          obtain ⟨w9, hw9⟩ : ∃ u, u = (((((wa.setCell ⟨yb, 0, none⟩ (.int .i64 x1.t)).setCell ⟨yb, 1, none⟩ (.int .i64 x1.len)).setCell ⟨yb, 2, none⟩ (.int .i64 x1.flow)).setCell ⟨yb, 3, none⟩ (.int .i64 x1.band)).setCell ⟨yb, 4, none⟩ (.int .i64 x1.mark)) := ⟨_, rfl⟩
          obtain ⟨z2, hz2⟩ := HM1.out.py
          have H9 := Lib.hid (show XAt w9 yb x1 ∧ Sav (fun g => g = yb) wa w9 ∧ KeepC wa w9 from by rw [hw9]; exact hz2.set5 x1)
          rw [← hw9]
          clear hw9 hz2 y0 y1 y2 y3 y4 g0 g1 g2 g3 g4 x0 x1' x2 x3 x4
          obtain ⟨q0, q1, q2, q3, q4⟩ := H9.out.1.at_
          simp only [Nat.zero_add] at q1 q2 q3 q4
          refine bodyPost_ret (v := .tuple #[.agg #[.int .i64 x1.t, .int .i64 x1.len, .int .i64 x1.flow, .int .i64 x1.band, .int .i64 x1.mark], .bool false, .nilIface]) (by simp [results, Tryd.results9, go_sem, q0, q1, q2, q3, q4]) rfl ?_
          have hR := HR.out
          rw [HF.out, arun_drop (s := ⟨x1, pc, c1, c2⟩) HPC.out HKD.out.symm] at hR
          subst hR
          exact ⟨rfl, HM1.out.own HM1.out.ax.2.1 H9.out.2.1 H9.out.2.2⟩
        · have u4 := HM1.out.px.at_.c4
          have e4 := HM1.out.px.f4
          simp only [Nat.zero_add] at u4
          go_wp2
          have HM2 := Lib.hid (HM1.out.setx (i := 4) (v := A) (x' := { x1 with mark := A }) (by omega) (HM1.out.px.turn rfl rfl rfl rfl rfl) rfl)
          clear u4 e4
          go_roundw
          case measure => simp [intOf]; omega
          case rel => exact ⟨k + 1, _, pc + 1, _, _, by omega, by go_num, by go_num, Lib.hid (by have h := HR.out; rw [HF.out, arun_next (s := ⟨x1, pc, c1, c2⟩) HPC.out (show 2 < F pc 0 from by rw [← HKD.out]; decide)] at h; rw [show 100 - (k + 1) = f from by have := HF.out; omega, ← h]; congr 1; simp [astep, ← HKD.out, ← HAA.out]), HM2⟩
        · have u3 := HM1.out.px.at_.c3
          have e3 := HM1.out.px.f3
          simp only [Nat.zero_add] at u3
          go_wp2
          have HM2 := Lib.hid (HM1.out.setx (i := 3) (v := A) (x' := { x1 with band := A }) (by omega) (HM1.out.px.turn rfl rfl rfl rfl rfl) rfl)
          clear u3 e3
          go_roundw
          case measure => simp [intOf]; omega
          case rel => exact ⟨k + 1, _, pc + 1, _, _, by omega, by go_num, by go_num, Lib.hid (by have h := HR.out; rw [HF.out, arun_next (s := ⟨x1, pc, c1, c2⟩) HPC.out (show 2 < F pc 0 from by rw [← HKD.out]; decide)] at h; rw [show 100 - (k + 1) = f from by have := HF.out; omega, ← h]; congr 1; simp [astep, ← HKD.out, ← HAA.out]), HM2⟩
        · have u2 := HM1.out.px.at_.c2
          have e2 := HM1.out.px.f2
          simp only [Nat.zero_add] at u2
          go_wp2
          have HM2 := Lib.hid (HM1.out.setx (i := 2) (v := A) (x' := { x1 with flow := A }) (by omega) (HM1.out.px.turn rfl rfl rfl rfl rfl) rfl)
          clear u2 e2
          go_roundw
          case measure => simp [intOf]; omega
          case rel => exact ⟨k + 1, _, pc + 1, _, _, by omega, by go_num, by go_num, Lib.hid (by have h := HR.out; rw [HF.out, arun_next (s := ⟨x1, pc, c1, c2⟩) HPC.out (show 2 < F pc 0 from by rw [← HKD.out]; decide)] at h; rw [show 100 - (k + 1) = f from by have := HF.out; omega, ← h]; congr 1; simp [astep, ← HKD.out, ← HAA.out]), HM2⟩
        · obtain ⟨ii, hii⟩ : ∃ ii : Nat, A = (ii : Int) := ⟨A.toNat, by have := HRA.out (by decide); omega⟩
          subst hii
          have HII : Hid (ii < 8) := Lib.hid (by have := HRA.out (by decide); have h2 := HTP.out; rw [show topA n m 6 = 7 from rfl] at this; omega)
          go_upto_region 24 with fail
          have D1 := Lib.hid d1
          refine wp_region_gg (n := 11) [Fg.eq (.pointer (some ⟨pp, 0, none⟩)), Fg.eq (.pointer (some ⟨ab, 1, none⟩)), Fg.eq (.int .i64 (ii : Int)), Fg.eq (.pointer (some ⟨pp, 0, none⟩)), Fg.eq (.pointer (some ⟨pp, 2, none⟩)), Fg.eq (.pointer (some ⟨pp, 2 + ii, none⟩)), Fg.eq (.int .i64 (c1 ii)), Fg.eq (.int .i64 (wrap64 (c1 ii + 1))), Fg.eq (.pointer (some ⟨pp, 0, none⟩)), Fg.eq (.pointer (some ⟨pp, 2, none⟩)), Fg.eq (.pointer (some ⟨pp, 2 + ii, none⟩))] [65, 66, 67, 68, 69, 70, 71, 72, 73, 74, 75] (by kernel_rfl) (by kernel_rfl) (by kernel_rfl) ?_ ?_
          · intro L i o' ac w1 hi ho hA
            have hgr : Gr wa w1 := (Gr.refl wa).drew.trans hA.gr
            match i, hi with
            | 0, _ =>
              obtain rfl := Option.some.inj ho
              exact gg_plain rfl (gstep_val (q_move rfl (show ac.eval (.tmp 0) = .pointer (some ⟨pp, 0, none⟩) from hA.other 0 (by decide))) rfl)
            | 1, _ =>
              obtain rfl := Option.some.inj ho
              exact gg_plain rfl (gstep_val (adp_fa_action_Action_1 rfl (show ac.eval (.tmp 9) = .pointer (some ⟨ab, 0, none⟩) from hA.other 9 (by decide))) rfl)
            | 2, _ =>
              obtain rfl := Option.some.inj ho
              exact gg_plain rfl (gstep_val (q_loadI rfl (hA.fact 1 (hA.dep 1 (by kernel_rfl) (by decide))) (hgr.cell D1.out)) rfl)
            | 3, _ =>
              obtain rfl := Option.some.inj ho
              exact gg_plain rfl (gstep_val (q_nil rfl (hA.fact 0 (hA.dep 0 (by kernel_rfl) (by decide)))) rfl)
            | 4, _ =>
              obtain rfl := Option.some.inj ho
              exact gg_plain rfl (gstep_val (adp_fa_action_Program_2 rfl (hA.fact 3 (hA.dep 3 (by kernel_rfl) (by decide)))) rfl)
            | 5, _ =>
              obtain rfl := Option.some.inj ho
              exact gg_plain rfl (gstep_val (adp_idx__8_int rfl (hA.fact 4 (hA.dep 4 (by kernel_rfl) (by decide))) (hA.fact 2 (hA.dep 2 (by kernel_rfl) (by decide))) (HII.out)) rfl)
            | 6, _ =>
              obtain rfl := Option.some.inj ho
              exact gg_plain rfl (gstep_val (q_loadI rfl (hA.fact 5 (hA.dep 5 (by kernel_rfl) (by decide))) (hgr.cell (HM1.out.prog.cc ii HII.out))) rfl)
            | 7, _ =>
              obtain rfl := Option.some.inj ho
              exact gg_plain rfl (gstep_val (adp_add rfl (hA.fact 6 (hA.dep 6 (by kernel_rfl) (by decide))) rfl (show IntKind.i64.wrap (c1 ii + 1) = wrap64 (c1 ii + 1) from by unfold wrap64; exact IntKind.wrap_i64 _)) rfl)
            | 8, _ =>
              obtain rfl := Option.some.inj ho
              exact gg_plain rfl (gstep_val (q_nil rfl (hA.fact 0 (hA.dep 0 (by kernel_rfl) (by decide)))) rfl)
            | 9, _ =>
              obtain rfl := Option.some.inj ho
              exact gg_plain rfl (gstep_val (adp_fa_action_Program_2 rfl (hA.fact 8 (hA.dep 8 (by kernel_rfl) (by decide)))) rfl)
            | 10, _ =>
              obtain rfl := Option.some.inj ho
              exact gg_plain rfl (gstep_val (adp_idx__8_int rfl (hA.fact 9 (hA.dep 9 (by kernel_rfl) (by decide))) (hA.fact 2 (hA.dep 2 (by kernel_rfl) (by decide))) (HII.out)) rfl)
            | k + 11, hk => exact absurd (show k + 11 < 11 from hk) (by omega)
          · intro vs w5 hg5 hv
            have HGX := Lib.hid ((Gr.refl wa).drew.trans hg5)
            have v72 : vs 7 = .int .i64 (wrap64 (c1 ii + 1)) := hv 7 (by omega)
            have v75 : vs 10 = .pointer (some ⟨pp, 2 + ii, none⟩) := hv 10 (by omega)
            clear hv hg5
            simp only [putN, List.drop_succ_cons, List.drop_zero, List.getElem?_cons_succ, List.getElem?_cons_zero]
            generalize vs 7 = z72 at *
            subst v72
            generalize vs 10 = z75 at *
            subst v75
            generalize vs 0 = z65 at *
            generalize vs 1 = z66 at *
            generalize vs 2 = z67 at *
            generalize vs 3 = z68 at *
            generalize vs 4 = z69 at *
            generalize vs 5 = z70 at *
            generalize vs 6 = z71 at *
            generalize vs 8 = z73 at *
            generalize vs 9 = z74 at *
            have HM5 := Lib.hid (HM1.out.gr HGX.out)
            have u0 := HM5.out.prog.cc ii HII.out
            have e0 := HM5.out.prog.ff ii HII.out
            go_wp2
            have HM6 := Lib.hid (HM5.out.count HII.out (wrap64 (c1 ii + 1)))
            clear u0 e0
            go_roundw
            case measure => simp [intOf]; omega
            case rel => exact ⟨k + 1, _, pc + 1, _, _, by omega, by go_num, by go_num, Lib.hid (by have h := HR.out; rw [HF.out, arun_next (s := ⟨x1, pc, c1, c2⟩) HPC.out (show 2 < F pc 0 from by rw [← HKD.out]; decide)] at h; rw [show 100 - (k + 1) = f from by have := HF.out; omega, ← h]; congr 1; simp [astep, ← HKD.out, ← HAA.out]), HM6⟩
        · obtain ⟨ii, hii⟩ : ∃ ii : Nat, A = (ii : Int) := ⟨A.toNat, by have := HRA.out (by decide); omega⟩
          subst hii
          go_wp2
          go_roundw
          case measure => simp [intOf]; omega
          case rel => exact ⟨k + 1, _, ii, _, _, by omega, by go_num, by go_num, Lib.hid (by have h := HR.out; rw [HF.out, arun_next (s := ⟨x1, pc, c1, c2⟩) HPC.out (show 2 < F pc 0 from by rw [← HKD.out]; decide)] at h; rw [show 100 - (k + 1) = f from by have := HF.out; omega, ← h]; congr 1; simp [astep, ← HKD.out, ← HAA.out]), HM1⟩
        · obtain ⟨jj, hjj⟩ : ∃ jj : Nat, B = (jj : Int) := ⟨B.toNat, by have := HRB.out (by decide); omega⟩
          subst hjj
          obtain ⟨x0, x1', x2, x3, x4⟩ := HM1.out.px.at_
          simp only [Nat.zero_add] at x1' x2 x3 x4
          by_cases hc : x1.mark = A
          · go_wp2
            clear x0 x1' x2 x3 x4
            go_roundw
            case measure => simp [intOf]; omega
            case rel => exact ⟨k + 1, _, jj, _, _, by omega, by go_num, by go_num, Lib.hid (by have h := HR.out; rw [HF.out, arun_next (s := ⟨x1, pc, c1, c2⟩) HPC.out (show 2 < F pc 0 from by rw [← HKD.out]; decide)] at h; rw [show 100 - (k + 1) = f from by have := HF.out; omega, ← h]; congr 1; simp [astep, ← HKD.out, ← HAA.out, ← HBB.out, hc]), HM1⟩
          · go_wp2
            clear x0 x1' x2 x3 x4
            go_roundw
            case measure => simp [intOf]; omega
            case rel => exact ⟨k + 1, _, pc + 1, _, _, by omega, by go_num, by go_num, Lib.hid (by have h := HR.out; rw [HF.out, arun_next (s := ⟨x1, pc, c1, c2⟩) HPC.out (show 2 < F pc 0 from by rw [← HKD.out]; decide)] at h; rw [show 100 - (k + 1) = f from by have := HF.out; omega, ← h]; congr 1; simp [astep, ← HKD.out, ← HAA.out, hc]), HM1⟩
        · obtain ⟨jj, hjj⟩ : ∃ jj : Nat, B = (jj : Int) := ⟨B.toNat, by have := HRB.out (by decide); omega⟩
          subst hjj
          obtain ⟨ii, hii⟩ : ∃ ii : Nat, A = (ii : Int) := ⟨A.toNat, by have := HRA.out (by decide); omega⟩
          subst hii
          have HII : Hid (ii < m) := Lib.hid (by have := HRA.out (by decide); rw [show topA n m 9 = (m : Int) - 1 from rfl] at this; omega)
          obtain ⟨gb, ob, cb, rfl, hpt⟩ := HM1.out.prog.ptr HII.out
          obtain ⟨ok, s', htk⟩ : ∃ ok s', (Bk ii).take (c2 ii) x1.t x1.len = (ok, s') := ⟨_, _, rfl⟩
          have HTQ := Lib.hid htk
          have hpl := HM1.out.lt.1 (bp ii) (.inr ⟨ii, HII.out, rfl⟩)
          have H0 := Lib.hid (show wa.cell? ⟨pp, 1, none⟩ = some (.slice (some ⟨gb, ob, none⟩) m cb) ∧ pp ≠ bp ii from ⟨HM1.out.prog.c1, fun e => HM1.out.prog.np ii HII.out e.symm⟩)
          have H1 := Lib.hid (show wa.cell? ⟨gb, ob + ii, none⟩ = some (.pointer (some ⟨bp ii, 0, none⟩)) ∧ gb ≠ bp ii from ⟨hpt, fun e => HM1.out.prog.nb gb rfl (.inr ⟨ii, HII.out, e⟩)⟩)
          have HXB := Lib.hid (show xb ≠ bp ii from fun e => by have := HM1.out.ax.1; omega)
          have HAB := Lib.hid (show ab ≠ bp ii from fun e => by have := HAL.out; omega)
          have X0 := Lib.hid HM1.out.px.at_.c0
          have X1 := Lib.hid HM1.out.px.at_.c1
          have HTAKE : Hid (∀ w1, Gr wa w1 → Calls Tryd.prog 21 #[.pointer (some ⟨bp ii, 0, none⟩), .int .i64 x1.t, .int .i64 x1.len] w1 fun e w' => e = .returned (.bool ok) ∧ stP.at_ w' (bp ii) (Bk ii) s' ∧ Only (bp ii) 3 wa w') := Lib.hid (fun w1 hg => by
            have h1 := take_any (bp ii) (Bk ii) (c2 ii) x1.t x1.len w1 (stP.keep (HM1.out.prog.st ii HII.out) (hg.block (stP.mine (HM1.out.prog.st ii HII.out)).lt) (.of_gr hg)) (HM1.out.ok ii HII.out) (by have := HM1.out.t0; omega)
            rw [HTQ.out] at h1
            exact h1.mono fun e w' ⟨a1, a2, a3⟩ => ⟨a1, a2, (Only.of_gr hg).trans a3⟩)
          clear hpt htk hpl
          go_upto_region 30 with fail
          have D1 := Lib.hid d1
          refine wp_region_l (n := 14) (fun b u => if b then stP.at_ u (bp ii) (Bk ii) s' ∧ Only (bp ii) 3 wa u else Gr wa u) 12 [Fv.of 0 (Fg.eq (.pointer (some ⟨pp, 0, none⟩))), Fv.of 1 (Fg.eq (.pointer (some ⟨pp, 0, none⟩))), Fv.of 2 (Fg.eq (.pointer (some ⟨pp, 1, none⟩))), Fv.of 3 (Fg.eq (.slice (some ⟨gb, ob, none⟩) m cb)), Fv.of 4 (Fg.eq (.pointer (some ⟨ab, 1, none⟩))), Fv.of 5 (Fg.eq (.int .i64 (ii : Int))), Fv.of 6 (Fg.eq (.pointer (some ⟨gb, ob + ii, none⟩))), Fv.of 7 (Fg.eq (.pointer (some ⟨bp ii, 0, none⟩))), Fv.of 8 (Fg.eq (.pointer (some ⟨xb, 0, none⟩))), Fv.of 9 (Fg.eq (.int .i64 x1.t)), Fv.of 10 (Fg.eq (.pointer (some ⟨xb, 1, none⟩))), Fv.of 11 (Fg.eq (.int .i64 x1.len)), Fv.of 12 (Fg.eq (.bool ok)), Fv.of 13 (Fg.eq (.bool (!ok)))] [89, 90, 91, 92, 93, 94, 95, 96, 97, 98, 99, 100, 101, 102] ((Gr.refl wa).drew) (by decide) (by kernel_rfl) (by kernel_rfl) (by kernel_rfl) (by kernel_rfl) ?_ ?_
          · intro L i o ac w1 hi ho hA
            have hcell : ∀ {pa : Addr} {u : Value}, wa.cell? pa = some u → pa.block ≠ bp ii → w1.cell? pa = some u := fun {pa u} hc hp => HeadAtL.any (R := fun u' => u'.cell? pa = some u) hA (fun b u' h => by cases b with | false => exact Gr.cell h hc | true => exact (Sav.of_only h.2).cell hc hp)
            match i, hi with
            | 0, _ =>
              obtain rfl := Option.some.inj ho
              exact lstep_val hA (by decide) (q_move rfl (show ac.eval (.tmp 0) = .pointer (some ⟨pp, 0, none⟩) from hA.other 0 (by decide))) (fun _ hf => hf)
            | 1, _ =>
              obtain rfl := Option.some.inj ho
              exact lstep_val hA (by decide) (q_nil rfl (hA.fact 0 (hA.dep 0 (by kernel_rfl) (by decide)))) (fun _ hf => hf)
            | 2, _ =>
              obtain rfl := Option.some.inj ho
              exact lstep_val hA (by decide) (adp_fa_action_Program_1 rfl (hA.fact 1 (hA.dep 1 (by kernel_rfl) (by decide)))) (fun _ hf => hf)
            | 3, _ =>
              obtain rfl := Option.some.inj ho
              exact lstep_val hA (by decide) (adp_loadS____bucket_State rfl (hA.fact 2 (hA.dep 2 (by kernel_rfl) (by decide))) (hcell H0.out.1 H0.out.2)) (fun _ hf => hf)
            | 4, _ =>
              obtain rfl := Option.some.inj ho
              exact lstep_val hA (by decide) (adp_fa_action_Action_1 rfl (show ac.eval (.tmp 9) = .pointer (some ⟨ab, 0, none⟩) from hA.other 9 (by decide))) (fun _ hf => hf)
            | 5, _ =>
              obtain rfl := Option.some.inj ho
              exact lstep_val hA (by decide) (q_loadI rfl (hA.fact 4 (hA.dep 4 (by kernel_rfl) (by decide))) (hcell D1.out HAB.out)) (fun _ hf => hf)
            | 6, _ =>
              obtain rfl := Option.some.inj ho
              exact lstep_val hA (by decide) (adp_idxs____bucket_State rfl (hA.fact 3 (hA.dep 3 (by kernel_rfl) (by decide))) (hA.fact 5 (hA.dep 5 (by kernel_rfl) (by decide))) (HII.out)) (fun _ hf => hf)
            | 7, _ =>
              obtain rfl := Option.some.inj ho
              exact lstep_val hA (by decide) (adp_loadP__bucket_State rfl (hA.fact 6 (hA.dep 6 (by kernel_rfl) (by decide))) (hcell H1.out.1 H1.out.2)) (fun _ hf => hf)
            | 8, _ =>
              obtain rfl := Option.some.inj ho
              exact lstep_val hA (by decide) (adp_fa_api_Item_0 rfl (show ac.eval (.tmp 3) = .pointer (some ⟨xb, 0, none⟩) from hA.other 3 (by decide))) (fun _ hf => hf)
            | 9, _ =>
              obtain rfl := Option.some.inj ho
              exact lstep_val hA (by decide) (q_loadI rfl (hA.fact 8 (hA.dep 8 (by kernel_rfl) (by decide))) (hcell X0.out HXB.out)) (fun _ hf => hf)
            | 10, _ =>
              obtain rfl := Option.some.inj ho
              exact lstep_val hA (by decide) (adp_fa_api_Item_1 rfl (show ac.eval (.tmp 3) = .pointer (some ⟨xb, 0, none⟩) from hA.other 3 (by decide))) (fun _ hf => hf)
            | 11, _ =>
              obtain rfl := Option.some.inj ho
              exact lstep_val hA (by decide) (q_loadI rfl (hA.fact 10 (hA.dep 10 (by kernel_rfl) (by decide))) (hcell X1.out HXB.out)) (fun _ hf => hf)
            | 12, _ =>
              obtain rfl := Option.some.inj ho
              refine lstep_call hA rfl (adp_call___millrace_bucket_State__Take rfl rfl (hA.fact 7 (hA.dep 7 (by kernel_rfl) (by decide))) (hA.fact 9 (hA.dep 9 (by kernel_rfl) (by decide))) (hA.fact 11 (hA.dep 11 (by kernel_rfl) (by decide)))) (fun hF => (HTAKE.out w1 hF).mono (fun e w' ⟨h1, h2⟩ => ⟨_, h1, h2, fun _ hf => hf, fun j hj v hv => ?_⟩))
              match j, hv with
              | 0, hv => exact hv
              | 1, hv => exact hv
              | 2, hv => exact hv
              | 3, hv => exact hv
              | 4, hv => exact hv
              | 5, hv => exact hv
              | 6, hv => exact hv
              | 7, hv => exact hv
              | 8, hv => exact hv
              | 9, hv => exact hv
              | 10, hv => exact hv
              | 11, hv => exact hv
              | 12, hv => exact hv
              | 13, hv => exact hv
              | j + 14, _ => trivial
            | 13, _ =>
              obtain rfl := Option.some.inj ho
              exact lstep_val hA (by decide) (adp_not rfl (hA.fact 12 (hA.dep 12 (by kernel_rfl) (by decide))) rfl) (fun _ hf => hf)
            | k + 14, hk => exact absurd (show k + 14 < 14 from hk) (by omega)
          · intro vs w5 hI5 hv
            have HTK := Lib.hid hI5
            have v102 : vs 13 = .bool (!ok) := hv 13 (by omega)
            clear hv hI5
            simp only [putN, List.drop_succ_cons, List.drop_zero, List.getElem?_cons_succ, List.getElem?_cons_zero]
            generalize vs 13 = z102 at *
            subst v102
            generalize vs 0 = z89 at *
            generalize vs 1 = z90 at *
            generalize vs 2 = z91 at *
            generalize vs 3 = z92 at *
            generalize vs 4 = z93 at *
            generalize vs 5 = z94 at *
            generalize vs 6 = z95 at *
            generalize vs 7 = z96 at *
            generalize vs 8 = z97 at *
            generalize vs 9 = z98 at *
            generalize vs 10 = z99 at *
            generalize vs 11 = z100 at *
            generalize vs 12 = z101 at *
            have HM5 := Lib.hid (HM1.out.take HII.out HTQ.out HTK.out.1 HTK.out.2)
            have v2 : w5.cell? ⟨ab, 2, none⟩ = some (.int .i64 (jj : Int)) := (Sav.of_only HTK.out.2).cell (p := ⟨ab, 2, none⟩) d2 HAB.out
            cases ok with
            | true =>
              go_wp2
              go_roundw
              case measure => simp [intOf]; omega
              case rel => exact ⟨k + 1, _, pc + 1, _, _, by omega, by go_num, by go_num, Lib.hid (by have h := HR.out; rw [HF.out, arun_next (s := ⟨x1, pc, c1, c2⟩) HPC.out (show 2 < F pc 0 from by rw [← HKD.out]; decide)] at h; rw [show 100 - (k + 1) = f from by have := HF.out; omega, ← h]; congr 1; simp [astep, ← HKD.out, ← HAA.out, HTQ.out]), HM5⟩
            | false =>
              go_wp2
              go_roundw
              case measure => simp [intOf]; omega
              case rel => exact ⟨k + 1, _, jj, _, _, by omega, by go_num, by go_num, Lib.hid (by have h := HR.out; rw [HF.out, arun_next (s := ⟨x1, pc, c1, c2⟩) HPC.out (show 2 < F pc 0 from by rw [← HKD.out]; decide)] at h; rw [show 100 - (k + 1) = f from by have := HF.out; omega, ← h]; congr 1; simp [astep, ← HKD.out, ← HAA.out, ← HBB.out, HTQ.out]), HM5⟩
        · obtain ⟨jj, hjj⟩ : ∃ jj : Nat, B = (jj : Int) := ⟨B.toNat, by have := HRB.out (by decide); omega⟩
          subst hjj
          obtain ⟨x0, x1', x2, x3, x4⟩ := HM1.out.px.at_
          simp only [Nat.zero_add] at x1' x2 x3 x4
          by_cases hc : A < x1.len
          · go_wp2
            clear x0 x1' x2 x3 x4
            go_roundw
            case measure => simp [intOf]; omega
            case rel => exact ⟨k + 1, _, jj, _, _, by omega, by go_num, by go_num, Lib.hid (by have h := HR.out; rw [HF.out, arun_next (s := ⟨x1, pc, c1, c2⟩) HPC.out (show 2 < F pc 0 from by rw [← HKD.out]; decide)] at h; rw [show 100 - (k + 1) = f from by have := HF.out; omega, ← h]; congr 1; simp [astep, ← HKD.out, ← HAA.out, ← HBB.out, hc]), HM1⟩
          · go_wp2
            clear x0 x1' x2 x3 x4
            go_roundw
            case measure => simp [intOf]; omega
            case rel => exact ⟨k + 1, _, pc + 1, _, _, by omega, by go_num, by go_num, Lib.hid (by have h := HR.out; rw [HF.out, arun_next (s := ⟨x1, pc, c1, c2⟩) HPC.out (show 2 < F pc 0 from by rw [← HKD.out]; decide)] at h; rw [show 100 - (k + 1) = f from by have := HF.out; omega, ← h]; congr 1; simp [astep, ← HKD.out, ← HAA.out, hc]), HM1⟩
      · have i1 : ¬ (pc : Int) < (n : Int) := by omega
        obtain ⟨z, hz⟩ := HM.out.py
        obtain ⟨⟨y0, y1, y2, y3, y4⟩, g0, g1, g2, g3, g4⟩ := hz
        obtain ⟨x0, x1', x2, x3, x4⟩ := HM.out.px.at_
        simp only [Nat.zero_add] at y1 y2 y3 y4 x1' x2 x3 x4
        go_wp2
        obtain ⟨w9, hw9⟩ : ∃ u, u = (((((wr.setCell ⟨yb, 0, none⟩ (.int .i64 x1.t)).setCell ⟨yb, 1, none⟩ (.int .i64 x1.len)).setCell ⟨yb, 2, none⟩ (.int .i64 x1.flow)).setCell ⟨yb, 3, none⟩ (.int .i64 x1.band)).setCell ⟨yb, 4, none⟩ (.int .i64 x1.mark)) := ⟨_, rfl⟩
        obtain ⟨z2, hz2⟩ := HM.out.py
        have H9 := Lib.hid (show XAt w9 yb x1 ∧ Sav (fun g => g = yb) wr w9 ∧ KeepC wr w9 from by rw [hw9]; exact hz2.set5 x1)
        rw [← hw9]
        clear hw9 hz2 y0 y1 y2 y3 y4 g0 g1 g2 g3 g4 x0 x1' x2 x3 x4
        obtain ⟨q0, q1, q2, q3, q4⟩ := H9.out.1.at_
        simp only [Nat.zero_add] at q1 q2 q3 q4
        refine bodyPost_ret (v := .tuple #[.agg #[.int .i64 x1.t, .int .i64 x1.len, .int .i64 x1.flow, .int .i64 x1.band, .int .i64 x1.mark], .bool true, .nilIface]) (by simp [results, Tryd.results9, go_sem, q0, q1, q2, q3, q4]) rfl ?_
        have hR := HR.out
        rw [HF.out, arun_out (s := ⟨x1, pc, c1, c2⟩) (Nat.le_of_not_lt hpc)] at hR
        subst hR
        exact ⟨rfl, HM.out.own HM.out.ax.2.1 H9.out.2.1 H9.out.2.2⟩
    · obtain rfl : k = 100 := by omega
      obtain ⟨z, hz⟩ := HM.out.py
      obtain ⟨⟨y0, y1, y2, y3, y4⟩, g0, g1, g2, g3, g4⟩ := hz
      obtain ⟨x0, x1', x2, x3, x4⟩ := HM.out.px.at_
      simp only [Nat.zero_add] at y1 y2 y3 y4 x1' x2 x3 x4
      go_wp2
      obtain ⟨w9, hw9⟩ : ∃ u, u = (((((wr.setCell ⟨yb, 0, none⟩ (.int .i64 x1.t)).setCell ⟨yb, 1, none⟩ (.int .i64 x1.len)).setCell ⟨yb, 2, none⟩ (.int .i64 x1.flow)).setCell ⟨yb, 3, none⟩ (.int .i64 x1.band)).setCell ⟨yb, 4, none⟩ (.int .i64 x1.mark)) := ⟨_, rfl⟩
      obtain ⟨z2, hz2⟩ := HM.out.py
      have H9 := Lib.hid (show XAt w9 yb x1 ∧ Sav (fun g => g = yb) wr w9 ∧ KeepC wr w9 from by rw [hw9]; exact hz2.set5 x1)
      rw [← hw9]
      clear hw9 hz2 y0 y1 y2 y3 y4 g0 g1 g2 g3 g4 x0 x1' x2 x3 x4
      obtain ⟨q0, q1, q2, q3, q4⟩ := H9.out.1.at_
      simp only [Nat.zero_add] at q1 q2 q3 q4
      refine bodyPost_ret (v := .tuple #[.agg #[.int .i64 x1.t, .int .i64 x1.len, .int .i64 x1.flow, .int .i64 x1.band, .int .i64 x1.mark], .bool false, .iface 36 (.int .i64 11)]) (by simp [results, Tryd.results9, go_sem, q0, q1, q2, q3, q4]) rfl ?_
      have hR := HR.out
      rw [Nat.sub_self, arun_zero] at hR
      subst hR
      exact ⟨rfl, HM.out.own HM.out.ax.2.1 H9.out.2.1 H9.out.2.2⟩
end Go.Proofs.YtjghgafeoimgiaaDoor

/-
  FilterMeans, walked.
-/
import Derived.Test.YthkccohigoejgaaDoorFltMD
import Derived.Test.YthkccohigoejgaaDoorRegG
namespace Go.Proofs.YthkccohigoejgaaDoor
open Go Go.RowKit

section
variable {ev : Operand → Value} {o : Oper} {w : World} {x y z : Operand} {u : Value}
theorem l_nilEq (ho : o.op = .binOp .eql 33 x (.const .nilIface) 33) (h : ev x = .nilIface) (k : ev (.const .nilIface) = .nilIface) : (execOp ev o).run Tryd.prog w = .ok (.value (.bool true)) w := by simp [execOp, ho, h, k, eqGuard, go_sem]
theorem l_neNil {t : TypeId} {v : Value} (ho : o.op = .binOp .neq 31 x y 31) (h : ev x = .iface t v) (k : ev y = .nilIface) : (execOp ev o).run Tryd.prog w = .ok (.value (.bool true)) w := by simp [execOp, ho, h, k, go_sem]
theorem l_pickT (ho : o.op = .pick x y z) (h : ev x = .bool true) (k : ev y = u) : (execOp ev o).run Tryd.prog w = .ok (.value u) w := by simp [execOp, ho, h, k, go_sem]
theorem l_same {b : Bool} (ho : o.op = .binOp .eql 4 x y 4) (h : ev x = .bool b) (k : ev y = .bool b) : (execOp ev o).run Tryd.prog w = .ok (.value (.bool true)) w := by
  have := m_eqlB (w := w) ho h k
  rwa [beq_self_eq_true] at this
end
theorem FB2.new (w : World) (pl : Int) : HB (w.alloc (.cells #[.int .i64 0, .int .i64 pl] 27)) w.heap.size #[.int .i64 0, .int .i64 pl] 27 := HB.new w _ _
set_option maxRecDepth 100000 in
set_option maxHeartbeats 8000000 in
theorem filterMeans_walk (W : World) (HE : Env W) (t : ByteArray) (x : Itm) : Calls Tryd.prog 3 #[.string t, x.val] W fun e W' => e = .returned (.bool true) ∧ Gr W W' := by
  have HEN := Lib.hid HE
  clear HE
  obtain ⟨n, hn⟩ : ∃ n, n = t.size := ⟨_, rfl⟩
  have HN := Lib.hid hn
  have hlen : ∀ w ty, (Builtin.len_ #[9] ty #[.string t]).run Tryd.prog w = .ok (.int .i64 (n : Int)) w := fun w ty => by rw [HN.out]; simp [go_sem, Tryd.underlying9]
  clear hn
  unfold Itm.val
  by_cases hbig : 2000 < n
  · have n0 : (2000 : Int) < (n : Int) := by omega
    go_enter Tryd.func3, Tryd.ntmps3
    go_wp2
    go_ret
    exact ⟨rfl, (Gr.refl W).alloc _⟩
  have n0 : (n : Int) ≤ 2000 := by omega
  have HT2 : Hid (t.size ≤ 2000) := Lib.hid (by rw [← HN.out]; omega)
  clear hbig
  go_enter Tryd.func3, Tryd.ntmps3
  go_upto_region 3 with fail
  obtain ⟨q, hq⟩ : ∃ q, q = W.heap.size := ⟨_, rfl⟩
  obtain ⟨w1, hw1⟩ : ∃ w1, w1 = W.alloc (.cells #[.int .i64 x.t, .int .i64 x.len, .int .i64 x.flow, .int .i64 x.band, .int .i64 x.mark] 23) := ⟨_, rfl⟩
  have HW1 : Hid (HB w1 q #[.int .i64 x.t, .int .i64 x.len, .int .i64 x.flow, .int .i64 x.band, .int .i64 x.mark] 23 ∧ Gr W w1) := Lib.hid (by
    rw [hw1, hq]
    exact ⟨HB.new _ _ _, (Gr.refl W).alloc _⟩)
  rw [← hw1, ← hq]
  clear hw1 hq
  cases hp : pAll t with
  | err c R =>
    have HP := Lib.hid hp
    clear hp
    go_wp2_with (first
      | (go_at_call 6
         refine (rparse_any (HEN.out.gr HW1.out.2) t HT2.out).mono ?_
         rintro E w2 hq
         rw [HP.out] at hq
         obtain ⟨v, pl, rfl, _, hc, hg⟩ := hq
         have HG2 := Lib.hid hg
         clear hg))
    all_goals (try (exfalso; omega))
    go_ret
    exact ⟨rfl, (HW1.out.2.trans HG2.out).alloc _⟩
  | ok f R =>
    have HP := Lib.hid hp
    clear hp
    go_upto_region 4 with (first
      | (go_at_call 6
         refine (rparse_any (HEN.out.gr HW1.out.2) t HT2.out).mono ?_
         rintro E w2 hq
         rw [HP.out] at hq
         obtain ⟨v, pl, rfl, hr, hg⟩ := hq
         obtain ⟨vb, rfl⟩ := hr.ptr
         have HG2 := Lib.hid hg
         have HR2 := Lib.hid hr
         clear hg hr))
    have HFB := Lib.hid (FB2.new w2 pl)
    have HG3 := Lib.hid (HG2.out.trans ((Gr.refl w2).alloc (.cells #[.int .i64 0, .int .i64 pl] 27)))
    have HG23 := Lib.hid ((Gr.refl w2).alloc (.cells #[.int .i64 0, .int .i64 pl] 27))
    obtain ⟨w3, hw3⟩ : ∃ w3, w3 = w2.alloc (.cells #[.int .i64 0, .int .i64 pl] 27) := ⟨_, rfl⟩
    rw [← hw3] at HFB HG3 HG23 ⊢
    clear hw3
    have e0 : w3.cell? ⟨w2.heap.size, 0, none⟩ = some (.int .i64 0) := HFB.out.c 0 rfl
    go_upto_region 7 with (first
      | (go_at_call 7
         refine (parse_any (HEN.out.gr (HW1.out.2.trans HG3.out)) t HT2.out).mono ?_
         rintro E w4 hq
         rw [HP.out] at hq
         obtain ⟨v, rfl, hf, hg⟩ := hq
         obtain ⟨ti, yi, rfl⟩ := hf.iface
         have HG4 := Lib.hid hg
         have HMF := Lib.hid (mean_any x hf)
         clear hg hf))
    obtain ⟨mb, hmb⟩ : ∃ mb, mb = meantF x 20 f := ⟨_, rfl⟩
    have HRC := Lib.hid (rmean_any x HR2.out)
    rw [← hmb] at HRC HMF
    obtain ⟨fm, rm, hm, hc⟩ := HMF.out
    have HM := Lib.hid hm
    have HC := Lib.hid hc
    clear hm hc hmb
    have HG24 := Lib.hid (HG23.out.trans HG4.out)
    have HQB := Lib.hid (HW1.out.1.gr (HG3.out.trans HG4.out))
    have HGA := Lib.hid (HW1.out.2.trans (HG3.out.trans HG4.out))
    refine wp_region_gg (n := 15) [Fg.eq (.nilIface), Fg.eq (.bool true), Fg.eq (.bool true), Fg.eq (.iface ti yi), Fg.eq (.bool true), Fg.eq (.bool true), Fg.eq (.bool true), Fg.eq (.iface ti yi), Fg.eq (.agg #[.int .i64 x.t, .int .i64 x.len, .int .i64 x.flow, .int .i64 x.band, .int .i64 x.mark]), Fg.eq (.bool mb), Fg.eq (.pointer (some ⟨vb, 0, none⟩)), Fg.eq (.agg #[.int .i64 x.t, .int .i64 x.len, .int .i64 x.flow, .int .i64 x.band, .int .i64 x.mark]), Fg.eq (.bool mb), Fg.eq (.bool true), Fg.eq (.bool true)] [25, 26, 27, 28, 29, 30, 31, 32, 33, 34, 35, 36, 37, 38, 39] (by kernel_rfl) (by kernel_rfl) (by kernel_rfl) ?_ ?_
    · intro L i' o' ac w1' hi' ho hA
      have hgr : Gr w4 w1' := (Gr.refl w4).drew.trans hA.gr
      match i', hi' with
      | 0, _ =>
        obtain rfl := Option.some.inj ho
        exact gg_plain rfl (gstep_val (m_move rfl (show ac.eval (.tmp 8) = .nilIface from hA.other 8 (by decide))) rfl)
      | 1, _ =>
        obtain rfl := Option.some.inj ho
        exact gg_plain rfl (gstep_val (l_nilEq rfl (hA.fact 0 (hA.dep 0 (by kernel_rfl) (by decide))) rfl) rfl)
      | 2, _ =>
        obtain rfl := Option.some.inj ho
        exact gg_plain rfl (gstep_val (m_move rfl (hA.fact 1 (hA.dep 1 (by kernel_rfl) (by decide)))) rfl)
      | 3, _ =>
        obtain rfl := Option.some.inj ho
        exact gg_yes (b := true) rfl (hA.fact 2 (hA.dep 2 (by kernel_rfl) (by decide))) (gstep_val (m_move rfl (show ac.eval (.tmp 7) = .iface ti yi from hA.other 7 (by decide))) rfl)
      | 4, _ =>
        obtain rfl := Option.some.inj ho
        exact gg_yes (b := true) rfl (hA.fact 2 (hA.dep 2 (by kernel_rfl) (by decide))) (gstep_val (l_neNil rfl (hA.fact 3 (hA.dep 3 (by kernel_rfl) (by decide))) rfl) rfl)
      | 5, _ =>
        obtain rfl := Option.some.inj ho
        exact gg_plain rfl (gstep_val (l_pickT rfl (hA.fact 2 (hA.dep 2 (by kernel_rfl) (by decide))) (hA.fact 4 (hA.dep 4 (by kernel_rfl) (by decide)))) rfl)
      | 6, _ =>
        obtain rfl := Option.some.inj ho
        exact gg_plain rfl (gstep_val (m_move rfl (hA.fact 5 (hA.dep 5 (by kernel_rfl) (by decide)))) rfl)
      | 7, _ =>
        obtain rfl := Option.some.inj ho
        exact gg_yes (b := true) rfl (hA.fact 6 (hA.dep 6 (by kernel_rfl) (by decide))) (gstep_val (m_move rfl (show ac.eval (.tmp 7) = .iface ti yi from hA.other 7 (by decide))) rfl)
      | 8, _ =>
        obtain rfl := Option.some.inj ho
        exact gg_yes (b := true) rfl (hA.fact 6 (hA.dep 6 (by kernel_rfl) (by decide))) (gstep_val (m_item rfl (show ac.eval (.tmp 3) = .pointer (some ⟨q, 0, none⟩) from hA.other 3 (by decide)) (HQB.out.gr hgr)) rfl)
      | 9, _ =>
        obtain rfl := Option.some.inj ho
        exact gg_yes (b := true) rfl (hA.fact 6 (hA.dep 6 (by kernel_rfl) (by decide))) (gstep_call (inv1_run HM.out rfl (hA.fact 7 (hA.dep 7 (by kernel_rfl) (by decide))) (hA.fact 8 (hA.dep 8 (by kernel_rfl) (by decide)))) ((HC.out _ hgr).mono (fun e w' ⟨h1, h2⟩ => ⟨_, h1, h2, rfl⟩)))
      | 10, _ =>
        obtain rfl := Option.some.inj ho
        exact gg_yes (b := true) rfl (hA.fact 6 (hA.dep 6 (by kernel_rfl) (by decide))) (gstep_val (m_move rfl (show ac.eval (.tmp 5) = .pointer (some ⟨vb, 0, none⟩) from hA.other 5 (by decide))) rfl)
      | 11, _ =>
        obtain rfl := Option.some.inj ho
        exact gg_yes (b := true) rfl (hA.fact 6 (hA.dep 6 (by kernel_rfl) (by decide))) (gstep_val (m_item rfl (show ac.eval (.tmp 3) = .pointer (some ⟨q, 0, none⟩) from hA.other 3 (by decide)) (HQB.out.gr hgr)) rfl)
      | 12, _ =>
        obtain rfl := Option.some.inj ho
        exact gg_yes (b := true) rfl (hA.fact 6 (hA.dep 6 (by kernel_rfl) (by decide))) (gstep_call (n_call rfl rfl (hA.fact 10 (hA.dep 10 (by kernel_rfl) (by decide))) (hA.fact 11 (hA.dep 11 (by kernel_rfl) (by decide)))) ((HRC.out _ (HG24.out.trans hgr)).mono (fun e w2 ⟨h1, h2⟩ => ⟨_, h1, h2, rfl⟩)))
      | 13, _ =>
        obtain rfl := Option.some.inj ho
        exact gg_yes (b := true) rfl (hA.fact 6 (hA.dep 6 (by kernel_rfl) (by decide))) (gstep_val (l_same rfl (hA.fact 9 (hA.dep 9 (by kernel_rfl) (by decide))) (hA.fact 12 (hA.dep 12 (by kernel_rfl) (by decide)))) rfl)
      | 14, _ =>
        obtain rfl := Option.some.inj ho
        exact gg_plain rfl (gstep_val (l_pickT rfl (hA.fact 6 (hA.dep 6 (by kernel_rfl) (by decide))) (hA.fact 13 (hA.dep 13 (by kernel_rfl) (by decide)))) rfl)
      | k + 15, hk => exact absurd (show k + 15 < 15 from hk) (by omega)
    · intro vs5 w5 hg5 hv
      have HG5 := Lib.hid ((Gr.refl w4).drew.trans hg5)
      have v14 : vs5 14 = .bool true := hv 14 (by omega)
      clear hv hg5
      simp only [putN, List.drop_succ_cons, List.drop_zero, List.getElem?_cons_succ, List.getElem?_cons_zero, v14]
      clear v14
      generalize vs5 0 = z0
      generalize vs5 1 = z1
      generalize vs5 2 = z2
      generalize vs5 3 = z3
      generalize vs5 4 = z4
      generalize vs5 5 = z5
      generalize vs5 6 = z6
      generalize vs5 7 = z7
      generalize vs5 8 = z8
      generalize vs5 9 = z9
      generalize vs5 10 = z10
      generalize vs5 11 = z11
      generalize vs5 12 = z12
      generalize vs5 13 = z13
      go_wp2
      go_ret
      exact ⟨rfl, HGA.out.trans HG5.out⟩
end Go.Proofs.YthkccohigoejgaaDoor

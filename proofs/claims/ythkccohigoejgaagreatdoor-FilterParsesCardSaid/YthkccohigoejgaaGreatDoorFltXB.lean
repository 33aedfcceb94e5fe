/-
  The program's Text, walked.
-/
import Derived.Test.YthkccohigoejgaaGreatDoorFltXC
namespace Go.Proofs.YthkccohigoejgaaGreatDoor
open Go Go.RowKit

/-- A filter whose text is asked: what it answers. -/
def TextF (v : Value) (b : ByteArray) (w : World) : Prop := ∃ f r, Meth v "Text" f r ∧ ∀ w', Gr w w' → Calls Tryz.prog f #[r] w' fun E w2 => E = .returned (.string b) ∧ Gr w' w2
theorem TextF.at {v : Value} {b : ByteArray} {w w' : World} (h : TextF v b w) (g : Gr w w') : TextF v b w' := by
  obtain ⟨f, r, h1, h2⟩ := h
  exact ⟨f, r, h1, fun w2 g2 => h2 w2 (g.trans g2)⟩
theorem tmeth_always (v : Value) : Meth (.iface 65 v) "Text" 101 v := fun args w => by kernel_rfl
theorem tmeth_test (v : Value) : Meth (.iface 85 v) "Text" 109 v := fun args w => by kernel_rfl
theorem tmeth_not (v : Value) : Meth (.iface 67 v) "Text" 103 v := fun args w => by kernel_rfl
theorem tmeth_several (v : Value) : Meth (.iface 83 v) "Text" 107 v := fun args w => by kernel_rfl
theorem txF_has (i : Nat) (lo : Int) : (fname i ++ ⟨#[32]⟩) ++ ⟨#[104, 97, 115, 32]⟩ ++ ⟨(Lib.itoa lo).toArray⟩ = txF (.has i lo) := by
  unfold txF
  rw [text_has]
  apply ByteArray.ext
  simp
theorem txF_one (i : Nat) (lo : Int) : (fname i ++ ⟨#[32]⟩) ++ ⟨(Lib.itoa lo).toArray⟩ = txF (.test i lo lo) := txR_one i lo
theorem txF_two (i : Nat) (lo hi : Int) (h : lo ≠ hi) : (((fname i ++ ⟨#[32]⟩) ++ numS lo) ++ ⟨#[46, 46]⟩) ++ numS hi = txF (.test i lo hi) := by
  unfold txF numS
  rw [text_test, if_neg h]
  apply ByteArray.ext
  simp
theorem txF_kids (l : List Flt) : (l.map txF).map (·.data.toList) = l.map textF := by rw [List.map_map]; rfl
theorem txF_manyJ (l : List Flt) (o : Bool) : ((⟨#[40]⟩ : ByteArray) ++ ⟨(Lib.join ((l.map txF).map (·.data.toList)) (sepL o)).toArray⟩) ++ ⟨#[41]⟩ = txF (.many l o) := by
  rw [txF_kids]
  unfold txF
  rw [text_many]
  apply ByteArray.ext
  simp
section
variable {ev : Operand → Value} {o : Oper} {w : World} {x y : Operand} {u : Value}
theorem b_fa1 {q : Nat} (ho : o.op = .fieldAddr 85 x 1) (h : ev x = .pointer (some ⟨q, 0, none⟩)) : (execOp ev o).run Tryz.prog w = .ok (.value (.pointer (some ⟨q, 1, none⟩))) w := by simp [execOp, ho, h, go_sem]
theorem b_fa2 {q : Nat} (ho : o.op = .fieldAddr 85 x 2) (h : ev x = .pointer (some ⟨q, 0, none⟩)) : (execOp ev o).run Tryz.prog w = .ok (.value (.pointer (some ⟨q, 2, none⟩))) w := by simp [execOp, ho, h, go_sem]
theorem b_itoa {v : Value} (ho : o.op = .call { callee := .value (.func 25), args := #[x], argTypes := #[3] }) (hf : ev (.func 25) = .func (.func 25) #[] #[]) (h : ev x = v) : (execOp ev o).run Tryz.prog w = .ok (.enter 25 #[v]) w := by
  simp [execOp, ho, hf, h, resolve, invoke, go_sem]
end
set_option maxRecDepth 100000 in
set_option maxHeartbeats 4000000 in
theorem text_always (w : World) : Calls Tryz.prog 101 #[.agg #[]] w fun E w' => E = .returned (.string (txF .any)) ∧ Gr w w' := by
  go_enter Tryz.func101, Tryz.ntmps101
  go_wp2
  go_ret
  exact ⟨by rw [txF_any]; rfl, (Gr.refl w).alloc _⟩
set_option maxRecDepth 100000 in
set_option maxHeartbeats 4000000 in
theorem text_hasV (i : Nat) (hi : i < 5) (lo : Int) (hb : Bd lo) (w : World) (he : Env w) : Calls Tryz.prog 109 #[.agg #[.int .i64 (i : Int), .int .i64 lo, .int .i64 lo, .bool true]] w fun E w' => E = .returned (.string (txF (.has i lo))) ∧ Gr w w' := by
  have HTAB := Lib.hid he.tab
  have HF0 := Lib.hid (he.fld i hi)
  have HBD := Lib.hid hb
  have HX := Lib.hid (txF_has i lo)
  have HL := Lib.hid (Lib.itoa_length_le lo hb.1 hb.2)
  have HS := Lib.hid (fname_size i)
  obtain ⟨F, hF⟩ : ∃ F, F = fname i := ⟨_, rfl⟩
  rw [← hF] at HF0 HX HS
  clear hF he hb
  have i0 : (0 : Int) ≤ (i : Int) := by omega
  have i1 : (i : Int) < 5 := by omega
  go_enter Tryz.func109, Tryz.ntmps109
  go_upto_region 1 with fail
  obtain ⟨q, hq⟩ : ∃ q, q = w.heap.size := ⟨_, rfl⟩
  obtain ⟨w1, hw1⟩ : ∃ w1, w1 = w.alloc (.cells #[.int .i64 (i : Int), .int .i64 lo, .int .i64 lo, .bool true] 85) := ⟨_, rfl⟩
  have HW1 : Hid (HB w1 q #[.int .i64 (i : Int), .int .i64 lo, .int .i64 lo, .bool true] 85 ∧ Gr w w1) := Lib.hid (by
    rw [hw1, hq]
    exact ⟨HB.new _ _ _, (Gr.refl w).alloc _⟩)
  rw [← hw1, ← hq]
  clear hw1 hq
  have f0 : w1.cell? ⟨2, i, none⟩ = some (.string F) := HW1.out.2.cell HF0.out
  have c0 : w1.cell? ⟨q, 0, none⟩ = some (.int .i64 (i : Int)) := HW1.out.1.c 0 rfl
  have c1 : w1.cell? ⟨q, 1, none⟩ = some (.int .i64 lo) := HW1.out.1.c 1 rfl
  have c2 : w1.cell? ⟨q, 2, none⟩ = some (.int .i64 lo) := HW1.out.1.c 2 rfl
  have c3 : w1.cell? ⟨q, 3, none⟩ = some (.bool true) := HW1.out.1.c 3 rfl
  have l1 : ¬ 9223372036854775807 < F.size + 1 := by have := HS.out; omega
  have l2 : ¬ 9223372036854775807 < F.size + 1 + 4 := by have := HS.out; omega
  have l3 : ¬ 9223372036854775807 < F.size + 1 + 4 + (Lib.itoa lo).length := by have := HS.out; have := HL.out; omega
  go_wp2_with (go_at_call 25; refine (itoa_g lo HBD.out _ (HTAB.out.gr HW1.out.2)).mono ?_; rintro E w2 ⟨rfl, hg⟩; have HG := Lib.hid hg; clear hg)
  go_ret
  exact ⟨by rw [HX.out]; rfl, HW1.out.2.trans HG.out⟩
set_option maxRecDepth 100000 in
set_option maxHeartbeats 4000000 in
theorem text_oneV (i : Nat) (hi : i < 5) (lo : Int) (hb : Bd lo) (w : World) (he : Env w) : Calls Tryz.prog 109 #[.agg #[.int .i64 (i : Int), .int .i64 lo, .int .i64 lo, .bool false]] w fun E w' => E = .returned (.string (txF (.test i lo lo))) ∧ Gr w w' := by
  have HTAB := Lib.hid he.tab
  have HF0 := Lib.hid (he.fld i hi)
  have HBD := Lib.hid hb
  have HX := Lib.hid (txF_one i lo)
  have HL := Lib.hid (Lib.itoa_length_le lo hb.1 hb.2)
  have HS := Lib.hid (fname_size i)
  obtain ⟨F, hF⟩ : ∃ F, F = fname i := ⟨_, rfl⟩
  rw [← hF] at HF0 HX HS
  clear hF he hb
  have i0 : (0 : Int) ≤ (i : Int) := by omega
  have i1 : (i : Int) < 5 := by omega
  go_enter Tryz.func109, Tryz.ntmps109
  go_upto_region 1 with fail
  obtain ⟨q, hq⟩ : ∃ q, q = w.heap.size := ⟨_, rfl⟩
  obtain ⟨w1, hw1⟩ : ∃ w1, w1 = w.alloc (.cells #[.int .i64 (i : Int), .int .i64 lo, .int .i64 lo, .bool false] 85) := ⟨_, rfl⟩
  have HW1 : Hid (HB w1 q #[.int .i64 (i : Int), .int .i64 lo, .int .i64 lo, .bool false] 85 ∧ Gr w w1) := Lib.hid (by
    rw [hw1, hq]
    exact ⟨HB.new _ _ _, (Gr.refl w).alloc _⟩)
  rw [← hw1, ← hq]
  clear hw1 hq
  have f0 : w1.cell? ⟨2, i, none⟩ = some (.string F) := HW1.out.2.cell HF0.out
  have c0 : w1.cell? ⟨q, 0, none⟩ = some (.int .i64 (i : Int)) := HW1.out.1.c 0 rfl
  have c1 : w1.cell? ⟨q, 1, none⟩ = some (.int .i64 lo) := HW1.out.1.c 1 rfl
  have c2 : w1.cell? ⟨q, 2, none⟩ = some (.int .i64 lo) := HW1.out.1.c 2 rfl
  have c3 : w1.cell? ⟨q, 3, none⟩ = some (.bool false) := HW1.out.1.c 3 rfl
  have l1 : ¬ 9223372036854775807 < F.size + 1 := by have := HS.out; omega
  have l3 : ¬ 9223372036854775807 < F.size + 1 + (Lib.itoa lo).length := by have := HS.out; have := HL.out; omega
  go_wp2_with (go_at_call 25; refine (itoa_g lo HBD.out _ (HTAB.out.gr HW1.out.2)).mono ?_; rintro E w2 ⟨rfl, hg⟩; have HG := Lib.hid hg; clear hg)
  go_ret
  exact ⟨by rw [HX.out]; rfl, HW1.out.2.trans HG.out⟩
set_option maxRecDepth 100000 in
set_option maxHeartbeats 4000000 in
theorem text_twoV (i : Nat) (hi : i < 5) (lo : Int) (hb : Bd lo) (h2 : Int) (hb2 : Bd h2) (hne : ¬ lo = h2) (w : World) (he : Env w) : Calls Tryz.prog 109 #[.agg #[.int .i64 (i : Int), .int .i64 lo, .int .i64 h2, .bool false]] w fun E w' => E = .returned (.string (txF (.test i lo h2))) ∧ Gr w w' := by
  have HTAB := Lib.hid he.tab
  have HF0 := Lib.hid (he.fld i hi)
  have HBD := Lib.hid hb
  have HX := Lib.hid (txF_two i lo h2 hne)
  have HBE := Lib.hid hb2
  clear hb2
  have HL := Lib.hid (Lib.itoa_length_le lo hb.1 hb.2)
  have HS := Lib.hid (fname_size i)
  obtain ⟨F, hF⟩ : ∃ F, F = fname i := ⟨_, rfl⟩
  rw [← hF] at HF0 HX HS
  clear hF he hb
  have i0 : (0 : Int) ≤ (i : Int) := by omega
  have i1 : (i : Int) < 5 := by omega
  go_enter Tryz.func109, Tryz.ntmps109
  go_upto_region 1 with fail
  obtain ⟨q, hq⟩ : ∃ q, q = w.heap.size := ⟨_, rfl⟩
  obtain ⟨w1, hw1⟩ : ∃ w1, w1 = w.alloc (.cells #[.int .i64 (i : Int), .int .i64 lo, .int .i64 h2, .bool false] 85) := ⟨_, rfl⟩
  have HW1 : Hid (HB w1 q #[.int .i64 (i : Int), .int .i64 lo, .int .i64 h2, .bool false] 85 ∧ Gr w w1) := Lib.hid (by
    rw [hw1, hq]
    exact ⟨HB.new _ _ _, (Gr.refl w).alloc _⟩)
  rw [← hw1, ← hq]
  clear hw1 hq
  have f0 : w1.cell? ⟨2, i, none⟩ = some (.string F) := HW1.out.2.cell HF0.out
  have c0 : w1.cell? ⟨q, 0, none⟩ = some (.int .i64 (i : Int)) := HW1.out.1.c 0 rfl
  have c1 : w1.cell? ⟨q, 1, none⟩ = some (.int .i64 lo) := HW1.out.1.c 1 rfl
  have c2 : w1.cell? ⟨q, 2, none⟩ = some (.int .i64 h2) := HW1.out.1.c 2 rfl
  have c3 : w1.cell? ⟨q, 3, none⟩ = some (.bool false) := HW1.out.1.c 3 rfl
  have l1 : ¬ 9223372036854775807 < F.size + 1 := by have := HS.out; omega
  have HZ := Lib.hid (show (F ++ ⟨#[32]⟩ : ByteArray).size ≤ 5 from by have h1 := HS.out; rw [ByteArray.size_append]; show F.size + 1 ≤ _; omega)
  go_upto_region 6 with fail
  obtain ⟨Y, hY⟩ : ∃ Y, Y = F ++ ⟨#[32]⟩ := ⟨_, rfl⟩
  rw [← hY] at HX HZ ⊢
  clear hY
  refine wp_region_gr (n := 10) [Fg.eq (.string Y), Fg.eq (.pointer (some ⟨q, 1, none⟩)), Fg.eq (.int .i64 lo), Fg.eq (.string (numS lo)), Fg.eq (.string (Y ++ numS lo)), Fg.eq (.string ((Y ++ numS lo) ++ ⟨#[46, 46]⟩)), Fg.eq (.pointer (some ⟨q, 2, none⟩)), Fg.eq (.int .i64 h2), Fg.eq (.string (numS h2)), Fg.eq (.string (((Y ++ numS lo) ++ ⟨#[46, 46]⟩) ++ numS h2))] [29, 30, 31, 32, 33, 34, 35, 36, 37, 38] (by kernel_rfl) (by kernel_rfl) (by kernel_rfl) ?_ ?_
  · intro L i' o' ac w1' hi' ho hA
    have hgr : Gr w1 w1' := (Gr.refl w1).drew.trans hA.gr
    match i', hi' with
    | 0, _ =>
      obtain rfl := Option.some.inj ho
      exact gstep_val (m_move rfl (show ac.eval (.tmp 3) = .string Y from hA.other 3 (by decide))) rfl
    | 1, _ =>
      obtain rfl := Option.some.inj ho
      exact gstep_val (b_fa1 rfl (show ac.eval (.tmp 1) = .pointer (some ⟨q, 0, none⟩) from hA.other 1 (by decide))) rfl
    | 2, _ =>
      obtain rfl := Option.some.inj ho
      exact gstep_val (n_loadI rfl (hA.fact 1 (hA.dep 1 (by kernel_rfl) (by decide))) ((HW1.out.1.gr hgr).c 1 rfl)) rfl
    | 3, _ =>
      obtain rfl := Option.some.inj ho
      exact gstep_call (b_itoa rfl rfl (hA.fact 2 (hA.dep 2 (by kernel_rfl) (by decide)))) ((itoa_g lo HBD.out _ (HTAB.out.gr (HW1.out.2.trans hgr))).mono (fun e w2 ⟨h1, h2⟩ => ⟨_, h1, h2, rfl⟩))
    | 4, _ =>
      obtain rfl := Option.some.inj ho
      exact gstep_val (x_cat rfl (hA.fact 0 (hA.dep 0 (by kernel_rfl) (by decide))) (hA.fact 3 (hA.dep 3 (by kernel_rfl) (by decide))) (by have s1 := HZ.out; have s2 := numS_size HBD.out; have s3 := numS_size HBE.out; omega)) rfl
    | 5, _ =>
      obtain rfl := Option.some.inj ho
      exact gstep_val (x_cat rfl (hA.fact 4 (hA.dep 4 (by kernel_rfl) (by decide))) rfl (by have s1 := HZ.out; have s2 := numS_size HBD.out; have s3 := numS_size HBE.out; rw [ByteArray.size_append]; show Y.size + (numS lo).size + 2 ≤ _; omega)) rfl
    | 6, _ =>
      obtain rfl := Option.some.inj ho
      exact gstep_val (b_fa2 rfl (show ac.eval (.tmp 1) = .pointer (some ⟨q, 0, none⟩) from hA.other 1 (by decide))) rfl
    | 7, _ =>
      obtain rfl := Option.some.inj ho
      exact gstep_val (n_loadI rfl (hA.fact 6 (hA.dep 6 (by kernel_rfl) (by decide))) ((HW1.out.1.gr hgr).c 2 rfl)) rfl
    | 8, _ =>
      obtain rfl := Option.some.inj ho
      exact gstep_call (b_itoa rfl rfl (hA.fact 7 (hA.dep 7 (by kernel_rfl) (by decide)))) ((itoa_g h2 HBE.out _ (HTAB.out.gr (HW1.out.2.trans hgr))).mono (fun e w2 ⟨h1, h2⟩ => ⟨_, h1, h2, rfl⟩))
    | 9, _ =>
      obtain rfl := Option.some.inj ho
      exact gstep_val (x_cat rfl (hA.fact 5 (hA.dep 5 (by kernel_rfl) (by decide))) (hA.fact 8 (hA.dep 8 (by kernel_rfl) (by decide))) (by have s1 := HZ.out; have s2 := numS_size HBD.out; have s3 := numS_size HBE.out; rw [ByteArray.size_append, ByteArray.size_append]; show Y.size + (numS lo).size + 2 + (numS h2).size ≤ _; omega)) rfl
    | k + 10, hk => exact absurd (show k + 10 < 10 from hk) (by omega)
  · intro vs5 w5 hg5 hv
    have HG5 := Lib.hid ((Gr.refl w1).drew.trans hg5)
    have vz : vs5 9 = .string (((Y ++ numS lo) ++ ⟨#[46, 46]⟩) ++ numS h2) := hv 9 (by omega)
    clear hv hg5
    simp only [putN, List.drop_succ_cons, List.drop_zero, List.getElem?_cons_succ, List.getElem?_cons_zero, vz]
    clear vz
    generalize vs5 0 = z0
    generalize vs5 1 = z1
    generalize vs5 2 = z2
    generalize vs5 3 = z3
    generalize vs5 4 = z4
    generalize vs5 5 = z5
    generalize vs5 6 = z6
    generalize vs5 7 = z7
    generalize vs5 8 = z8
    rw [HX.out]
    go_wp2
    go_ret
    exact ⟨rfl, HW1.out.2.trans HG5.out⟩
set_option maxRecDepth 100000 in
set_option maxHeartbeats 4000000 in
theorem text_notV (t : TypeId) (y : Value) (g : Flt) (hl : (textF (.not g)).length ≤ 1000000) (w : World) (h : TextF (.iface t y) (txF g) w) : Calls Tryz.prog 103 #[.agg #[.iface t y]] w fun E w' => E = .returned (.string (txF (.not g))) ∧ Gr w w' := by
  obtain ⟨f, r, hm, hc⟩ := h
  have HM := Lib.hid hm
  have HX := Lib.hid (txF_not g)
  have hsz : ¬ 9223372036854775807 < 4 + (txF g).size := by rw [text_not] at hl; simp only [List.length_append, List.length_cons, List.length_nil] at hl; rw [txF_size]; omega
  obtain ⟨T, hT⟩ : ∃ T, T = txF g := ⟨_, rfl⟩
  rw [← hT] at HX hc hsz
  have HC := Lib.hid hc
  clear hm hc hl hT
  go_enter Tryz.func103, Tryz.ntmps103
  go_upto_region 1 with fail
  obtain ⟨q, hq⟩ : ∃ q, q = w.heap.size := ⟨_, rfl⟩
  obtain ⟨w1, hw1⟩ : ∃ w1, w1 = w.alloc (.cells #[.iface t y] 67) := ⟨_, rfl⟩
  have HW1 : Hid (HB w1 q #[.iface t y] 67 ∧ Gr w w1) := Lib.hid (by
    rw [hw1, hq]
    exact ⟨HB.new _ _ _, (Gr.refl w).alloc _⟩)
  rw [← hw1, ← hq]
  clear hw1 hq
  have c0 : w1.cell? ⟨q, 0, none⟩ = some (.iface t y) := HW1.out.1.c 0 rfl
  go_wp2_with ((with_reducible refine wpList_here "Text" ?_); refine wpList_invoke HM.out rfl _ _ _ rfl rfl (ys := []) rfl (HC.out _ HW1.out.2) ?_; rintro e w2 ⟨rfl, hg⟩; have HG := Lib.hid hg; clear hg; refine ⟨_, rfl, ?_⟩)
  go_ret
  exact ⟨by rw [HX.out]; rfl, HW1.out.2.trans HG.out⟩
set_option maxRecDepth 100000 in
set_option maxHeartbeats 8000000 in
theorem text_severalV (s : Value) (vs : List Value) (l : List Flt) (o : Bool) (w : World) (row : IfRow w s vs) (hl : vs.length = l.length) (h0 : 0 < l.length) (h1 : l.length ≤ 2001) (hln : (textF (.many l o)).length ≤ 1000000)
    (hk : ∀ i, i < l.length → (∃ ti yi, vs.getD i .nilIface = .iface ti yi) ∧ TextF (vs.getD i .nilIface) (txF (l.getD i .any)) w) :
    Calls Tryz.prog 107 #[.agg #[s, .bool o]] w fun E w' => E = .returned (.string (txF (.many l o))) ∧ Gr w w' := by
  obtain ⟨g, off, cap, rfl, hc1, hc2, hcell⟩ := Row.cells row (by rw [hl]; exact h0)
  obtain ⟨n, hn⟩ : ∃ n, n = l.length := ⟨_, rfl⟩
  rw [hl] at hc1 ⊢
  rw [← hn] at hc1 h0 h1 hk ⊢
  have HN := Lib.hid hn
  have HK := Lib.hid hk
  have HCELL : Hid (∀ i, i < n → w.cell? ⟨g, off + i, none⟩ = some (vs.getD i .nilIface)) := Lib.hid (fun i hi => hcell i _ (by rw [List.getD_eq_getElem?_getD, List.getElem?_eq_getElem (by rw [hl, ← hn]; exact hi)]; rfl))
  have HLN := Lib.hid hln
  clear hk hcell row hl hn hln
  have n0 : (0 : Int) < (n : Int) := by omega
  have n1 : (n : Int) ≤ 2001 := by omega
  go_enter Tryz.func107, Tryz.ntmps107
  go_upto_region 1 with fail
  obtain ⟨q, hq⟩ : ∃ q, q = w.heap.size := ⟨_, rfl⟩
  obtain ⟨w1, hw1⟩ : ∃ w1, w1 = w.alloc (.cells #[.slice (some ⟨g, off, none⟩) n cap, .bool o] 83) := ⟨_, rfl⟩
  have HW1 : Hid (HB w1 q #[.slice (some ⟨g, off, none⟩) n cap, .bool o] 83 ∧ Gr w w1) := Lib.hid (by
    rw [hw1, hq]
    exact ⟨HB.new _ _ _, (Gr.refl w).alloc _⟩)
  rw [← hw1, ← hq]
  clear hw1 hq
  have c0 : w1.cell? ⟨q, 0, none⟩ = some (.slice (some ⟨g, off, none⟩) n cap) := HW1.out.1.c 0 rfl
  go_wp2
  go_loopw [3, 10] (fun s3 s10 wr => ∃ i : Nat, i ≤ n ∧ s10 = .int .i64 (i : Int) ∧ Hid (JRow w1 wr s3 ((l.take i).map txF))) (fun _ s _ => n - (intOf s).toNat)
  case atStart => exact ⟨0, Nat.zero_le _, rfl, Lib.hid (JRow.nil w1)⟩
  case round =>
    obtain ⟨i, hi, rfl, HA⟩ := hrel
    have i0 : (0 : Int) ≤ (i : Int) := by omega
    have HG := Lib.hid HA.out.gr
    by_cases hlt : i < n
    · have i1 : (i : Int) < (n : Int) := by omega
      obtain ⟨⟨ti, yi, hv⟩, htx⟩ := HK.out i hlt
      have hce : wr.cell? ⟨g, off + i, none⟩ = some (.iface ti yi) := by rw [← hv]; exact (HW1.out.2.trans HG.out).cell (HCELL.out i hlt)
      rw [hv] at htx
      clear hv
      have HTK : Hid ((l.take i).map txF ++ [txF (l.getD i .any)] = (l.take (i + 1)).map txF) := Lib.hid (by rw [take_next (by rw [← HN.out]; exact hlt), List.map_append]; rfl)
      have HLE : Hid (((l.take i).map txF).length ≤ 1000000) := Lib.hid (by rw [List.length_map, List.length_take, ← HN.out]; omega)
      obtain ⟨T, hT⟩ : ∃ T, T = txF (l.getD i .any) := ⟨_, rfl⟩
      obtain ⟨X, hX⟩ : ∃ X, X = (l.take i).map txF := ⟨_, rfl⟩
      rw [← hX] at HTK HLE HA
      rw [← hT] at HTK htx
      clear hT hX
      obtain ⟨f, r, hm, hcc⟩ := htx
      have HM := Lib.hid hm
      have HC := Lib.hid hcc
      clear hm hcc
      go_wp2_with (first
        | ((with_reducible refine wpList_here "Text" ?_); refine wpList_invoke HM.out rfl _ _ _ rfl rfl (ys := []) rfl (HC.out _ (HW1.out.2.trans HG.out)) ?_; rintro e w2 ⟨rfl, hg⟩; have HA3 := Lib.hid ((HA.out.on hg).on ((Gr.refl w2).alloc (.cells #[.string T] 9))); clear hg; refine ⟨_, rfl, ?_⟩)
        | (at_builtin; refine wpList_append_strR rfl _ _ _ (by rfl) (by rfl) _ _ T (by rfl) HA3.out.row ⟨w2.heap.size, 0, none⟩ 1 (by rfl) (by simp) HLE.out ?_; intro v' w6 hrow hgr hblk; have HA6 := Lib.hid (HA3.out.next hrow hgr hblk); clear hrow hgr hblk))
      go_roundw
      case measure => simp [intOf]; omega
      case rel => exact ⟨i + 1, by omega, by go_num, by rw [← HTK.out]; exact HA6⟩
    · obtain rfl : i = n := by omega
      have HAL := Lib.hid (show JRow w1 wr _ (l.map txF) from by have := HA.out; rw [HN.out, List.take_length] at this; exact this)
      have k1 : wr.cell? ⟨q, 1, none⟩ = some (.bool o) := (HW1.out.1.gr HG.out).c 1 rfl
      have HMJ := Lib.hid (txF_manyJ l o)
      have HLJ : Hid ((Lib.join ((l.map txF).map (·.data.toList)) (sepL o)).length ≤ 1000000) := Lib.hid (by have := HLN.out; rw [txF_kids]; rw [text_many] at this; simp only [List.length_append] at this; omega)
      have HL1 : Hid (0 < (l.map txF).length) := Lib.hid (by rw [List.length_map, ← HN.out]; exact h0)
      have HL2 : Hid ((l.map txF).length ≤ 1000000) := Lib.hid (by rw [List.length_map, ← HN.out]; omega)
      clear HA
      obtain ⟨J, hJ⟩ : ∃ J : ByteArray, J = ⟨(Lib.join ((l.map txF).map (·.data.toList)) (sepL o)).toArray⟩ := ⟨_, rfl⟩
      have l1 : ¬ 9223372036854775807 < 1 + J.size := by rw [hJ]; have := HLJ.out; show ¬ 9223372036854775807 < 1 + (Lib.join ((l.map txF).map (·.data.toList)) (sepL o)).toArray.size; rw [List.size_toArray]; omega
      have l2 : ¬ 9223372036854775807 < 1 + J.size + 1 := by rw [hJ]; have := HLJ.out; show ¬ 9223372036854775807 < 1 + (Lib.join ((l.map txF).map (·.data.toList)) (sepL o)).toArray.size + 1; rw [List.size_toArray]; omega
      rw [← hJ] at HMJ
      have HJC : Hid (Calls Tryz.prog 26 #[_, .string ⟨(sepL o).toArray⟩] wr fun e w' => e = .returned (.string J) ∧ Gr wr w') := Lib.hid (by
        have h9 := join_row HAL.out.row HL1.out HL2.out ⟨(sepL o).toArray⟩ (by show (Lib.join ((l.map txF).map (·.data.toList)) (sepL o)).length ≤ _; have := HLJ.out; omega)
        rw [hJ]
        exact h9)
      clear hJ
      cases o
      · go_wp2_with (go_at_call 26; refine HJC.out.mono ?_; rintro e w9 ⟨rfl, hb9⟩; have HG9 := Lib.hid (HG.out.trans hb9); clear hb9)
        go_ret
        exact ⟨by rw [HMJ.out]; rfl, HW1.out.2.trans HG9.out⟩
      · go_wp2_with (go_at_call 26; refine HJC.out.mono ?_; rintro e w9 ⟨rfl, hb9⟩; have HG9 := Lib.hid (HG.out.trans hb9); clear hb9)
        go_ret
        exact ⟨by rw [HMJ.out]; rfl, HW1.out.2.trans HG9.out⟩
/-- The numbers in a filter that was read fit. -/
theorem FltV.ok {S : Nat → Prop} : ∀ {d : Nat} {w : World} {v : Value} {f : Flt}, FltV S d w v f → okF f
  | 0, _, _, _, h => h.elim
  | d + 1, w, v, f, h => by
    cases f with
    | any => rw [okF]; trivial
    | test i lo hi => obtain ⟨_, _, h1, h2⟩ := h; rw [okF]; exact ⟨⟨by omega, by omega⟩, ⟨by omega, by omega⟩⟩
    | has i lo => obtain ⟨_, _, h1⟩ := h; rw [okF]; exact ⟨by omega, by omega⟩
    | not g => obtain ⟨u, _, h1⟩ := h; rw [okF]; exact h1.ok
    | many l o =>
      obtain ⟨s, vs, _, _, _, _, _, _, h7⟩ := h
      rw [okF]
      intro k hk
      obtain ⟨i, hi, rfl⟩ := List.mem_iff_getElem.1 hk
      have h8 := (h7 i hi).ok
      rwa [List.getD_eq_getElem?_getD, List.getElem?_eq_getElem hi] at h8
theorem text_anyV {S : Nat → Prop} {w : World} (he : Env w) : ∀ {d : Nat} {v : Value} {f : Flt}, FltV S d w v f → (textF f).length ≤ 1000000 → TextF v (txF f) w
  | 0, _, _, h, _ => h.elim
  | d + 1, v, f, h, hln => by
    have hok := h.ok
    cases f with
    | any =>
      obtain rfl : v = _ := h
      exact ⟨_, _, tmeth_always _, fun w' _ => text_always w'⟩
    | test i lo hi =>
      obtain ⟨rfl, h1, _⟩ := h
      rw [okF] at hok
      by_cases e : lo = hi
      · subst e
        exact ⟨_, _, tmeth_test _, fun w' g => text_oneV i h1 lo hok.1 w' (he.gr g)⟩
      · exact ⟨_, _, tmeth_test _, fun w' g => text_twoV i h1 lo hok.1 hi hok.2 e w' (he.gr g)⟩
    | has i lo =>
      obtain ⟨rfl, h1, _⟩ := h
      rw [okF] at hok
      exact ⟨_, _, tmeth_test _, fun w' g => text_hasV i h1 lo hok w' (he.gr g)⟩
    | not g =>
      obtain ⟨u, rfl, h1⟩ := h
      obtain ⟨t, y, rfl⟩ := h1.iface
      have h2 : (textF g).length ≤ 1000000 := by rw [text_not] at hln; simp only [List.length_append] at hln; omega
      exact ⟨_, _, tmeth_not _, fun w' g' => text_notV t y g hln w' ((text_anyV he h1 h2).at g')⟩
    | many l o =>
      obtain ⟨s, vs, rfl, h2, _, h4, h5, h6, h7⟩ := h
      exact ⟨_, _, tmeth_several _, fun w' g' => text_severalV s vs l o w' (Row.gr h2 g') h4 h5 h6 hln fun i hi => ⟨(h7 i hi).iface, (text_anyV he (h7 i hi) (Nat.le_trans (kid_len hi) hln)).at g'⟩⟩
end Go.Proofs.YthkccohigoejgaaGreatDoor

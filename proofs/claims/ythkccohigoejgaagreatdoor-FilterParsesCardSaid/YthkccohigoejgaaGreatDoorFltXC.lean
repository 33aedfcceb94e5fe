/-
  The reference's Text, walked.
-/
import Derived.Test.YthkccohigoejgaaGreatDoorFltMD
import Derived.Test.YthkccohigoejgaaGreatDoorFltXJ
import Derived.Test.YthkccohigoejgaaGreatDoorFltXA
namespace Go.Proofs.YthkccohigoejgaaGreatDoor
open Go Go.RowKit

/-- The text of the first j of several. -/
def jtx (l : List Flt) (o : Bool) (j : Nat) : ByteArray := ⟨(Lib.join ((l.take j).map textF) (sepL o)).toArray⟩
theorem jtx_zero (l : List Flt) (o : Bool) : jtx l o 0 = ⟨#[]⟩ := rfl
theorem take_next {l : List Flt} {j : Nat} (h : j < l.length) : l.take (j + 1) = l.take j ++ [l.getD j .any] := by
  rw [List.take_succ_eq_append_getElem h, List.getD_eq_getElem?_getD, List.getElem?_eq_getElem h]
  rfl
theorem jtx_one {l : List Flt} {o : Bool} (h : 0 < l.length) : (⟨#[]⟩ : ByteArray) ++ txF (l.getD 0 .any) = jtx l o 1 := by
  unfold jtx
  rw [take_next h, List.take_zero, List.nil_append, List.map_cons, List.map_nil, Lib.join_one]
  unfold txF
  apply ByteArray.ext
  simp
theorem jtx_next {l : List Flt} {o : Bool} {j : Nat} (h : j < l.length) (h0 : 0 < j) : (jtx l o j ++ ⟨(sepL o).toArray⟩) ++ txF (l.getD j .any) = jtx l o (j + 1) := by
  unfold jtx
  rw [take_next h, List.map_append, List.map_cons, List.map_nil, join_snoc _ _ _ (by rw [List.length_map, List.length_take]; omega)]
  unfold txF
  apply ByteArray.ext
  simp
theorem jtx_end (l : List Flt) (o : Bool) : ((⟨#[40]⟩ : ByteArray) ++ jtx l o l.length) ++ ⟨#[41]⟩ = txF (.many l o) := by
  unfold jtx txF
  rw [List.take_length, text_many]
  apply ByteArray.ext
  simp
theorem sum_take {α : Type} (l : List α) (p : α → Nat) (j : Nat) : ((l.take j).map p).sum ≤ (l.map p).sum := by
  induction l generalizing j with
  | nil => simp
  | cons x l ih =>
    cases j with
    | zero => simp
    | succ j =>
      have := ih j
      simp only [List.take_succ_cons, List.map_cons, List.sum_cons]
      omega
theorem jtx_size (l : List Flt) (o : Bool) (j : Nat) : (jtx l o j).size ≤ (textF (.many l o)).length := by
  have h0 : (jtx l o j).size = (Lib.join ((l.take j).map textF) (sepL o)).length := by unfold jtx; simp [ByteArray.size]
  rw [h0, text_many]
  cases l with
  | nil => simp [Lib.join_nil]
  | cons x l =>
    cases j with
    | zero => simp [Lib.join_nil]
    | succ j =>
      rw [List.take_succ_cons, List.map_cons, List.map_cons, Lib.join_length]
      simp only [List.length_append]
      rw [Lib.join_length]
      have h1 := Lib.lens_take_le (textF x :: l.map textF) (j + 1)
      rw [List.take_succ_cons, ← List.map_take] at h1
      have h2 : ((l.take j).map textF).length ≤ (l.map textF).length := by rw [List.length_map, List.length_map, List.length_take]; omega
      have h3 := Nat.mul_le_mul_left (sepL o).length h2
      omega
theorem txF_size (f : Flt) : (txF f).size = (textF f).length := by unfold txF; simp [ByteArray.size]
theorem kid_len {l : List Flt} {o : Bool} {j : Nat} (h : j < l.length) : (textF (l.getD j .any)).length ≤ (textF (.many l o)).length := by
  rw [text_many]
  have := join_mem (sepL o) (show textF (l.getD j .any) ∈ l.map textF from List.mem_map.2 ⟨_, by rw [List.getD_eq_getElem?_getD, List.getElem?_eq_getElem h]; exact List.getElem_mem h, rfl⟩)
  simp only [List.length_append]
  omega
theorem kid_ok {l : List Flt} {o : Bool} {j : Nat} (h : j < l.length) (hk : okF (.many l o)) : okF (l.getD j .any) := by
  rw [okF] at hk
  refine hk _ ?_
  rw [List.getD_eq_getElem?_getD, List.getElem?_eq_getElem h]
  exact List.getElem_mem h
theorem numS_size {n : Int} (h : Bd n) : (numS n).size ≤ 21 := by
  have := Lib.itoa_length_le n h.1 h.2
  show (Lib.itoa n).toArray.size ≤ 21
  rw [List.size_toArray]
  exact this
theorem fname_size (i : Nat) : (fname i).size ≤ 4 := by
  have := fname_len i
  rw [Array.length_toList] at this
  exact this
theorem txR_has (i : Nat) (lo : Int) : (fname i ++ ⟨#[32, 104, 97, 115, 32]⟩) ++ numS lo = txF (.has i lo) := by
  unfold txF numS
  rw [text_has]
  apply ByteArray.ext
  simp
theorem txR_one (i : Nat) (lo : Int) : (fname i ++ ⟨#[32]⟩) ++ numS lo = txF (.test i lo lo) := by
  unfold txF numS
  rw [text_test, if_pos rfl]
  apply ByteArray.ext
  simp
theorem txR_two (i : Nat) (lo hi : Int) (h : lo ≠ hi) : ((fname i ++ ⟨#[32]⟩) ++ numS lo) ++ (⟨#[46, 46]⟩ ++ numS hi) = txF (.test i lo hi) := by
  unfold txF numS
  rw [text_test, if_neg h]
  apply ByteArray.ext
  simp
theorem txF_not (f : Flt) : (⟨#[110, 111, 116, 32]⟩ : ByteArray) ++ txF f = txF (.not f) := by
  unfold txF
  rw [text_not]
  apply ByteArray.ext
  simp
theorem txF_any : txF .any = ⟨#[97, 110, 121]⟩ := by unfold txF; rw [text_any]
section
variable {ev : Operand → Value} {o : Oper} {w : World} {x y : Operand} {u : Value}
theorem x_loadSl {ad : Addr} {a : Option Addr} {n c : Nat} (ho : o.op = .load 46 x) (h : ev x = .pointer (some ad)) (hc : w.cell? ad = some (.slice a n c)) : (execOp ev o).run Tryz.prog w = .ok (.value (.slice a n c)) w := by simp [execOp, ho, h, hc, go_sem]
theorem x_fa2 {q : Nat} (ho : o.op = .fieldAddr 56 x 2) (h : ev x = .pointer (some ⟨q, 0, none⟩)) : (execOp ev o).run Tryz.prog w = .ok (.value (.pointer (some ⟨q, 2, none⟩))) w := by simp [execOp, ho, h, go_sem]
theorem x_idxS {g off n c i : Nat} (ho : o.op = .indexAddr 46 x y) (h : ev x = .slice (some ⟨g, off, none⟩) n c) (k : ev y = .int .i64 (i : Int)) (hi : i < n) : (execOp ev o).run Tryz.prog w = .ok (.value (.pointer (some ⟨g, off + i, none⟩))) w := by
  have h0 : (0 : Int) ≤ (i : Int) := by omega
  have h1 : (i : Int) < (n : Int) := by omega
  simp [execOp, ho, h, k, h0, h1, go_sem]
theorem x_loadS {ad : Addr} {s : ByteArray} (ho : o.op = .load 9 x) (h : ev x = .pointer (some ad)) (hc : w.cell? ad = some (.string s)) : (execOp ev o).run Tryz.prog w = .ok (.value (.string s)) w := by simp [execOp, ho, h, hc, go_sem]
theorem x_cat {a b : ByteArray} (ho : o.op = .binOp .add 9 x y 9) (h : ev x = .string a) (k : ev y = .string b) (hl : a.size + b.size ≤ 9223372036854775807) : (execOp ev o).run Tryz.prog w = .ok (.value (.string (a ++ b))) w := by
  have h1 : ¬ 9223372036854775807 < a.size + b.size := by omega
  simp [execOp, ho, h, k, h1, go_sem]
theorem x_buildI {z : Int} (ho : o.op = .buildSlice 47 1 #[(0, y)]) (h : ev y = .int .i64 z) : (execOp ev o).run Tryz.prog w = .ok (.value (.slice (some ⟨w.heap.size, 0, none⟩) 1 1)) (w.alloc (.cells #[.int .i64 z] 3)) := by simp [execOp, ho, h, go_sem]
theorem x_told {v : Value} (ho : o.op = .call { callee := .value (.func 15), args := #[x], argTypes := #[47] }) (hf : ev (.func 15) = .func (.func 15) #[] #[]) (h : ev x = v) : (execOp ev o).run Tryz.prog w = .ok (.enter 15 #[v]) w := by
  simp [execOp, ho, hf, h, resolve, invoke, go_sem]
end
theorem gr_drewN (w : World) (n : Nat) : Gr w (w.drewN n) := (Gr.refl w).drewN n
set_option maxRecDepth 100000 in
set_option maxHeartbeats 8000000 in
theorem rtext_succ {S : Nat → Prop} {d : Nat} {w : World} {v : Value} {f : Flt} (he : Env w)
    (IH : ∀ {v : Value} {f : Flt}, RFl S d w v f → okF f → (textF f).length ≤ 1000000 → ∀ w', Gr w w' → Calls Tryz.prog 7 #[v] w' fun E w2 => E = .returned (.string (txF f)) ∧ Gr w' w2)
    (h : RFl S (d + 1) w v f) (hok : okF f) (hln : (textF f).length ≤ 1000000) (w' : World) (hw : Gr w w') : Calls Tryz.prog 7 #[v] w' fun E w2 => E = .returned (.string (txF f)) ∧ Gr w' w2 := by
  obtain ⟨b, k, i, lo, hi, kv, rfl, hi5, hrb, hrk⟩ := h.head
  obtain ⟨fb, fo, fc, hfd, hfe⟩ := he.rfd
  have HFD := Lib.hid hfd
  have HFE := Lib.hid (hfe i hi5)
  have HFS := Lib.hid (fname_size i)
  have HEN := Lib.hid he
  have HRB := Lib.hid (hrb.gr hw)
  have HRK := Lib.hid hrk
  have HI5 := Lib.hid hi5
  have HW := Lib.hid hw
  have HOK := Lib.hid hok
  have HLN := Lib.hid hln
  clear h hrb hrk hi5 hw hok hln he hfd hfe
  have k0 := HRB.out.c0
  have k1 := HRB.out.c1
  have k2 := HRB.out.c2
  have k3 := HRB.out.c3
  have k4 := HRB.out.c4
  obtain ⟨F, hF⟩ : ∃ F, F = fname i := ⟨_, rfl⟩
  rw [← hF] at HFE HFS
  have HF := Lib.hid hF
  clear hF
  cases f with
  | any =>
    obtain rfl : k = ⟨#[97, 110, 121]⟩ := HRK.out
    go_enter Tryz.func7, Tryz.ntmps7
    go_wp2
    go_ret
    exact ⟨by rw [txF_any]; rfl, Gr.refl _⟩
  | has j a =>
    obtain ⟨rfl, rfl, rfl, ha0, ha1⟩ := HRK.out
    rw [show kHas = ⟨#[104, 97, 115]⟩ from rfl] at k0
    have HBL : Hid (Bd lo) := Lib.hid (by have := HOK.out; rw [okF] at this; exact this)
    clear ha0 ha1
    go_enter Tryz.func7, Tryz.ntmps7
    go_upto_region 10 with fail
    refine wp_region_gr (n := 15) [Fg.eq (.slice (some ⟨fb, fo, none⟩) 5 fc), Fg.eq (.pointer (some ⟨b, 0, none⟩)), Fg.eq (.pointer (some ⟨b, 0, none⟩)), Fg.eq (.pointer (some ⟨b, 1, none⟩)), Fg.eq (.int .i64 (i : Int)), Fg.eq (.pointer (some ⟨fb, fo + i, none⟩)), Fg.eq (.string F), Fg.eq (.string (F ++ ⟨#[32, 104, 97, 115, 32]⟩)), Fg.eq (.pointer (some ⟨b, 0, none⟩)), Fg.eq (.pointer (some ⟨b, 0, none⟩)), Fg.eq (.pointer (some ⟨b, 2, none⟩)), Fg.eq (.int .i64 lo), Fg.newI 0 lo, Fg.eq (.string (numS lo)), Fg.eq (.string ((F ++ ⟨#[32, 104, 97, 115, 32]⟩) ++ numS lo))] [51, 52, 53, 54, 55, 56, 57, 58, 59, 60, 61, 62, 63, 64, 65] (by kernel_rfl) (by kernel_rfl) (by kernel_rfl) ?_ ?_
    · intro L i' o' ac w1' hi' ho hA
      have hgr : Gr w' w1' := (Gr.refl w').drew.trans hA.gr
      match i', hi' with
      | 0, _ =>
        obtain rfl := Option.some.inj ho
        exact gstep_val (x_loadSl rfl rfl ((HW.out.trans hgr).cell HFD.out)) rfl
      | 1, _ =>
        obtain rfl := Option.some.inj ho
        exact gstep_val (m_move rfl (show ac.eval (.tmp 0) = .pointer (some ⟨b, 0, none⟩) from hA.other 0 (by decide))) rfl
      | 2, _ =>
        obtain rfl := Option.some.inj ho
        exact gstep_val (n_nil rfl (hA.fact 1 (hA.dep 1 (by kernel_rfl) (by decide)))) rfl
      | 3, _ =>
        obtain rfl := Option.some.inj ho
        exact gstep_val (n_fa1 rfl (hA.fact 2 (hA.dep 2 (by kernel_rfl) (by decide)))) rfl
      | 4, _ =>
        obtain rfl := Option.some.inj ho
        exact gstep_val (n_loadI rfl (hA.fact 3 (hA.dep 3 (by kernel_rfl) (by decide))) ((HRB.out.gr hgr).c1)) rfl
      | 5, _ =>
        obtain rfl := Option.some.inj ho
        exact gstep_val (x_idxS rfl (hA.fact 0 (hA.dep 0 (by kernel_rfl) (by decide))) (hA.fact 4 (hA.dep 4 (by kernel_rfl) (by decide))) HI5.out) rfl
      | 6, _ =>
        obtain rfl := Option.some.inj ho
        exact gstep_val (x_loadS rfl (hA.fact 5 (hA.dep 5 (by kernel_rfl) (by decide))) ((HW.out.trans hgr).cell HFE.out)) rfl
      | 7, _ =>
        obtain rfl := Option.some.inj ho
        exact gstep_val (x_cat rfl (hA.fact 6 (hA.dep 6 (by kernel_rfl) (by decide))) rfl (by have := HFS.out; show F.size + 5 ≤ _; omega)) rfl
      | 8, _ =>
        obtain rfl := Option.some.inj ho
        exact gstep_val (m_move rfl (show ac.eval (.tmp 0) = .pointer (some ⟨b, 0, none⟩) from hA.other 0 (by decide))) rfl
      | 9, _ =>
        obtain rfl := Option.some.inj ho
        exact gstep_val (n_nil rfl (hA.fact 8 (hA.dep 8 (by kernel_rfl) (by decide)))) rfl
      | 10, _ =>
        obtain rfl := Option.some.inj ho
        exact gstep_val (x_fa2 rfl (hA.fact 9 (hA.dep 9 (by kernel_rfl) (by decide)))) rfl
      | 11, _ =>
        obtain rfl := Option.some.inj ho
        exact gstep_val (n_loadI rfl (hA.fact 10 (hA.dep 10 (by kernel_rfl) (by decide))) ((HRB.out.gr hgr).c2)) rfl
      | 12, _ =>
        obtain rfl := Option.some.inj ho
        exact gstep_new (x_buildI rfl (hA.fact 11 (hA.dep 11 (by kernel_rfl) (by decide)))) ((Gr.refl _).alloc _) ⟨_, rfl, Nat.zero_le _, by simp⟩
      | 13, _ =>
        obtain rfl := Option.some.inj ho
        obtain ⟨gz, hz1, _, hz2⟩ := (hA.fact 12 (hA.dep 12 (by kernel_rfl) (by decide)))
        exact gstep_call (x_told rfl rfl hz1) ((told_one lo gz 0 1 _ hz2 HBL.out (HEN.out.gr (HW.out.trans hgr)).tab).mono (fun e w2 ⟨h1, h2⟩ => ⟨_, h1, h2, rfl⟩))
      | 14, _ =>
        obtain rfl := Option.some.inj ho
        exact gstep_val (x_cat rfl (hA.fact 7 (hA.dep 7 (by kernel_rfl) (by decide))) (hA.fact 13 (hA.dep 13 (by kernel_rfl) (by decide))) (by have := HFS.out; have := numS_size HBL.out; rw [ByteArray.size_append]; show F.size + 5 + (numS lo).size ≤ _; omega)) rfl
      | k + 15, hk => exact absurd (show k + 15 < 15 from hk) (by omega)
    · intro vs5 w5 hg5 hv
      have HG5 := Lib.hid ((Gr.refl w').drew.trans hg5)
      have vz : vs5 14 = .string ((F ++ ⟨#[32, 104, 97, 115, 32]⟩) ++ numS lo) := hv 14 (by omega)
      clear hv hg5
      simp only [putN, List.drop_succ_cons, List.drop_zero, List.getElem?_cons_succ, List.getElem?_cons_zero, vz]
      clear vz
      generalize vs5 0 = z0
      generalize vs5 1 = z1
      generalize vs5 2 = z2
      generalize vs5 3 = z3
      generalize vs5 4 = z4
      generalize vs5 5 = z5
      generalize vs5 6 = z6
      generalize vs5 7 = z7
      generalize vs5 8 = z8
      generalize vs5 9 = z9
      generalize vs5 10 = z10
      generalize vs5 11 = z11
      generalize vs5 12 = z12
      generalize vs5 13 = z13
      have HX : Hid ((F ++ ⟨#[32, 104, 97, 115, 32]⟩) ++ numS lo = txF (.has i lo)) := Lib.hid (by rw [HF.out]; exact txR_has i lo)
      rw [HX.out]
      go_wp2
      go_ret
      exact ⟨rfl, HG5.out⟩
  | test j a c =>
    obtain ⟨rfl, rfl, rfl, rfl⟩ := HRK.out
    rw [show kTest = ⟨#[116, 101, 115, 116]⟩ from rfl] at k0
    have HBL : Hid (Bd lo) := Lib.hid (by have := HOK.out; rw [okF] at this; exact this.1)
    have HBH : Hid (Bd hi) := Lib.hid (by have := HOK.out; rw [okF] at this; exact this.2)
    go_enter Tryz.func7, Tryz.ntmps7
    go_upto_region 5 with fail
    refine wp_region_gr (n := 15) [Fg.eq (.slice (some ⟨fb, fo, none⟩) 5 fc), Fg.eq (.pointer (some ⟨b, 0, none⟩)), Fg.eq (.pointer (some ⟨b, 0, none⟩)), Fg.eq (.pointer (some ⟨b, 1, none⟩)), Fg.eq (.int .i64 (i : Int)), Fg.eq (.pointer (some ⟨fb, fo + i, none⟩)), Fg.eq (.string F), Fg.eq (.string (F ++ ⟨#[32]⟩)), Fg.eq (.pointer (some ⟨b, 0, none⟩)), Fg.eq (.pointer (some ⟨b, 0, none⟩)), Fg.eq (.pointer (some ⟨b, 2, none⟩)), Fg.eq (.int .i64 lo), Fg.newI 0 lo, Fg.eq (.string (numS lo)), Fg.eq (.string ((F ++ ⟨#[32]⟩) ++ numS lo))] [15, 16, 17, 18, 19, 20, 21, 22, 23, 24, 25, 26, 27, 28, 29] (by kernel_rfl) (by kernel_rfl) (by kernel_rfl) ?_ ?_
    · intro L i' o' ac w1' hi' ho hA
      have hgr : Gr w' w1' := (Gr.refl w').drew.trans hA.gr
      match i', hi' with
      | 0, _ =>
        obtain rfl := Option.some.inj ho
        exact gstep_val (x_loadSl rfl rfl ((HW.out.trans hgr).cell HFD.out)) rfl
      | 1, _ =>
        obtain rfl := Option.some.inj ho
        exact gstep_val (m_move rfl (show ac.eval (.tmp 0) = .pointer (some ⟨b, 0, none⟩) from hA.other 0 (by decide))) rfl
      | 2, _ =>
        obtain rfl := Option.some.inj ho
        exact gstep_val (n_nil rfl (hA.fact 1 (hA.dep 1 (by kernel_rfl) (by decide)))) rfl
      | 3, _ =>
        obtain rfl := Option.some.inj ho
        exact gstep_val (n_fa1 rfl (hA.fact 2 (hA.dep 2 (by kernel_rfl) (by decide)))) rfl
      | 4, _ =>
        obtain rfl := Option.some.inj ho
        exact gstep_val (n_loadI rfl (hA.fact 3 (hA.dep 3 (by kernel_rfl) (by decide))) ((HRB.out.gr hgr).c1)) rfl
      | 5, _ =>
        obtain rfl := Option.some.inj ho
        exact gstep_val (x_idxS rfl (hA.fact 0 (hA.dep 0 (by kernel_rfl) (by decide))) (hA.fact 4 (hA.dep 4 (by kernel_rfl) (by decide))) HI5.out) rfl
      | 6, _ =>
        obtain rfl := Option.some.inj ho
        exact gstep_val (x_loadS rfl (hA.fact 5 (hA.dep 5 (by kernel_rfl) (by decide))) ((HW.out.trans hgr).cell HFE.out)) rfl
      | 7, _ =>
        obtain rfl := Option.some.inj ho
        exact gstep_val (x_cat rfl (hA.fact 6 (hA.dep 6 (by kernel_rfl) (by decide))) rfl (by have := HFS.out; show F.size + 1 ≤ _; omega)) rfl
      | 8, _ =>
        obtain rfl := Option.some.inj ho
        exact gstep_val (m_move rfl (show ac.eval (.tmp 0) = .pointer (some ⟨b, 0, none⟩) from hA.other 0 (by decide))) rfl
      | 9, _ =>
        obtain rfl := Option.some.inj ho
        exact gstep_val (n_nil rfl (hA.fact 8 (hA.dep 8 (by kernel_rfl) (by decide)))) rfl
      | 10, _ =>
        obtain rfl := Option.some.inj ho
        exact gstep_val (x_fa2 rfl (hA.fact 9 (hA.dep 9 (by kernel_rfl) (by decide)))) rfl
      | 11, _ =>
        obtain rfl := Option.some.inj ho
        exact gstep_val (n_loadI rfl (hA.fact 10 (hA.dep 10 (by kernel_rfl) (by decide))) ((HRB.out.gr hgr).c2)) rfl
      | 12, _ =>
        obtain rfl := Option.some.inj ho
        exact gstep_new (x_buildI rfl (hA.fact 11 (hA.dep 11 (by kernel_rfl) (by decide)))) ((Gr.refl _).alloc _) ⟨_, rfl, Nat.zero_le _, by simp⟩
      | 13, _ =>
        obtain rfl := Option.some.inj ho
        obtain ⟨gz, hz1, _, hz2⟩ := (hA.fact 12 (hA.dep 12 (by kernel_rfl) (by decide)))
        exact gstep_call (x_told rfl rfl hz1) ((told_one lo gz 0 1 _ hz2 HBL.out (HEN.out.gr (HW.out.trans hgr)).tab).mono (fun e w2 ⟨h1, h2⟩ => ⟨_, h1, h2, rfl⟩))
      | 14, _ =>
        obtain rfl := Option.some.inj ho
        exact gstep_val (x_cat rfl (hA.fact 7 (hA.dep 7 (by kernel_rfl) (by decide))) (hA.fact 13 (hA.dep 13 (by kernel_rfl) (by decide))) (by have := HFS.out; have := numS_size HBL.out; rw [ByteArray.size_append]; show F.size + 1 + (numS lo).size ≤ _; omega)) rfl
      | k + 15, hk => exact absurd (show k + 15 < 15 from hk) (by omega)
    · intro vs5 w5 hg5 hv
      have HG5 := Lib.hid ((Gr.refl w').drew.trans hg5)
      have vz : vs5 14 = .string ((F ++ ⟨#[32]⟩) ++ numS lo) := hv 14 (by omega)
      clear hv hg5
      simp only [putN, List.drop_succ_cons, List.drop_zero, List.getElem?_cons_succ, List.getElem?_cons_zero, vz]
      clear vz
      generalize vs5 0 = z0
      generalize vs5 1 = z1
      generalize vs5 2 = z2
      generalize vs5 3 = z3
      generalize vs5 4 = z4
      generalize vs5 5 = z5
      generalize vs5 6 = z6
      generalize vs5 7 = z7
      generalize vs5 8 = z8
      generalize vs5 9 = z9
      generalize vs5 10 = z10
      generalize vs5 11 = z11
      generalize vs5 12 = z12
      generalize vs5 13 = z13
      have k2' := HG5.out.cell k2
      have k3' := HG5.out.cell k3
      have HRW := Lib.hid (HW.out.trans HG5.out)
      have HZ := Lib.hid (show ((F ++ ⟨#[32]⟩) ++ numS lo).size ≤ 30 from by have h1 := HFS.out; have h2 := numS_size HBL.out; rw [ByteArray.size_append, ByteArray.size_append]; show F.size + 1 + (numS lo).size ≤ _; omega)
      by_cases hlh : lo = hi
      · have HX : Hid ((F ++ ⟨#[32]⟩) ++ numS lo = txF (.test i lo hi)) := Lib.hid (by rw [HF.out, ← hlh]; exact txR_one i lo)
        rw [HX.out]
        subst hlh
        go_upto_region 6 with fail
        go_quiet (fail)
        go_wp2
        go_ret
        exact ⟨rfl, HG5.out.trans (gr_drewN _ _)⟩
      · have HX : Hid (((F ++ ⟨#[32]⟩) ++ numS lo) ++ (⟨#[46, 46]⟩ ++ numS hi) = txF (.test i lo hi)) := Lib.hid (by rw [HF.out]; exact txR_two i lo hi hlh)
        obtain ⟨Y, hY⟩ : ∃ Y, Y = (F ++ ⟨#[32]⟩) ++ numS lo := ⟨_, rfl⟩
        rw [← hY] at HX HZ ⊢
        clear hY
        have hne : ¬ hi = lo := fun e => hlh e.symm
        obtain ⟨X, hX⟩ : ∃ X, X = numS hi := ⟨_, rfl⟩
        have HXS : Hid (X.size ≤ 21) := Lib.hid (by rw [hX]; exact numS_size HBH.out)
        rw [← hX] at HX
        have HTC : Hid (∀ (g off c : Nat) (w : World), w.cell? ⟨g, off, none⟩ = some (.int .i64 hi) → Tab w → Calls Tryz.prog 15 #[.slice (some ⟨g, off, none⟩) 1 c] w fun e w' => e = .returned (.string X) ∧ Gr w w') := Lib.hid (fun g off c w h1 h2 => by rw [hX]; exact told_one hi g off c w h1 HBH.out h2)
        clear hX
        have l1 : ¬ 9223372036854775807 < 2 + X.size := by have := HXS.out; omega
        have l2 : ¬ 9223372036854775807 < Y.size + (2 + X.size) := by have := HXS.out; have := HZ.out; omega
        go_upto_region 6 with fail
        go_quiet (fail)
        go_wp2_with (go_at_call 15; refine (HTC.out _ _ _ _ ((HB.new _ _ _).c 0 rfl) (HEN.out.gr ((HRW.out.trans (gr_drewN _ _)).alloc _)).tab).mono ?_; rintro E w6 ⟨rfl, hg6⟩; have HG6 := Lib.hid (((HG5.out.trans (gr_drewN _ _)).alloc _).trans hg6); clear hg6)
        go_ret
        exact ⟨by rw [HX.out]; rfl, HG6.out⟩
  | not g =>
    obtain ⟨rfl, u, hrow, hkid⟩ := HRK.out
    rw [show kNot = ⟨#[110, 111, 116]⟩ from rfl] at k0
    obtain ⟨g0, off, cap, rfl, _, _, hcell⟩ := Row.cells hrow (by simp)
    obtain ⟨ku, rfl⟩ := hkid.ptr
    have hcl : w'.cell? ⟨g0, off, none⟩ = some (.pointer (some ⟨ku, 0, none⟩)) := HW.out.cell (hcell 0 _ rfl)
    have HGL : Hid ((textF g).length + 4 ≤ 1000000) := Lib.hid (by have := HLN.out; rw [text_not] at this; simp only [List.length_append, List.length_cons, List.length_nil] at this; omega)
    have HX := Lib.hid (txF_not g)
    have HCA := Lib.hid (IH hkid (by have := HOK.out; rw [okF] at this; exact this) (by have := HGL.out; omega) w' HW.out)
    have hsz : ¬ 9223372036854775807 < 4 + (txF g).size := by have := HGL.out; rw [txF_size]; omega
    obtain ⟨T, hT⟩ : ∃ T, T = txF g := ⟨_, rfl⟩
    rw [← hT] at HX HCA hsz
    clear hrow hkid hcell hT
    go_enter Tryz.func7, Tryz.ntmps7
    go_wp2_with (go_at_call 7; refine HCA.out.mono ?_; rintro E w6 ⟨rfl, hg6⟩; have HG6 := Lib.hid hg6; clear hg6)
    go_ret
    exact ⟨by rw [HX.out]; rfl, HG6.out⟩
  | many l o =>
    obtain ⟨rfl, vs, hrow, hl, h0, h1, hkid⟩ := HRK.out
    obtain ⟨g0, off, cap, rfl, hcap, hcap2, hcell⟩ := Row.cells hrow (by rw [hl]; exact h0)
    obtain ⟨n, hn⟩ : ∃ n, n = l.length := ⟨_, rfl⟩
    rw [hl] at hcap k4
    rw [← hn] at hcap k4 h0 h1 hkid
    have HN := Lib.hid hn
    have HKID : Hid (∀ j, j < n → ∃ kb, vs.getD j (.pointer none) = .pointer (some ⟨kb, 0, none⟩) ∧ w'.cell? ⟨g0, off + j, none⟩ = some (.pointer (some ⟨kb, 0, none⟩)) ∧ RFl S d w (.pointer (some ⟨kb, 0, none⟩)) (l.getD j .any)) := Lib.hid (fun j hj => by
      have h3 := hkid j hj
      obtain ⟨kb, hkb⟩ := h3.ptr
      rw [hkb] at h3
      exact ⟨kb, hkb, HW.out.cell (by rw [← hkb]; exact hcell j _ (by rw [List.getD_eq_getElem?_getD, List.getElem?_eq_getElem (by rw [hl, ← hn]; exact hj)]; rfl)), h3⟩)
    have HJN : Hid (∀ j, (jtx l o j).size ≤ 1000000) := Lib.hid (fun j => Nat.le_trans (jtx_size l o j) HLN.out)
    clear hrow hkid hcell hl hcap hcap2 hn
    have n0 : (0 : Int) < (n : Int) := by omega
    have n1 : (n : Int) ≤ 2001 := by omega
    cases o
    · have k0' : w'.cell? ⟨b, 0, none⟩ = some (.string ⟨#[97, 110, 100]⟩) := k0
      clear k0
      go_enter Tryz.func7, Tryz.ntmps7
      go_wp2
      go_loopw [4, 81] (fun s4 s81 wr => ∃ j : Nat, j ≤ n ∧ s81 = .int .i64 (j : Int) ∧ s4 = .string (jtx l false j) ∧ Hid (Gr w' wr)) (fun _ s _ => n - (intOf s).toNat)
      case atStart => exact ⟨0, Nat.zero_le _, rfl, rfl, Lib.hid (Gr.refl _)⟩
      case round =>
        obtain ⟨j, hj, rfl, rfl, HG6⟩ := hrel
        have j0 : (0 : Int) ≤ (j : Int) := by omega
        have HJS := Lib.hid (HJN.out j)
        obtain ⟨T, hT⟩ : ∃ T, T = jtx l false j := ⟨_, rfl⟩
        rw [← hT] at HJS ⊢
        by_cases hlt : j < n
        · have j1 : (j : Int) < (n : Int) := by omega
          obtain ⟨kb, _, hce, hfl⟩ := HKID.out j hlt
          have hce' : wr.cell? ⟨g0, off + j, none⟩ = some (.pointer (some ⟨kb, 0, none⟩)) := HG6.out.cell hce
          have HLJ : Hid (j < l.length) := Lib.hid (by rw [← HN.out]; exact hlt)
          have HCA := Lib.hid (IH hfl (kid_ok HLJ.out HOK.out) (Nat.le_trans (kid_len HLJ.out) HLN.out) wr (HW.out.trans HG6.out))
          have HXS : Hid ((txF (l.getD j .any)).size ≤ 1000000) := Lib.hid (by rw [txF_size]; exact Nat.le_trans (kid_len HLJ.out) HLN.out)
          clear hce hfl
          by_cases hj0 : j = 0
          · have j2 : ¬ (0 : Int) < (j : Int) := by omega
            have HNX : Hid ((⟨#[]⟩ : ByteArray) ++ txF (l.getD j .any) = jtx l false (j + 1)) := Lib.hid (by rw [hj0]; exact jtx_one (Nat.lt_of_le_of_lt (Nat.zero_le _) HLJ.out))
            obtain rfl : T = ⟨#[]⟩ := by rw [hT, hj0]; rfl
            obtain ⟨X, hX⟩ : ∃ X, X = txF (l.getD j .any) := ⟨_, rfl⟩
            rw [← hX] at HNX HCA HXS
            clear hX hT hj0
            have l2 : ¬ 9223372036854775807 < X.size := by have := HXS.out; omega
            go_wp2_with (go_at_call 7; refine HCA.out.mono ?_; rintro E w9 ⟨rfl, hg9⟩; have HG9 := Lib.hid (HG6.out.trans hg9); clear hg9)
            go_roundw
            case rel => exact ⟨j + 1, by omega, by go_num, (by rw [← HNX.out]), HG9⟩
            case measure => simp [intOf] <;> omega
          · have j2 : (0 : Int) < (j : Int) := by omega
            have HNX : Hid ((T ++ ⟨#[32, 97, 110, 100, 32]⟩) ++ txF (l.getD j .any) = jtx l false (j + 1)) := Lib.hid (by rw [hT]; exact jtx_next HLJ.out (by omega))
            obtain ⟨X, hX⟩ : ∃ X, X = txF (l.getD j .any) := ⟨_, rfl⟩
            rw [← hX] at HNX HCA HXS
            clear hX hT hj0
            have k0 := HG6.out.cell k0'
            have l1 : ¬ 9223372036854775807 < T.size + 5 := by have := HJS.out; omega
            have l2 : ¬ 9223372036854775807 < T.size + 5 + X.size := by have := HXS.out; have := HJS.out; omega
            go_wp2_with (go_at_call 7; refine HCA.out.mono ?_; rintro E w9 ⟨rfl, hg9⟩; have HG9 := Lib.hid (HG6.out.trans hg9); clear hg9)
            go_roundw
            case rel => exact ⟨j + 1, by omega, by go_num, (by rw [← HNX.out]; rfl), HG9⟩
            case measure => simp [intOf]; omega
        · obtain rfl : j = n := by omega
          have HE : Hid (((⟨#[40]⟩ : ByteArray) ++ T) ++ ⟨#[41]⟩ = txF (.many l false)) := Lib.hid (by rw [hT, HN.out]; exact jtx_end l false)
          clear hT
          have l1 : ¬ 9223372036854775807 < 1 + T.size := by have := HJS.out; omega
          have l2 : ¬ 9223372036854775807 < 1 + T.size + 1 := by have := HJS.out; omega
          go_wp2
          go_ret
          exact ⟨by rw [HE.out]; rfl, HG6.out⟩
    · have k0' : w'.cell? ⟨b, 0, none⟩ = some (.string ⟨#[111, 114]⟩) := k0
      clear k0
      go_enter Tryz.func7, Tryz.ntmps7
      go_wp2
      go_loopw [4, 81] (fun s4 s81 wr => ∃ j : Nat, j ≤ n ∧ s81 = .int .i64 (j : Int) ∧ s4 = .string (jtx l true j) ∧ Hid (Gr w' wr)) (fun _ s _ => n - (intOf s).toNat)
      case atStart => exact ⟨0, Nat.zero_le _, rfl, rfl, Lib.hid (Gr.refl _)⟩
      case round =>
        obtain ⟨j, hj, rfl, rfl, HG6⟩ := hrel
        have j0 : (0 : Int) ≤ (j : Int) := by omega
        have HJS := Lib.hid (HJN.out j)
        obtain ⟨T, hT⟩ : ∃ T, T = jtx l true j := ⟨_, rfl⟩
        rw [← hT] at HJS ⊢
        by_cases hlt : j < n
        · have j1 : (j : Int) < (n : Int) := by omega
          obtain ⟨kb, _, hce, hfl⟩ := HKID.out j hlt
          have hce' : wr.cell? ⟨g0, off + j, none⟩ = some (.pointer (some ⟨kb, 0, none⟩)) := HG6.out.cell hce
          have HLJ : Hid (j < l.length) := Lib.hid (by rw [← HN.out]; exact hlt)
          have HCA := Lib.hid (IH hfl (kid_ok HLJ.out HOK.out) (Nat.le_trans (kid_len HLJ.out) HLN.out) wr (HW.out.trans HG6.out))
          have HXS : Hid ((txF (l.getD j .any)).size ≤ 1000000) := Lib.hid (by rw [txF_size]; exact Nat.le_trans (kid_len HLJ.out) HLN.out)
          clear hce hfl
          by_cases hj0 : j = 0
          · have j2 : ¬ (0 : Int) < (j : Int) := by omega
            have HNX : Hid ((⟨#[]⟩ : ByteArray) ++ txF (l.getD j .any) = jtx l true (j + 1)) := Lib.hid (by rw [hj0]; exact jtx_one (Nat.lt_of_le_of_lt (Nat.zero_le _) HLJ.out))
            obtain rfl : T = ⟨#[]⟩ := by rw [hT, hj0]; rfl
            obtain ⟨X, hX⟩ : ∃ X, X = txF (l.getD j .any) := ⟨_, rfl⟩
            rw [← hX] at HNX HCA HXS
            clear hX hT hj0
            have l2 : ¬ 9223372036854775807 < X.size := by have := HXS.out; omega
            go_wp2_with (go_at_call 7; refine HCA.out.mono ?_; rintro E w9 ⟨rfl, hg9⟩; have HG9 := Lib.hid (HG6.out.trans hg9); clear hg9)
            go_roundw
            case rel => exact ⟨j + 1, by omega, by go_num, (by rw [← HNX.out]), HG9⟩
            case measure => simp [intOf] <;> omega
          · have j2 : (0 : Int) < (j : Int) := by omega
            have HNX : Hid ((T ++ ⟨#[32, 111, 114, 32]⟩) ++ txF (l.getD j .any) = jtx l true (j + 1)) := Lib.hid (by rw [hT]; exact jtx_next HLJ.out (by omega))
            obtain ⟨X, hX⟩ : ∃ X, X = txF (l.getD j .any) := ⟨_, rfl⟩
            rw [← hX] at HNX HCA HXS
            clear hX hT hj0
            have k0 := HG6.out.cell k0'
            have l1 : ¬ 9223372036854775807 < T.size + 4 := by have := HJS.out; omega
            have l2 : ¬ 9223372036854775807 < T.size + 4 + X.size := by have := HXS.out; have := HJS.out; omega
            go_wp2_with (go_at_call 7; refine HCA.out.mono ?_; rintro E w9 ⟨rfl, hg9⟩; have HG9 := Lib.hid (HG6.out.trans hg9); clear hg9)
            go_roundw
            case rel => exact ⟨j + 1, by omega, by go_num, (by rw [← HNX.out]; rfl), HG9⟩
            case measure => simp [intOf]; omega
        · obtain rfl : j = n := by omega
          have HE : Hid (((⟨#[40]⟩ : ByteArray) ++ T) ++ ⟨#[41]⟩ = txF (.many l true)) := Lib.hid (by rw [hT, HN.out]; exact jtx_end l true)
          clear hT
          have l1 : ¬ 9223372036854775807 < 1 + T.size := by have := HJS.out; omega
          have l2 : ¬ 9223372036854775807 < 1 + T.size + 1 := by have := HJS.out; omega
          go_wp2
          go_ret
          exact ⟨by rw [HE.out]; rfl, HG6.out⟩
theorem rtext_any {S : Nat → Prop} {w : World} (he : Env w) : ∀ {d : Nat} {v : Value} {f : Flt}, RFl S d w v f → okF f → (textF f).length ≤ 1000000 → ∀ w', Gr w w' → Calls Tryz.prog 7 #[v] w' fun E w2 => E = .returned (.string (txF f)) ∧ Gr w' w2
  | 0, _, _, h, _, _, _, _ => h.elim
  | _ + 1, _, _, h, ho, hl, w', hw => rtext_succ he (fun h' => rtext_any he h') h ho hl w' hw
end Go.Proofs.YthkccohigoejgaaGreatDoor

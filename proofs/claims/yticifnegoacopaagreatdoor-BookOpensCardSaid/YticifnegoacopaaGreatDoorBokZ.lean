/-
  The program's Crash. (Printed by genbokz.py.)
-/
import Derived.Test.YticifnegoacopaaGreatDoorBokCC
namespace Go.Proofs.YticifnegoacopaaGreatDoor
open Go Go.RowKit

theorem cells_extract (d : ByteArray) (m : Nat) : Lib.strCells (d.extract 0 m) = (Lib.strCells d).take m := by
  simp [Lib.strCells, ByteArray.data_extract, List.map_take]
theorem ext_len {d : ByteArray} {m : Nat} (h : m ≤ d.size) : (d.extract 0 m).size = m := by
  rw [ByteArray.size_extract]
  omega
/-- data[:m] -/
theorem BytesAt.pre {w : World} {a : Option Addr} {n c m : Nat} {d : ByteArray} (h : BytesAt w (.slice a n c) d) (hm : m ≤ d.size) : BytesAt w (.slice a m c) (d.extract 0 m) := by
  obtain ⟨a', c', e, h⟩ := h
  cases e
  refine ⟨a, c, by rw [ext_len hm], ?_⟩
  rcases h with h | ⟨ad, rfl, hl, hc⟩
  · exact .inl (by rw [ext_len hm]; omega)
  · refine .inr ⟨ad, rfl, hl, fun j v hv => hc j v ?_⟩
    rw [cells_extract, List.getElem?_take] at hv
    split at hv
    · exact hv
    · cases hv
section
variable {ev : Operand → Value} {o : Oper} {w : World} {x y z : Operand} {u : Value}
theorem s_fb3 {p : Nat} (ho : o.op = .fieldAddr 28 x 3) (h : ev x = .pointer (some ⟨p, 0, none⟩)) : (execOp ev o).run Tryz.prog w = .ok (.value (.pointer (some ⟨p, 3, none⟩))) w := by simp [execOp, ho, h, go_sem]
theorem s_addN {a b c : Int} (ho : o.op = .binOp .add 3 x y 3) (h : ev x = .int .i64 a) (k : ev y = .int .i64 b) (hc : a + b = c) (h1 : 0 ≤ c) (h2 : c ≤ 1000000) : (execOp ev o).run Tryz.prog w = .ok (.value (.int .i64 c)) w := by
  have hw : IntKind.i64.wrap (a + b) = c := by rw [IntKind.wrap_i64]; omega
  simp [execOp, ho, h, k, hw, go_sem]
theorem s_preB {a : Option Addr} {n c m : Nat} (ho : o.op = .slice 25 x none (some y) none) (h : ev x = .slice a n c) (k : ev y = .int .i64 (m : Int)) (hm : m ≤ n) (hn : n ≤ c) (ha : a = none → c = 0) : (execOp ev o).run Tryz.prog w = .ok (.value (.slice a m c)) w := by
  have h0 : (0 : Int) ≤ (m : Int) := by omega
  have h1 : (m : Int) ≤ (c : Int) := by omega
  cases a with
  | none =>
    obtain rfl := ha rfl
    obtain rfl : m = 0 := by omega
    simp [execOp, ho, h, k, go_sem]
  | some ad => simp [execOp, ho, h, k, h0, h1, go_sem]
theorem s_build2 {a b : Value} (ho : o.op = .buildSlice 88 2 #[(0, x), (1, y)]) (h : ev x = a) (k : ev y = b) (ha : ∃ p n c, a = .slice p n c) (hb : ∃ p n c, b = .slice p n c) : (execOp ev o).run Tryz.prog w = .ok (.value (.slice (some ⟨w.heap.size, 0, none⟩) 2 2)) (w.alloc (.cells #[a, b] 25)) := by
  obtain ⟨_, _, _, rfl⟩ := ha
  obtain ⟨_, _, _, rfl⟩ := hb
  simp [execOp, ho, h, k, go_sem]
theorem s_concat {a : Value} (ho : o.op = .call { callee := .value (.func 29), args := #[x], argTypes := #[88] }) (hf : ev (.func 29) = .func (.func 29) #[] #[]) (h : ev x = a) : (execOp ev o).run Tryz.prog w = .ok (.enter 29 #[a]) w := by
  simp [execOp, ho, hf, h, resolve, invoke, go_sem]
end
def Fg.two (a b : Value) : Fg := ⟨fun u w => ∃ g, u = .slice (some ⟨g, 0, none⟩) 2 2 ∧ w.cell? ⟨g, 0, none⟩ = some a ∧ w.cell? ⟨g, 1, none⟩ = some b, fun _ _ _ ⟨g, h1, h2, h3⟩ k => ⟨g, h1, k.cell h2, k.cell h3⟩⟩
def Fg.ownB (base : Nat) (d : ByteArray) : Fg := ⟨fun u w => OwnB w base u d, fun _ _ _ h k => h.gr k⟩
theorem OwnB.nilCap {w : World} {base : Nat} {a : Option Addr} {n c : Nat} {d : ByteArray} (h : OwnB w base (.slice a n c) d) : a = none → c = 0 := fun e => by
  subst e
  rcases h.2 with ⟨e, _⟩ | ⟨g, cap, cur, e, _⟩
  · cases e; rfl
  · cases e

set_option maxRecDepth 100000 in
set_option maxHeartbeats 8000000 in
/-- Crash: refused. -/
theorem crash_no {w : World} {n0 p s : Nat} {L : List Ent} (h : Bok w n0 p L s) (keep : Int) (tv : Value) (hk : keep < 0 ∨ ((journal L).size : Int) - (s : Int) < keep) : Calls Tryz.prog 18 #[.pointer (some ⟨p, 0, none⟩), .int .i64 keep, tv] w fun e w' => e = .returned (.tuple #[.slice none 0 0, errV 2]) ∧ Gr w w' := by
  obtain ⟨mv, dv, h⟩ := h
  obtain ⟨da, dc, rfl⟩ := h.shape
  have c2 := h.c2
  have c3 := h.c3
  have hs := h.sure
  have hz := h.ok.size
  generalize (journal L).size = N at *
  have n0' : (0 : Int) ≤ (N : Int) := by omega
  have n1 : (N : Int) ≤ 50000 := by omega
  have n2 : (0 : Int) ≤ (s : Int) := by omega
  have n3 : (s : Int) ≤ (N : Int) := by omega
  have hw : IntKind.i64.wrap ((N : Int) - (s : Int)) = (N : Int) - (s : Int) := by rw [IntKind.wrap_i64]; omega
  clear h
  by_cases h1 : keep < 0
  · clear hk
    go_enter Tryz.func18, Tryz.ntmps18
    go_wp2
    go_quiet (fail)
    go_wp2
    all_goals (try (exfalso; omega))
    exact bodyPost_ret (v := .tuple #[.slice none 0 0, errV 2]) (by simp [results, Tryz.results18, go_sem, errV]) rfl ⟨rfl, (Gr.refl _).drewN _⟩
  · have h2 : (N : Int) - (s : Int) < keep := hk.resolve_left h1
    clear hk
    go_enter Tryz.func18, Tryz.ntmps18
    go_wp2
    go_quiet (fail)
    go_wp2
    all_goals (try (exfalso; omega))
    exact bodyPost_ret (v := .tuple #[.slice none 0 0, errV 2]) (by simp [results, Tryz.results18, go_sem, errV]) rfl ⟨rfl, (Gr.refl _).drewN _⟩

set_option maxRecDepth 100000 in
set_option maxHeartbeats 8000000 in
/-- Crash: what is left. -/
theorem crash_yes {w : World} {n0 p s k : Nat} {L : List Ent} (h : Bok w n0 p L s) {tv : Value} {x : ByteArray} (ht : BytesAt w tv x) (hx : x.size ≤ 50000) (hk : s + k ≤ (journal L).size) : Calls Tryz.prog 18 #[.pointer (some ⟨p, 0, none⟩), .int .i64 (k : Int), tv] w fun e w' => ∃ v, e = .returned (.tuple #[v, .nilIface]) ∧ OwnB w' w.heap.size v ((journal L).extract 0 (s + k) ++ x) ∧ Gr w w' := by
  obtain ⟨mv, dv, h⟩ := h
  obtain ⟨da, dc, rfl⟩ := h.shape
  have c2 := h.c2
  have c3 := h.c3
  have hz := h.ok.size
  have HD : Hid (OwnB w n0 (.slice da (journal L).size dc) (journal L)) := Lib.hid h.data
  have HC := Lib.hid (And.intro c2 c3)
  have HT := Lib.hid ht
  have HX := Lib.hid hx
  have HCAP : Hid ((journal L).size ≤ dc) := Lib.hid (by
    obtain ⟨a, c, e, hc⟩ := HD.out.shape
    cases e
    exact hc)
  have HKK := Lib.hid hk
  have HZ := Lib.hid hz
  obtain ⟨N, hN⟩ : ∃ N, N = (journal L).size := ⟨_, rfl⟩
  have HN := Lib.hid hN
  rw [← hN] at HC HD c2 hk hz
  have HTS : Hid (∃ p n c, tv = .slice p n c) := Lib.hid (by obtain ⟨a, c, e, _⟩ := ht; exact ⟨a, _, c, e⟩)
  have n0' : (0 : Int) ≤ (N : Int) := by omega
  have n1 : (N : Int) ≤ 50000 := by omega
  have n2 : (0 : Int) ≤ (s : Int) := by omega
  have n3 : (s : Int) ≤ (N : Int) := by omega
  have n4 : (0 : Int) ≤ (k : Int) := by omega
  have n5 : ¬ (N : Int) - (s : Int) < (k : Int) := by omega
  have n6 : ¬ (k : Int) < 0 := by omega
  have hw : IntKind.i64.wrap ((N : Int) - (s : Int)) = (N : Int) - (s : Int) := by rw [IntKind.wrap_i64]; omega
  clear h ht hx hN
  go_enter Tryz.func18, Tryz.ntmps18
  go_wp2
  go_quiet (fail)
  go_wp2
  refine wp_region_gr (n := 14) [Fg.eq (.pointer (some ⟨p, 0, none⟩)), Fg.eq (.pointer (some ⟨p, 0, none⟩)), Fg.eq (.pointer (some ⟨p, 2, none⟩)), Fg.eq (.slice da N dc), Fg.eq (.pointer (some ⟨p, 0, none⟩)), Fg.eq (.pointer (some ⟨p, 0, none⟩)), Fg.eq (.pointer (some ⟨p, 3, none⟩)), Fg.eq (.int .i64 (s : Int)), Fg.eq (.int .i64 (k : Int)), Fg.eq (.int .i64 ((s + k : Nat) : Int)), Fg.eq (.slice da (s + k) dc), Fg.eq tv, Fg.two (.slice da (s + k) dc) tv, Fg.ownB w.heap.size ((journal L).extract 0 (s + k) ++ x)] [25, 26, 27, 28, 29, 30, 31, 32, 33, 34, 35, 36, 37, 38] (by kernel_rfl) (by kernel_rfl) (by kernel_rfl) ?_ ?_
  · intro Ls i' o' ac w1' hi' ho hA
    have hgr : Gr w w1' := (((Gr.refl w).drewN _).drew).trans hA.gr
    match i', hi' with
    | 0, _ =>
      obtain rfl := Option.some.inj ho
      exact gstep_val (s_move rfl (show ac.eval (.tmp 0) = .pointer (some ⟨p, 0, none⟩) from hA.other 0 (by decide))) rfl
    | 1, _ =>
      obtain rfl := Option.some.inj ho
      exact gstep_val (s_nil rfl (hA.fact 0 (hA.dep 0 (by kernel_rfl) (by decide)))) rfl
    | 2, _ =>
      obtain rfl := Option.some.inj ho
      exact gstep_val (s_fb2 rfl (hA.fact 1 (hA.dep 1 (by kernel_rfl) (by decide)))) rfl
    | 3, _ =>
      obtain rfl := Option.some.inj ho
      exact gstep_val (s_loadD ⟨_, _, _, rfl⟩ rfl (hA.fact 2 (hA.dep 2 (by kernel_rfl) (by decide))) (hgr.cell HC.out.1)) rfl
    | 4, _ =>
      obtain rfl := Option.some.inj ho
      exact gstep_val (s_move rfl (show ac.eval (.tmp 0) = .pointer (some ⟨p, 0, none⟩) from hA.other 0 (by decide))) rfl
    | 5, _ =>
      obtain rfl := Option.some.inj ho
      exact gstep_val (s_nil rfl (hA.fact 4 (hA.dep 4 (by kernel_rfl) (by decide)))) rfl
    | 6, _ =>
      obtain rfl := Option.some.inj ho
      exact gstep_val (s_fb3 rfl (hA.fact 5 (hA.dep 5 (by kernel_rfl) (by decide)))) rfl
    | 7, _ =>
      obtain rfl := Option.some.inj ho
      exact gstep_val (s_loadN rfl (hA.fact 6 (hA.dep 6 (by kernel_rfl) (by decide))) (hgr.cell HC.out.2)) rfl
    | 8, _ =>
      obtain rfl := Option.some.inj ho
      exact gstep_val (s_move rfl (show ac.eval (.tmp 1) = .int .i64 (k : Int) from hA.other 1 (by decide))) rfl
    | 9, _ =>
      obtain rfl := Option.some.inj ho
      exact gstep_val (s_addN rfl (hA.fact 7 (hA.dep 7 (by kernel_rfl) (by decide))) (hA.fact 8 (hA.dep 8 (by kernel_rfl) (by decide))) (by omega) (by omega) (by omega)) rfl
    | 10, _ =>
      obtain rfl := Option.some.inj ho
      exact gstep_val (s_preB rfl (hA.fact 3 (hA.dep 3 (by kernel_rfl) (by decide))) (hA.fact 9 (hA.dep 9 (by kernel_rfl) (by decide))) hk (by rw [HN.out]; exact HCAP.out) HD.out.nilCap) rfl
    | 11, _ =>
      obtain rfl := Option.some.inj ho
      exact gstep_val (s_move rfl (show ac.eval (.tmp 2) = tv from hA.other 2 (by decide))) rfl
    | 12, _ =>
      obtain rfl := Option.some.inj ho
      exact gstep_new (s_build2 rfl (hA.fact 10 (hA.dep 10 (by kernel_rfl) (by decide))) (hA.fact 11 (hA.dep 11 (by kernel_rfl) (by decide))) ⟨_, _, _, rfl⟩ HTS.out) ((Gr.refl _).alloc _) ⟨_, rfl, by simp, by simp⟩
    | 13, _ =>
      obtain rfl := Option.some.inj ho
      obtain ⟨gz, hz1, hz2, hz3⟩ := (hA.fact 12 (hA.dep 12 (by kernel_rfl) (by decide)))
      exact gstep_call (s_concat rfl rfl hz1) ((concat_two hz2 hz3 (((HD.out.gr hgr).bytes).pre HKK.out) (HT.out.gr hgr) (by rw [ext_len HKK.out]; have := HZ.out; have := HKK.out; omega) HX.out).mono (fun e w2 ⟨v, h1, h2, h3⟩ => ⟨v, h1, h3, h2.low hgr.size⟩))
    | k' + 14, hk' => exact absurd (show k' + 14 < 14 from hk') (by omega)
  · intro vs5 w5 hg5 hv
    have hrow : OwnB w5 w.heap.size (vs5 13) ((journal L).extract 0 (s + k) ++ x) := hv 13 (by omega)
    have HG5 := Lib.hid ((((Gr.refl w).drewN _).drew).trans hg5)
    have HR := Lib.hid hrow
    clear hv hg5 hrow
    simp only [putN, List.drop_succ_cons, List.drop_zero, List.getElem?_cons_succ, List.getElem?_cons_zero]
    generalize vs5 0 = z0 at *
    generalize vs5 1 = z1 at *
    generalize vs5 2 = z2 at *
    generalize vs5 3 = z3 at *
    generalize vs5 4 = z4 at *
    generalize vs5 5 = z5 at *
    generalize vs5 6 = z6 at *
    generalize vs5 7 = z7 at *
    generalize vs5 8 = z8 at *
    generalize vs5 9 = z9 at *
    generalize vs5 10 = z10 at *
    generalize vs5 11 = z11 at *
    generalize vs5 12 = z12 at *
    generalize vs5 13 = z13 at *
    go_wp2
    exact bodyPost_ret (v := .tuple #[z13, .nilIface]) (by simp [results, Tryz.results18, go_sem]) rfl ⟨_, rfl, HR.out, HG5.out⟩
end Go.Proofs.YticifnegoacopaaGreatDoor

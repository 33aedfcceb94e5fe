/-
  FilterParses, walked.
-/
import Derived.Test.YthkccohigoejgaaGreatDoorFltXB
import Derived.Test.YthkccohigoejgaaGreatDoorFltRH
import Derived.Test.YthkccohigoejgaaGreatDoorErr
namespace Go.Proofs.YthkccohigoejgaaGreatDoor
open Go Go.RowKit

/-- A call without arguments through an interface value, as a guarded walk meets it. -/
theorem meth_run0 {ti : TypeId} {yi r : Value} {name : String} {f : FuncId} (hm : Meth (.iface ti yi) name f r) (w : World) : ((Sem.run Tryz.prog (method 299 ti yi name) w).andThen fun a w' => Sem.run Tryz.prog (callFunc a.fst #[a.snd]) w') = .ok (.enter f #[r]) w := by
  have h := hm #[] w
  simpa [callMethod, go_sem] using h
theorem fed_len {t : ByteArray} {f : Flt} {R : List Tok} (h : pAll t = .ok f R) (ht : t.size ≤ 2000) (hok : okF f) : (textF f).length ≤ 1000000 := by
  have h1 : ∃ r, pOne 20 (toks t) = .ok f r := by
    unfold pAll at h
    split at h
    · cases h; exact ⟨_, by assumption⟩
    · cases h
    · cases h
  obtain ⟨r, h1⟩ := h1
  have h2 := pOne_wt h1
  have h3 := toks_few (t := t)
  have h5 := text_len _ hok
  omega
theorem AtErr.is {w : World} {u : Value} {b : Nat} {c pl : Int} (h : AtErr w u b c pl) : ErrIs w u c pl := .inr (.inr ⟨b, 0, h.1, h.2.1, h.2.2⟩)
set_option maxRecDepth 100000 in
set_option maxHeartbeats 8000000 in
/-- A text that is too long. -/
theorem parse_big (w : World) (t : ByteArray) (ht : 2000 < t.size) (hm : t.size ≤ 2100) : Calls Tryz.prog 5 #[.string t] w fun E w' => E = .returned (.tuple #[.nilIface, .iface 23 (.int .i64 4)]) ∧ Gr w w' := by
  obtain ⟨n, hn⟩ : ∃ n, n = t.size := ⟨_, rfl⟩
  have HN := Lib.hid hn
  have hlen : ∀ w ty, (Builtin.len_ #[9] ty #[.string t]).run Tryz.prog w = .ok (.int .i64 (n : Int)) w := fun w ty => by rw [HN.out]; simp [go_sem, Tryz.underlying9]
  rw [← hn] at ht hm
  clear hn
  have n0 : (2000 : Int) < (n : Int) := by omega
  have n1 : (n : Int) ≤ 2100 := by omega
  go_enter Tryz.func5, Tryz.ntmps5
  go_wp2
  exact bodyPost_ret (v := .tuple #[.nilIface, .iface 23 (.int .i64 4)]) (by simp [results, Tryz.results5, go_sem]) rfl ⟨rfl, Gr.refl _⟩
set_option maxRecDepth 100000 in
set_option maxHeartbeats 8000000 in
theorem rparse_big (w : World) (t : ByteArray) (ht : 2000 < t.size) (hm : t.size ≤ 2100) : Calls Tryz.prog 4 #[.string t] w fun E w' => E = .returned (.tuple #[.pointer none, .agg #[.int .i64 4, .int .i64 (-1)]]) ∧ Gr w w' := by
  obtain ⟨n, hn⟩ : ∃ n, n = t.size := ⟨_, rfl⟩
  have HN := Lib.hid hn
  have hlen : ∀ w ty, (Builtin.len_ #[9] ty #[.string t]).run Tryz.prog w = .ok (.int .i64 (n : Int)) w := fun w ty => by rw [HN.out]; simp [go_sem, Tryz.underlying9]
  rw [← hn] at ht hm
  clear hn
  have n0 : (2000 : Int) < (n : Int) := by omega
  have n1 : (n : Int) ≤ 2100 := by omega
  go_enter Tryz.func4, Tryz.ntmps4
  go_upto_region 2 with fail
  obtain ⟨q, hq⟩ : ∃ q, q = w.heap.size := ⟨_, rfl⟩
  obtain ⟨w1, hw1⟩ : ∃ w1, w1 = w.alloc (.cells #[.int .i64 0, .int .i64 0] 25) := ⟨_, rfl⟩
  have HF1 : Hid (FB w1 q ∧ Gr w w1 ∧ w.heap.size ≤ q) := Lib.hid (by
    rw [hw1, hq]
    exact ⟨FB.new w, (Gr.refl w).alloc _, Nat.le_refl _⟩)
  rw [← hq, ← hw1]
  clear hq hw1
  go_wp2_with (go_at_call 8; refine (bare_any _ _).mono ?_; rintro E w2 ⟨rfl, hg⟩; have HG := Lib.hid hg; have q0 := (HF1.out.1.gr hg).c0; have q1 := (HF1.out.1.gr hg).c1; have z0 := (HF1.out.1.gr hg).fz 0; have z1 := (HF1.out.1.gr hg).fz 1; clear hg)
  exact bodyPost_ret (v := .tuple #[.pointer none, .agg #[.int .i64 4, .int .i64 (-1)]]) (by simp [results, Tryz.results4, go_sem, q0, q1]) rfl ⟨rfl, ((HF1.out.2.1.trans HG.out).setCell HF1.out.2.2 _).setCell HF1.out.2.2 _⟩
set_option maxRecDepth 100000 in
set_option maxHeartbeats 8000000 in
theorem filterParses_walk (W : World) (HE : Env W) (HGL : Glob W) (t : ByteArray) : Calls Tryz.prog 3 #[.string t] W fun e W' => e = .returned (.bool true) ∧ Gr W W' := by
  have HEN := Lib.hid HE
  have HL := Lib.hid HGL
  clear HE HGL
  obtain ⟨n, hn⟩ : ∃ n, n = t.size := ⟨_, rfl⟩
  have HN := Lib.hid hn
  have hlen : ∀ w ty, (Builtin.len_ #[9] ty #[.string t]).run Tryz.prog w = .ok (.int .i64 (n : Int)) w := fun w ty => by rw [HN.out]; simp [go_sem, Tryz.underlying9]
  clear hn
  by_cases hbig : 2100 < n
  · have n0 : (2100 : Int) < (n : Int) := by omega
    go_enter Tryz.func3, Tryz.ntmps3
    go_wp2
    go_ret
    exact ⟨rfl, Gr.refl W⟩
  have n0 : (n : Int) ≤ 2100 := by omega
  by_cases hmid : 2000 < n
  · have HT1 : Hid (2000 < t.size ∧ t.size ≤ 2100) := Lib.hid (by rw [← HN.out]; omega)
    clear hbig hmid
    go_enter Tryz.func3, Tryz.ntmps3
    go_wp2_with (first
      | (go_at_call 4; refine (rparse_big _ t HT1.out.1 HT1.out.2).mono ?_; rintro E w2 ⟨rfl, hg⟩; have HG2 := Lib.hid hg; clear hg)
      | (go_at_call 5; refine (parse_big _ t HT1.out.1 HT1.out.2).mono ?_; rintro E w4 ⟨rfl, hg⟩; have HG4 := Lib.hid hg; clear hg; have c0 : w4.cell? ⟨w2.heap.size, 0, none⟩ = some (.int .i64 4) := HG4.out.cell ((HB.new w2 #[.int .i64 4, .int .i64 (-1)] 25).c 0 rfl); have c1 : w4.cell? ⟨w2.heap.size, 1, none⟩ = some (.int .i64 (-1)) := HG4.out.cell ((HB.new w2 #[.int .i64 4, .int .i64 (-1)] 25).c 1 rfl))
      | (go_at_call 6; refine (at_yes _ (HL.out.gr ((HG2.out.alloc _).trans HG4.out)) (ErrIs.no _ 4)).mono ?_; rintro E w5 ⟨rfl, hg⟩; have HG5 := Lib.hid hg; clear hg; have c0 := HG5.out.cell c0))
    go_ret
    exact ⟨rfl, (HG2.out.alloc _).trans (HG4.out.trans HG5.out)⟩
  have HT2 : Hid (t.size ≤ 2000) := Lib.hid (by rw [← HN.out]; omega)
  clear hbig hmid
  cases hp : pAll t with
  | err c R =>
    have HP := Lib.hid hp
    clear hp
    go_enter Tryz.func3, Tryz.ntmps3
    go_wp2_with (first
      | (go_at_call 4
         refine (rparse_x HEN.out t HT2.out).mono ?_
         rintro E w2 hq
         rw [HP.out] at hq
         obtain ⟨v, rfl, hpt, hc, hg⟩ := hq
         obtain ⟨va, rfl⟩ := hpt
         have HG2 := Lib.hid hg
         have HC := Lib.hid hc
         obtain ⟨pl, hpl⟩ : ∃ pl, pl = placeOf (t.size : Int) R := ⟨_, rfl⟩
         rw [← hpl]
         have HPL := Lib.hid hpl
         clear hg hpl)
      | (go_at_call 5
         refine (parse_any (HEN.out.gr (HG2.out.alloc _)) t HT2.out).mono ?_
         rintro E w4 hq
         rw [HP.out] at hq
         obtain ⟨u, b, rfl, ha, hg⟩ := hq
         rw [← HPL.out] at ha
         have HG4 := Lib.hid hg
         have HA := Lib.hid ha
         have c0 : w4.cell? ⟨w2.heap.size, 0, none⟩ = some (.int .i64 c) := hg.cell ((HB.new w2 #[.int .i64 c, .int .i64 pl] 25).c 0 rfl)
         have c1 : w4.cell? ⟨w2.heap.size, 1, none⟩ = some (.int .i64 pl) := hg.cell ((HB.new w2 #[.int .i64 c, .int .i64 pl] 25).c 1 rfl)
         clear hg ha)
      | (go_at_call 6; refine (at_yes _ (HL.out.gr ((HG2.out.alloc _).trans HG4.out)) HA.out.is).mono ?_; rintro E w5 ⟨rfl, hg⟩; have HG5 := Lib.hid hg; clear hg; have c0 := HG5.out.cell c0))
    all_goals (try (exfalso; exact HC.out (by omega)))
    go_ret
    exact ⟨rfl, (HG2.out.alloc _).trans (HG4.out.trans HG5.out)⟩
  | ok f R =>
    have HP := Lib.hid hp
    clear hp
    go_enter Tryz.func3, Tryz.ntmps3
    go_upto_region 9 with (first
      | (go_at_call 4
         refine (rparse_x HEN.out t HT2.out).mono ?_
         rintro E w2 hq
         rw [HP.out] at hq
         obtain ⟨v, rfl, hr, hg⟩ := hq
         obtain ⟨vb, rfl⟩ := hr.ptr
         have HG2 := Lib.hid hg
         have HR2 := Lib.hid hr
         clear hg hr)
      | (go_at_call 5
         refine (parse_any (HEN.out.gr (HG2.out.alloc _)) t HT2.out).mono ?_
         rintro E w4 hq
         rw [HP.out] at hq
         obtain ⟨v, rfl, hf, hg⟩ := hq
         obtain ⟨ti, yi, rfl⟩ := hf.iface
         have HG4 := Lib.hid hg
         have HOK := Lib.hid hf.ok
         have HF4 := Lib.hid hf
         have c0 : w4.cell? ⟨w2.heap.size, 0, none⟩ = some (.int .i64 0) := hg.cell ((HB.new w2 #[.int .i64 0, .int .i64 (-1)] 25).c 0 rfl)
         have c1 : w4.cell? ⟨w2.heap.size, 1, none⟩ = some (.int .i64 (-1)) := hg.cell ((HB.new w2 #[.int .i64 0, .int .i64 (-1)] 25).c 1 rfl)
         clear hg hf)
      | (go_at_call 6; refine (at_yes _ (HL.out.gr ((HG2.out.alloc _).trans HG4.out)) (ErrIs.nil _)).mono ?_; rintro E w5 ⟨rfl, hg⟩; have HG5 := Lib.hid hg; clear hg; have c0 := HG5.out.cell c0))
    have HLI := Lib.hid (fed_len HP.out HT2.out HOK.out)
    have HGA := Lib.hid ((HG2.out.alloc (.cells #[.int .i64 0, .int .i64 (-1)] 25)).trans (HG4.out.trans HG5.out))
    have HG25 := Lib.hid (((Gr.refl w2).alloc (.cells #[.int .i64 0, .int .i64 (-1)] 25)).trans (HG4.out.trans HG5.out))
    obtain ⟨ft, rt, hm, hc⟩ := text_anyV (HEN.out.gr HGA.out) (FltV.same HF4.out.bound fun g hg => HG5.out.block hg.2) HLI.out
    have HM := Lib.hid hm
    obtain ⟨T, hT⟩ : ∃ T, T = txF f := ⟨_, rfl⟩
    have HRI : Hid (∀ w', Gr w5 w' → Calls Tryz.prog 7 #[.pointer (some ⟨vb, 0, none⟩)] w' fun E w4 => E = .returned (.string T) ∧ Gr w' w4) := Lib.hid (fun w' g => by
      rw [hT]
      exact rtext_any (HEN.out.gr HG2.out) HR2.out HOK.out HLI.out w' (HG25.out.trans g))
    rw [← hT] at hc
    have HC := Lib.hid hc
    clear hT hm hc
    go_wp2_with (first
      | (rw [meth_run0 HM.out]; change Calls Tryz.prog ft #[rt] w5 _; refine (HC.out w5 (Gr.refl _)).mono ?_; rintro E w6 ⟨rfl, hg6⟩; have HG6 := Lib.hid hg6; clear hg6)
      | (go_at_call 7; refine (HRI.out _ HG6.out).mono ?_; rintro E w8 ⟨rfl, hg8⟩; have HG8 := Lib.hid hg8; clear hg8))
    go_ret
    exact ⟨rfl, HGA.out.trans (HG6.out.trans HG8.out)⟩
end Go.Proofs.YthkccohigoejgaaGreatDoor

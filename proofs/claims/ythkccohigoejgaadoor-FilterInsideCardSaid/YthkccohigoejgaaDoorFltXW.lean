/-
  FilterInside, walked.
-/
import Derived.Test.YthkccohigoejgaaDoorFltXF
import Derived.Test.YthkccohigoejgaaDoorFltXB
import Derived.Test.YthkccohigoejgaaDoorFltW
namespace Go.Proofs.YthkccohigoejgaaDoor
open Go Go.RowKit

/-- A call without arguments through an interface value, as a guarded walk meets it. -/
theorem meth_run0 {ti : TypeId} {yi r : Value} {name : String} {f : FuncId} (hm : Meth (.iface ti yi) name f r) (w : World) : ((Sem.run Tryd.prog (method 260 ti yi name) w).andThen fun a w' => Sem.run Tryd.prog (callFunc a.fst #[a.snd]) w') = .ok (.enter f #[r]) w := by
  have h := hm #[] w
  simpa [callMethod, go_sem] using h
theorem ins_len {t : ByteArray} {f : Flt} {R : List Tok} (h : pAll t = .ok f R) (ht : t.size ≤ 2000) (hok : okF f) (b : Bool) : (textF (insF b f)).length ≤ 1000000 := by
  have h1 : ∃ r, pOne 20 (toks t) = .ok f r := by
    unfold pAll at h
    split at h
    · cases h; exact ⟨_, by assumption⟩
    · cases h
    · cases h
  obtain ⟨r, h1⟩ := h1
  have h2 := pOne_wt h1
  have h3 := toks_few (t := t)
  have h4 := ins_wt f b
  have h5 := text_len _ (ins_ok f b hok)
  omega
theorem fed_len {t : ByteArray} {f : Flt} {R : List Tok} (h : pAll t = .ok f R) (ht : t.size ≤ 2000) (hok : okF f) : (textF f).length ≤ 1000000 := by
  have h1 : ∃ r, pOne 20 (toks t) = .ok f r := by
    unfold pAll at h
    split at h
    · cases h; exact ⟨_, by assumption⟩
    · cases h
    · cases h
  obtain ⟨r, h1⟩ := h1
  have h2 := pOne_wt h1
  have h3 := toks_few (t := t)
  have h5 := text_len _ hok
  omega
set_option maxRecDepth 100000 in
set_option maxHeartbeats 8000000 in
theorem filterInside_walk (W : World) (HE : Env W) (t : ByteArray) : Calls Tryd.prog 5 #[.string t] W fun e W' => e = .returned (.bool true) ∧ Gr W W' := by
  have HEN := Lib.hid HE
  clear HE
  obtain ⟨n, hn⟩ : ∃ n, n = t.size := ⟨_, rfl⟩
  have HN := Lib.hid hn
  have hlen : ∀ w ty, (Builtin.len_ #[9] ty #[.string t]).run Tryd.prog w = .ok (.int .i64 (n : Int)) w := fun w ty => by rw [HN.out]; simp [go_sem, Tryd.underlying9]
  clear hn
  by_cases hbig : 2000 < n
  · have n0 : (2000 : Int) < (n : Int) := by omega
    go_enter Tryd.func5, Tryd.ntmps5
    go_wp2
    go_ret
    exact ⟨rfl, Gr.refl W⟩
  have n0 : (n : Int) ≤ 2000 := by omega
  have HT2 : Hid (t.size ≤ 2000) := Lib.hid (by rw [← HN.out]; omega)
  clear hbig
  go_enter Tryd.func5, Tryd.ntmps5
  go_upto_region 3 with fail
  cases hp : pAll t with
  | err c R =>
    have HP := Lib.hid hp
    clear hp
    go_wp2_with (first
      | (go_at_call 6
         refine (rparse_any HEN.out t HT2.out).mono ?_
         rintro E w2 hq
         rw [HP.out] at hq
         obtain ⟨v, pl, rfl, _, hc, hg⟩ := hq
         have HG2 := Lib.hid hg
         clear hg))
    all_goals (try (exfalso; omega))
    go_ret
    exact ⟨rfl, HG2.out.alloc _⟩
  | ok f R =>
    have HP := Lib.hid hp
    clear hp
    go_upto_region 4 with (first
      | (go_at_call 6
         refine (rparse_any HEN.out t HT2.out).mono ?_
         rintro E w2 hq
         rw [HP.out] at hq
         obtain ⟨v, pl, rfl, hr, hg⟩ := hq
         obtain ⟨vb, rfl⟩ := hr.ptr
         have HG2 := Lib.hid hg
         have HR2 := Lib.hid hr
         clear hg hr))
    have HFB := Lib.hid (FB2.new w2 pl)
    have HG3 := Lib.hid (HG2.out.trans ((Gr.refl w2).alloc (.cells #[.int .i64 0, .int .i64 pl] 27)))
    have HG23 := Lib.hid ((Gr.refl w2).alloc (.cells #[.int .i64 0, .int .i64 pl] 27))
    obtain ⟨w3, hw3⟩ : ∃ w3, w3 = w2.alloc (.cells #[.int .i64 0, .int .i64 pl] 27) := ⟨_, rfl⟩
    rw [← hw3] at HFB HG3 HG23 ⊢
    clear hw3
    have e0 : w3.cell? ⟨w2.heap.size, 0, none⟩ = some (.int .i64 0) := HFB.out.c 0 rfl
    go_upto_region 7 with (first
      | (go_at_call 7
         refine (parse_any (HEN.out.gr HG3.out) t HT2.out).mono ?_
         rintro E w4 hq
         rw [HP.out] at hq
         obtain ⟨v, rfl, hf, hg⟩ := hq
         obtain ⟨ti, yi, rfl⟩ := hf.iface
         have HG4 := Lib.hid hg
         have HOK := Lib.hid hf.ok
         have HF4 := Lib.hid (hf.bound.mono fun g hg => hg.2)
         clear hg hf))
    have HLI := Lib.hid (ins_len HP.out HT2.out HOK.out false)
    have HOI := Lib.hid (ins_ok f false HOK.out)
    have HRF : Hid (RFl (fun g => g < w2.heap.size) 20 w2 (.pointer (some ⟨vb, 0, none⟩)) f) := Lib.hid (RFl.mono HR2.out fun g _ hl => hl)
    have HG24 := Lib.hid (HG23.out.trans HG4.out)
    have HGA := Lib.hid (HG3.out.trans HG4.out)
    clear e0
    go_upto_region 10 with (first
      | (go_at_call 10
         refine (inside_any HF4.out (Nat.le_refl _) _ (Gr.refl _)).mono ?_
         rintro E w5 ⟨u, rfl, hg, hu⟩
         obtain ⟨tu, yu, rfl⟩ := hu.iface
         have HG5 := Lib.hid hg
         obtain ⟨ft, rt, hm, hc⟩ := text_anyV (HEN.out.gr (HGA.out.trans hg)) hu HLI.out
         have HM := Lib.hid hm
         have HC := Lib.hid hc
         clear hg hu hm hc))
    obtain ⟨T, hT⟩ : ∃ T, T = txF (insF false f) := ⟨_, rfl⟩
    have HRI : Hid (∀ w', Gr w5 w' → Calls Tryd.prog 11 #[.pointer (some ⟨vb, 0, none⟩), .bool false] w' fun E w2 => ∃ u, E = .returned u ∧ Gr w' w2 ∧ ∀ w3, Gr w2 w3 → Calls Tryd.prog 12 #[u] w3 fun E w4 => E = .returned (.string T) ∧ Gr w3 w4) := Lib.hid (fun w' g => by
      rw [hT]
      refine (rinside_any HRF.out (Nat.le_refl _) false w' ((HG24.out.trans HG5.out).trans g)).mono ?_
      rintro E w6 ⟨u, rfl, hg, hu⟩
      exact ⟨u, rfl, hg, fun w7 g7 => rtext_any (HEN.out.gr (((HGA.out.trans HG5.out).trans g).trans hg)) hu HOI.out HLI.out w7 g7⟩)
    rw [← hT] at HC
    clear hT
    go_wp2_with (first
      | (rw [meth_run0 HM.out]; change Calls Tryd.prog ft #[rt] w5 _; refine (HC.out w5 (Gr.refl _)).mono ?_; rintro E w6 ⟨rfl, hg6⟩; have HG6 := Lib.hid hg6; clear hg6)
      | (go_at_call 11; refine (HRI.out _ HG6.out).mono ?_; rintro E w7 ⟨u, rfl, hg7, ht7⟩; have HG7 := Lib.hid hg7; have HT7 := Lib.hid ht7; clear hg7 ht7)
      | (go_at_call 12; refine (HT7.out _ (Gr.refl _)).mono ?_; rintro E w8 ⟨rfl, hg8⟩; have HG8 := Lib.hid hg8; clear hg8))
    go_ret
    exact ⟨rfl, HGA.out.trans (HG5.out.trans (HG6.out.trans (HG7.out.trans HG8.out)))⟩
end Go.Proofs.YthkccohigoejgaaDoor

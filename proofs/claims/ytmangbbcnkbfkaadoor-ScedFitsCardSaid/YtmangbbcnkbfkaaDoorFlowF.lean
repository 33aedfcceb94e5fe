/-
  millracelaw.ScedFits at flows; flows that came in.
-/
import Derived.Test.YtmangbbcnkbfkaaDoorFlowE
import Derived.Test.YtmangbbcnkbfkaaDoorFrameP
import Derived.SizedLaws
namespace Go.Proofs.YtmangbbcnkbfkaaDoor
open Go.ChangeShapes Go.WideShapes Go.ChangeAt Go.RowKit Go.Deep

theorem flow_slice {H : Type} {enc : TypeId × Value → H} {W : World} {n : Nat} {t : TypeId} {c : Value} {y : DataW H × List MemPlace} (hu : Tryd.prog.underlying t = some (.slice 3)) (h : DataW.trod enc Tryd.prog W 0 (fun _ => true) true n t [c] = some y) : ∃ xs : List Int, Ints W c xs ∧ ∀ x ∈ xs, Bd x := by
  have hs : ∃ a l cap, c = .slice a l cap := by
    rcases DataW.trod_slice hu h with ⟨hcs, _⟩ | ⟨a', len', cap', elems, rest, n, _, hcs, _⟩
    · simp at hcs
      exact ⟨_, _, _, hcs⟩
    · simp at hcs
      exact ⟨_, _, _, hcs⟩
  obtain ⟨a, len, cap, rfl⟩ := hs
  rcases open_ints hu Tryd.underlying3 cellsInt h with ⟨hcs, _⟩ | ⟨a', len', cap', zs, hcs, _, hl, hm, hz, _, hcell, hwz⟩
  · simp at hcs
    obtain ⟨rfl, rfl, rfl⟩ := hcs
    exact ⟨[], .inl ⟨_, _, rfl, rfl⟩, by simp⟩
  · simp at hcs hz
    obtain ⟨rfl, rfl, rfl⟩ := hcs
    have hlen : (zs.take len).length = len := by simp; omega
    refine ⟨zs.take len, ?_, fun x hx => ?_⟩
    · rcases Nat.eq_zero_or_pos len with h0 | h0
      · subst h0
        exact .inl ⟨_, _, rfl, by simp⟩
      · obtain ⟨b, off, sp⟩ := a'
        have h00 := hcell 0 (by omega)
        obtain rfl : sp = none := spot_none h00 rfl
        refine .inr ⟨b, off, cap, by rw [hlen], by omega, by unfold maxLen at hm; omega, fun i hi => ?_⟩
        rw [hlen] at hi
        have := hcell i (by omega)
        rw [addr_add] at this
        rw [this]
        simp [List.getD_eq_getElem?_getD, hi]
    · have := hwz x (List.mem_of_mem_take hx)
      simp only [Lit.wf, Bool.and_eq_true, decide_eq_true_eq] at this
      exact this

theorem two_of {α : Type} {l : List α} (h : l.length = 2) : ∃ a b, l = [a, b] := by
  match l, h with
  | [a, b], _ => exact ⟨a, b, rfl⟩

set_option maxRecDepth 100000 in
theorem flow_of_cells {H : Type} {enc : TypeId × Value → H} {W : World} {n : Nat} {cs : List Value} {y : DataW H × List MemPlace} (h : DataW.trod enc Tryd.prog W 0 (fun _ => true) true n 72 cs = some y) : ∃ x : Flw, cs = [x.come, x.promise] ∧ x.at W := by
  obtain ⟨xs, m, _, _, hcl, hl, hfs⟩ := DataW.trod_struct Tryd.underlying72 h
  have hlen : cs.length = 2 := hcl.trans (by kernel_rfl)
  have hxl : xs.length = 2 := hl
  obtain ⟨c0, c1, rfl⟩ := two_of hlen
  obtain ⟨y0, y1, rfl⟩ := two_of hxl
  have e0 : DataW.trod enc Tryd.prog W 0 (fun _ => true) true m 22 (([c0, c1].drop 0).take (Tryd.prog.cellsOf 22)) = some y0 := hfs 0 _ rfl
  have e1 : DataW.trod enc Tryd.prog W 0 (fun _ => true) true m 70 (([c0, c1].drop 1).take (Tryd.prog.cellsOf 70)) = some y1 := hfs 1 _ rfl
  have k0 : Tryd.prog.cellsOf 22 = 1 := by kernel_rfl
  have k1 : Tryd.prog.cellsOf 70 = 1 := by kernel_rfl
  rw [k0] at e0
  rw [k1] at e1
  obtain ⟨xs, hx, _⟩ := flow_slice Tryd.underlying22 e0
  obtain ⟨ys, hy, _⟩ := flow_slice Tryd.underlying70 e1
  exact ⟨⟨c0, c1, xs, ys⟩, rfl, hx, hy⟩

set_option maxRecDepth 100000 in
theorem flows_of_trod {H : Type} {enc : TypeId × Value → H} {W : World} {base : Nat} {v : Value} {d : DataW H} {ps : List MemPlace} (hok : Value.okWide Tryd.prog W .any base 41 v) (h : DataW.Trod enc Tryd.prog W 0 (fun _ => true) true 41 v d ps)
    {ts : List TypeId} {ds : List (DataW H)} (hsz : (DataW.weightsEach Tryd.prog ts ds).all (· ≤ reachBytes) = true) {j : Nat} (ht : ts[j]? = some 41) (hd : ds[j]? = some d) :
    ∃ (k : Nat) (F : Nat → Flw), Flows W v k F ∧ k * 48 ≤ 140737488351232 := by
  obtain ⟨fuel, hf⟩ := h
  obtain ⟨a, len, cap, rfl⟩ := okWide_slice Tryd.underlying41 hok
  rcases DataW.trod_slice Tryd.underlying41 hf with ⟨hcs, _⟩ | ⟨a', len', cap', elems, rest, n, _, hcs, hx, _, hl, hm, hlen, hel, _, _⟩
  · simp [Value.cells] at hcs
    obtain ⟨rfl, rfl, rfl⟩ := hcs
    exact ⟨0, fun _ => Flw.zero, ⟨_, _, rfl, by omega, fun i hi => absurd hi (by omega), fun h => absurd h (by omega)⟩, by omega⟩
  · simp [Value.cells] at hcs
    obtain ⟨rfl, rfl, rfl⟩ := hcs
    simp only [Prod.mk.injEq] at hx
    have hb := sized_slice hsz ht (by rw [hd, hx.1]) Tryd.underlying41
    have hby : Tryd.prog.bytesOf 72 = 48 := by kernel_rfl
    rw [hby] at hb
    simp at hb
    have hb' : len * 48 ≤ 140737488351232 := by unfold reachBytes at hb; omega
    rcases Nat.eq_zero_or_pos len with h0 | h0
    · subst h0
      exact ⟨0, fun _ => Flw.zero, ⟨_, _, rfl, by omega, fun i hi => absurd hi (by omega), fun h => absurd h (by omega)⟩, by omega⟩
    · have hc2 : Tryd.prog.cellsOf 72 = 2 := by kernel_rfl
      have each : ∀ i, i < len → ∃ x : Flw, x.at W ∧ W.cell? ((a'.add (i * 2)).add 0) = some x.come ∧ W.cell? ((a'.add (i * 2)).add 1) = some x.promise := by
        intro i hi
        have h1 := hel i hi
        rw [List.getElem?_eq_getElem (by omega), hc2] at h1
        obtain ⟨cs, hcs, ht⟩ := Option.bind_eq_some_iff.1 h1
        obtain ⟨x, rfl, hx2⟩ := flow_of_cells ht
        obtain ⟨_, _, hcell⟩ := World.cells?_some hcs
        refine ⟨x, hx2, ?_, ?_⟩
        · rw [hcell 0 (by omega)]; rfl
        · rw [hcell 1 (by omega)]; rfl
      obtain ⟨b, off, sp⟩ := a'
      obtain ⟨x0, _, hc0, _⟩ := each 0 h0
      obtain rfl : sp = none := by
        rw [show Addr.add ⟨b, off, sp⟩ (0 * 2) = ⟨b, off, sp⟩ from by rw [Nat.zero_mul]; rfl] at hc0
        exact spot_none hc0 rfl
      obtain ⟨F, hF⟩ := choose_fun len each
      refine ⟨len, F, ⟨_, _, rfl, by unfold maxLen at hm; omega, fun i hi => (hF i hi).1, fun _ => ⟨b, off, rfl, fun i hi => ?_⟩⟩, hb'⟩
      have := (hF i hi).2
      rw [addr_add, addr_add, addr_add, Nat.add_zero] at this
      exact this

/-- Whether they all fit, and up to where. -/
theorem fits_cases (F : Nat → Flw) (n p : Nat) : ∃ (B : Bool) (q : Nat), q ≤ p ∧ (∀ t, t < q → proSum F t n ≤ (t : Int)) ∧ (B = true ∧ q = p ∨ B = false ∧ q < p ∧ (q : Int) < proSum F q n) := by
  rcases first_cases (f := fun t => if proSum F t n ≤ (t : Int) then 0 else 1) p with h | ⟨q, h1, h2, h3⟩
  · refine ⟨true, p, Nat.le_refl _, fun t ht => ?_, .inl ⟨rfl, rfl⟩⟩
    have := h t ht
    split at this
    · assumption
    · exact absurd this (by decide)
  · refine ⟨false, q, by omega, fun t ht => ?_, .inr ⟨rfl, h1, ?_⟩⟩
    · have := h2 t ht
      split at this
      · assumption
      · exact absurd this (by decide)
    · split at h3
      · exact absurd rfl h3
      · omega
theorem scCk_zero {F : Nat → Flw} {n : Nat} (h : scCk F n = 0) : (1 ≤ n ∧ n ≤ 8) ∧ ∀ i, i < n → scAt F i = 0 := by
  by_cases hh : n < 1 ∨ 8 < n
  · rw [scAt_four hh] at h; exact absurd h (by decide)
  · rcases scCk_cases (F := F) hh with ⟨_, h1⟩ | ⟨q, h1, h2, h3, h4⟩
    · exact ⟨by omega, h1⟩
    · exact absurd h h4

set_option maxRecDepth 100000 in
set_option maxHeartbeats 8000000 in
theorem scedFits_walk (w : World) (hg : Glob w) {v : Value} {n : Nat} {F : Nat → Flw} (hF : Flows w v n F) (hn : n * 48 ≤ 140737488351232) :
    Calls Tryd.prog 5 #[v] w fun e w' => e = .returned (.bool true) ∧ Gr w w' := by
  have HF := Lib.hid hF
  have HN := Lib.hid hn
  have HG0 := Lib.hid hg
  clear hF hn hg
  by_cases hc : scCk F n = 0
  · obtain ⟨⟨h1, h8⟩, hok⟩ := scCk_zero hc
    obtain ⟨B, q, hq, hfit, hend⟩ := fits_cases F n (proLen F (F 0).ps.length n)
    have hcur := fun i hi => (scAt_ok (hok i hi)).1
    have HFit := fun (u : World) (hu : Flows u v n F) => fits_ok B u hu hc h1 h8 hcur hq hfit hend
    have HRFit := fun (u : World) (r : Value) (hu : Flows u r n F) => rfits_ok B u hu h1 h8 hcur hq hfit hend
    have HC := Lib.hid (fun (u : World) (hu : Flows u v n F) => by have := scheck_any u hu; rw [errV_zero hc] at this; exact this)
    have HR := Lib.hid (fun (u : World) (r : Value) (hu : Flows u r n F) => by have := rscheck_any u hu; rw [hc] at this; exact this)
    have HFit := Lib.hid HFit
    have HRFit := Lib.hid HRFit
    clear hc hok hq hfit hend hcur
    go_enter Tryd.func5, Tryd.ntmps5
    go_wp2_with (first
      | (go_at_call 17; refine (flows_any _ HF.out HN.out).mono ?_; rintro e w1 ⟨r, b, rfl, ⟨bb, rfl⟩, hr, hg1⟩; have HR1 := Lib.hid hr; have HG1 := Lib.hid hg1; clear hr hg1; cases bb)
      | (go_at_call 18; refine (HR.out _ _ HR1.out).mono ?_; rintro e w2 ⟨rfl, hg2⟩; have HG2 := Lib.hid (HG1.out.trans hg2); have HR2 := Lib.hid (HR1.out.gr hg2); clear hg2)
      | (go_at_call 19; refine (HFit.out _ (HF.out.gr HG2.out)).mono ?_; rintro e w3 ⟨rfl, hg3⟩; have HG3 := Lib.hid (HG2.out.trans hg3); have HR3 := Lib.hid (HR2.out.gr hg3); clear hg3; have tok1 := trivial)
      | (go_at_call 9; have _ := tok1; refine (bare_true _ (HG0.out.gr HG3.out) (ErrIs.nil _)).mono ?_; rintro e w4 ⟨rfl, hg4⟩; have HG4 := Lib.hid (HG3.out.trans hg4); have HR4 := Lib.hid (HR3.out.gr hg4); clear hg4 tok1)
      | (go_at_call 20; refine (HC.out _ (HF.out.gr HG4.out)).mono ?_; rintro e w5 ⟨rfl, hg5⟩; have HG5 := Lib.hid (HG4.out.trans hg5); have HR5 := Lib.hid (HR4.out.gr hg5); clear hg5; have tok2 := trivial)
      | (go_at_call 9; have _ := tok2; refine (bare_true _ (HG0.out.gr HG5.out) (ErrIs.nil _)).mono ?_; rintro e w6 ⟨rfl, hg6⟩; have HG6 := Lib.hid (HG5.out.trans hg6); have HR6 := Lib.hid (HR5.out.gr hg6); clear hg6 tok2)
      | (go_at_call 21; refine (HRFit.out _ _ HR6.out).mono ?_; rintro e w7 ⟨rfl, hg7⟩; have HG7 := Lib.hid (HG6.out.trans hg7); clear hg7))
    · go_ret
      exact ⟨rfl, HG1.out⟩
    · go_ret
      exact ⟨by simp, HG7.out⟩
  · have HC := Lib.hid (fun (u : World) (hu : Flows u v n F) => by have := scheck_any u hu; rw [errV_ne hc] at this; exact this)
    have HR := Lib.hid (fun (u : World) (r : Value) (hu : Flows u r n F) => rscheck_any u hu)
    have HFit := Lib.hid (fun (u : World) (hu : Flows u v n F) => fits_bad u hu hc)
    have hcb : ((scCk F n : Int) == 0) = false := by simpa using hc
    clear hc
    generalize scCk F n = c at *
    go_enter Tryd.func5, Tryd.ntmps5
    go_wp2_with (first
      | (go_at_call 17; refine (flows_any _ HF.out HN.out).mono ?_; rintro e w1 ⟨r, b, rfl, ⟨bb, rfl⟩, hr, hg1⟩; have HR1 := Lib.hid hr; have HG1 := Lib.hid hg1; clear hr hg1; cases bb)
      | (go_at_call 18; refine (HR.out _ _ HR1.out).mono ?_; rintro e w2 ⟨rfl, hg2⟩; have HG2 := Lib.hid (HG1.out.trans hg2); clear hg2)
      | (go_at_call 19; refine (HFit.out _ (HF.out.gr HG2.out)).mono ?_; rintro e w3 ⟨rfl, hg3⟩; have HG3 := Lib.hid (HG2.out.trans hg3); clear hg3; have tok1 := trivial)
      | (go_at_call 9; have _ := tok1; refine (bare_true _ (HG0.out.gr HG3.out) (ErrIs.no _ _)).mono ?_; rintro e w4 ⟨rfl, hg4⟩; have HG4 := Lib.hid (HG3.out.trans hg4); clear hg4 tok1)
      | (go_at_call 20; refine (HC.out _ (HF.out.gr HG4.out)).mono ?_; rintro e w5 ⟨rfl, hg5⟩; have HG5 := Lib.hid (HG4.out.trans hg5); clear hg5; have tok2 := trivial)
      | (go_at_call 9; have _ := tok2; refine (bare_true _ (HG0.out.gr HG5.out) (ErrIs.no _ _)).mono ?_; rintro e w6 ⟨rfl, hg6⟩; have HG6 := Lib.hid (HG5.out.trans hg6); clear hg6 tok2))
    · go_ret
      exact ⟨rfl, HG1.out⟩
    · go_ret
      exact ⟨rfl, HG6.out⟩
end Go.Proofs.YtmangbbcnkbfkaaDoor

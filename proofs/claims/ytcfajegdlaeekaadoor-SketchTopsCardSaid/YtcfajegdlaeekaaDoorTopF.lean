/-
  The program's Exact, walked.
-/
import Derived.Test.YtcfajegdlaeekaaDoorTopE
import Derived.Test.YtcfajegdlaeekaaDoorApp
namespace Go.Proofs.YtcfajegdlaeekaaDoor
open Go Go.RowKit Go.Maps

theorem has_zero : has_ (fun _ => 0) = fun _ => false := by funext k; simp [has_]
theorem has_bump {f : Int → Int} {k : Int} (h : 0 ≤ f k) : has_ (bump f k) = fI (has_ f) k true := by
  funext j
  unfold has_ bump
  by_cases e : j = k
  · subst e; rw [fI_at, fI_at]; simp; omega
  · rw [fI_ne _ _ e, fI_ne _ _ e]
/-- A count in block b. -/
def CMap (w : World) (b n : Nat) (f : Int → Int) : Prop := MapI w b n f (has_ f)
theorem CMap.made (w : World) : CMap (w.alloc (.map #[] 0)) w.heap.size 0 (fun _ => 0) := by unfold CMap; rw [has_zero]; exact MapI.made w
theorem CMap.bump {w' : World} {b n : Nat} {f : Int → Int} {k : Int} (h : MapI w' b (n + 1) (fI f k (f k + 1)) (fI (has_ f) k true)) (hf : 0 ≤ f k) : CMap w' b (n + 1) (bump f k) := by
  unfold CMap
  rw [has_bump hf]
  exact h
theorem getD_mem {ks : List Int} {i : Nat} (h : i < ks.length) : ks.getD i 0 ∈ ks := by
  rw [List.getD_eq_getElem?_getD, List.getElem?_eq_getElem h]
  exact List.getElem_mem h

set_option maxRecDepth 100000 in
set_option maxHeartbeats 4000000 in
theorem exact_any {w : World} {kv : Value} {ks : List Int} (hk : Ints w kv ks) (hb : ∀ x ∈ ks, Bd x) (hl : ks.length ≤ 200) :
    Calls Tryd.prog 8 #[kv] w fun e w' => ∃ v L, e = .returned v ∧ PRow 44 w' v L ∧ PairsOf (cntF ks ks.length) L ∧ L.length ≤ 1000 ∧ Gr w w' := by
  have HK := Lib.hid hk
  obtain ⟨ka, kc, rfl⟩ := ints_shape hk
  have HB := Lib.hid hb
  clear hk hb
  obtain ⟨n, hn⟩ : ∃ n, n = ks.length := ⟨_, rfl⟩
  rw [← hn] at hl ⊢
  have HN := Lib.hid hn
  clear hn
  have HM0 := Lib.hid (CMap.made w)
  have hmm := @run_makeMap Tryd.prog
  go_enter Tryd.func8, Tryd.ntmps8
  go_wp2
  obtain ⟨b, hb⟩ : ∃ b, b = w.heap.size := ⟨_, rfl⟩
  rw [← hb] at HM0 ⊢
  have HBB := Lib.hid hb
  clear hb
  go_loopw [9] (fun s wr => ∃ i : Nat, i ≤ n ∧ s = .int .i64 (i : Int) ∧ Hid (CMap wr b i (cntF ks i)) ∧ Hid (Gr w wr)) (fun s _ => n - (intOf s).toNat)
  case atStart => exact ⟨0, Nat.zero_le _, rfl, HM0, Lib.hid ((Gr.refl w).alloc _)⟩
  case round =>
    obtain ⟨i, hi, rfl, HC, HG⟩ := hrel
    by_cases hlt : i < n
    · have hlk : i < ks.length := by rw [← HN.out]; exact hlt
      obtain ⟨kb, ko, kc', e, hcell⟩ := ints_cells HK.out (by omega)
      cases e
      have c0 := HG.out.cell (hcell.out i hlk)
      have HX := Lib.hid (HB.out _ (getD_mem hlk))
      have HF := Lib.hid (cntF_in ks i (ks.getD i 0))
      have HS : Hid (cntF ks (i + 1) = bump (cntF ks i) (ks.getD i 0)) := Lib.hid rfl
      generalize cntF ks i = f at *
      generalize ks.getD i 0 = x at *
      have i0 : (0 : Int) ≤ (i : Int) := by omega
      have i1 : (i : Int) < (n : Int) := by omega
      have HW : Hid (wrap64 (f x + 1) = f x + 1) := Lib.hid (by have := HF.out; unfold wrap64; omega)
      clear hcell hlk
      go_wp2_with (first
        | (at_lookup; refine wpList_look_mapI (by rfl) _ _ (by rfl) b i f (has_ f) (by rfl) HC.out x (by rfl) HX.out ?_)
        | (at_mapUpdate; rw [HW.out]; (refine wpList_set_mapI (by rfl) _ _ _ (by rfl) b i f (has_ f) (by rfl) HC.out (by omega) x (f x + 1) (by rfl) (by rfl) HX.out (by have := HF.out; unfold Bd; omega) ?_); intro w2 hm2 _ hs2; have HM2 := Lib.hid (CMap.bump hm2 HF.out.1); have HG2 := Lib.hid (hs2.gr HG.out (fun q e => by rw [e, HBB.out]; exact Nat.le_refl _)); clear hm2 hs2)
        | go_in)
      go_roundw
      case rel => exact ⟨i + 1, by omega, by go_num, by rw [HS.out]; exact HM2, HG2⟩
      case measure => simp [intOf]; omega
    · obtain rfl : i = n := by omega
      go_wp2_with (first
        | (go_at_call 10; refine (sorted_any b i (cntF ks i) _ HC.out (by omega)).mono ?_; rintro e w2 ⟨v, L, rfl, h1, h2, h3, h4⟩; have H2 := Lib.hid (And.intro h1 (And.intro h2 (And.intro h3 h4))); clear h1 h2 h3 h4)
        | go_in)
      go_ret
      exact ⟨_, L, rfl, H2.out.1, H2.out.2.1, H2.out.2.2.1, HG.out.trans H2.out.2.2.2⟩
end Go.Proofs.YtcfajegdlaeekaaDoor

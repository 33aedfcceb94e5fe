/-
  A region that draws its order and has guards: as XReg. No program is named here.
-/
import Derived.Test.YticifnegoacopaaGreatDoorReg
namespace Go.Proofs.YticifnegoacopaaGreatDoor
open Go.RowKit

section
variable {P : Program} {md : Region.Mode} {ops : Array Oper}

/-- The head: each has a slot of its own, in the frame; all of it ahead of the tail, which is one row. -/
def headG (ops : Array Oper) (n m : Nat) : Bool :=
  Region.sinkB .any ops n && Region.chainB .any ops n && decide (n < ops.size) &&
  ((List.range n).all fun i => match ops[i]? with | some o => (o.after.all fun e => decide (e.on < i)) && (match o.dst with | some d => decide (d < m) && ((List.range n).all fun j => decide (j = i) || decide (slotOf ops j ≠ some d)) | none => false) | none => false) &&
  Region.seqB .any ops (ops.size - n) n ((List.range ops.size).map fun i => decide (i < n)).toArray

/-- As wpAny_inv, with guards. -/
theorem wpAny_ginv {n : Nat} {F : Nat → Value → World → Prop} {C : Nat → Nat → Bool} {a0 : Act} {I : World → Prop} {Q : Exit → Act → World → Prop} (hB : headG ops n a0.tmps.size = true)
    (hsym : ∀ i j, C i j = true → C j i = true) (hirr : ∀ i, C i i = false)
    (hstep : ∀ L i o a w, i < n → ops[i]? = some o → HeadAt ops n F C a0 I L i a w → if Region.wanted o (yielded ops a.tmps) = true then Oper.wp P o a w (fun a' w' => ∃ v, a' = a.put o.dst v ∧ I w' ∧ F i v w' ∧ (∀ j, L j → F j (valOf ops a j) w → F j (valOf ops a j) w') ∧ ∀ j, L j → C i j = true → v ≠ valOf ops a j) Q else F i undef w ∧ ∀ j, L j → C i j = true → undef ≠ valOf ops a j)
    (hend : ∀ vs w, I w → (∀ j, j < n → F j (vs j) w) → wpList P ops Q (ops.toList.drop n) (putAll ops vs n a0) w) :
    ∀ (f : Nat) (listed : Array Bool) (a : Act) (w : World), HeadI ops n F C a0 I listed a w → cnt listed n = f → wpAny P .any ops Q (f + (ops.size - n)) listed a w := by
  simp only [headG, Bool.and_eq_true, decide_eq_true_eq] at hB
  obtain ⟨⟨⟨⟨hs, hc⟩, hn⟩, hg⟩, hq⟩ := hB
  have hop : ∀ i, i < n → ∃ o d, ops[i]? = some o ∧ o.dst = some d ∧ d < a0.tmps.size ∧ (∀ e ∈ o.after, e.on < i) ∧ ∀ j, j < n → j ≠ i → slotOf ops j ≠ some d := by
    intro i hi
    have h1 := List.all_eq_true.1 hg i (List.mem_range.2 hi)
    split at h1
    · rename_i o ho
      rw [Bool.and_eq_true] at h1
      obtain ⟨hb, h3⟩ := h1
      split at h3
      · rename_i d hd
        rw [Bool.and_eq_true, decide_eq_true_eq] at h3
        refine ⟨o, d, ho, hd, h3.1, fun e he => of_decide_eq_true (Array.all_eq_true'.1 hb e he), fun j hj hne => ?_⟩
        have h4 := List.all_eq_true.1 h3.2 j (List.mem_range.2 hj)
        simp only [Bool.or_eq_true, decide_eq_true_eq] at h4
        rcases h4 with h4 | h4
        · exact absurd h4 hne
        · exact h4
      · cases h3
    · cases h1
  have hfin : ∀ (listed : Array Bool) (a : Act) (w : World), HeadI ops n F C a0 I listed a w → cnt listed n = 0 → wpAny P .any ops Q (ops.size - n) listed a w := by
    intro listed a w hI hf
    have hall := cnt_zero hf
    have hl : listed = ((List.range ops.size).map fun i => decide (i < n)).toArray := by
      apply Array.ext (by simp [hI.inv.size])
      intro i h1 h2
      simp
      rcases Nat.lt_or_ge i n with h3 | h3
      · have := hall i h3
        rw [decide_eq_true h3]
        simpa [h1] using this
      · have := hI.inv.tail i h3 (by rw [← hI.inv.size]; exact h1)
        rw [decide_eq_false (by omega)]
        simpa [h1] using this
    have hlen : (ops.toList.drop n).length = ops.size - n := by simp
    rw [← hlen] at hq ⊢
    refine wpAny_of_seq (ops.toList.drop n) n listed a w (fun j => by simp) (by rw [hl]; exact hq) ?_
    -- the frame
    have hput : ∀ (m : Nat), m ≤ n → ∀ s, (putAll ops (valOf ops a) m a0).tmps.getD s undef = if (∃ j, j < m ∧ slotOf ops j = some s) then a.tmps.getD s undef else a0.tmps.getD s undef := by
      intro m
      induction m with
      | zero => intro _ s; rw [if_neg (fun ⟨j, h, _⟩ => absurd h (by omega))]; rfl
      | succ m ih =>
        intro hm s
        obtain ⟨o, d, ho, hd, hdl, _, _⟩ := hop m (by omega)
        have hsl : slotOf ops m = some d := by unfold slotOf; rw [ho]; exact hd
        rw [putAll, hsl]
        by_cases e : d = s
        · subst e
          rw [put_at _ _ (by rw [putAll_size]; exact hdl), if_pos ⟨m, by omega, hsl⟩]
          simp only [valOf, hsl]
        · rw [put_ne _ _ (fun h => e (Option.some.inj h)), ih (by omega) s]
          by_cases h : ∃ j, j < m ∧ slotOf ops j = some s
          · obtain ⟨j, h1, h2⟩ := h
            rw [if_pos ⟨j, h1, h2⟩, if_pos ⟨j, by omega, h2⟩]
          · rw [if_neg h, if_neg]
            rintro ⟨j, h1, h2⟩
            rcases Nat.lt_or_ge j m with h3 | h3
            · exact h ⟨j, h3, h2⟩
            · obtain rfl : j = m := by omega
              rw [hsl] at h2
              exact e (Option.some.inj h2)
    have ha : a = putAll ops (valOf ops a) n a0 := by
      refine act_ext (by rw [putAll_size, hI.size]) (by rw [putAll_defers, hI.defers]) fun s => ?_
      rw [hput n (Nat.le_refl _) s]
      by_cases h : ∃ j, j < n ∧ slotOf ops j = some s
      · rw [if_pos h]
      · rw [if_neg h]
        exact hI.other s fun j hj e => h ⟨j, hj, e⟩
    rw [ha]
    exact hend _ w hI.gr fun j hj => hI.fact j hj (getD_in' (hall j hj) (by rw [hI.inv.size]; omega))
  intro f
  induction f with
  | zero => intro listed a w hI hf; rw [Nat.zero_add]; exact hfin listed a w hI hf
  | succ f ih =>
    intro listed a w hI hf
    have hun : ∃ i, i < n ∧ listed.getD i true = false := by
      refine Classical.byContradiction fun hh => ?_
      have : ∀ m, m ≤ n → cnt listed m = 0 := by
        intro m
        induction m with
        | zero => intro _; rfl
        | succ m ihm =>
          intro hm
          rw [cnt, ihm (by omega)]
          have : listed.getD m true = true := by
            cases e : listed.getD m true with
            | true => rfl
            | false => exact absurd ⟨m, by omega, e⟩ hh
          rw [if_pos this]
      have := this n (Nat.le_refl _)
      omega
    obtain ⟨i0, hi0, hu0⟩ := hun
    rw [show f + 1 + (ops.size - n) = (f + (ops.size - n)) + 1 by omega]
    refine ⟨fun h0 => ?_, fun i hi => ?_⟩
    · -- something is ready
      exfalso
      have hleast : ∀ i, i < n → listed.getD i true = false → False := by
        intro i
        induction i using Nat.strongRecOn with
        | ind i ihi =>
          intro hi hu
          obtain ⟨o, d, ho, _, _, hb, _⟩ := hop i hi
          have : i ∈ Region.ready .any ops listed := mem_ready.2 ⟨hu, o, ho, fun e he _ => by
            have he2 := hb e he
            cases hl : listed.getD e.on true with
            | true => exact getD_in' hl (by rw [hI.inv.size]; omega)
            | false => exact (ihi e.on he2 (by omega) hl).elim⟩
          rw [h0] at this
          cases this
      exact hleast i0 hi0 hu0
    · have hin : i < n := by
        rcases Nat.lt_or_ge i n with h1 | h1
        · exact h1
        · exact absurd hi (tail_waits hs hc hn hI.inv _ i0 rfl hi0 hu0 i h1)
      obtain ⟨o, d, ho, hd, hdl, _, hdn⟩ := hop i hin
      have hsl : slotOf ops i = some d := by unfold slotOf; rw [ho]; exact hd
      have hr := hi
      obtain ⟨hri, oi, hoi, hdeps⟩ := mem_ready.1 hi
      have hoe : oi = o := Option.some.inj (hoi.symm.trans ho)
      subst hoe
      have hat : HeadAt ops n F C a0 I (fun j => j < n ∧ listed.getD j false = true) i a w := ⟨hI.other, hI.gr, fun j hw hjn => by
        obtain ⟨oj, hoj, e, he, hb, hon⟩ := Region.waitsFor_spec hw
        have : oj = oi := Option.some.inj (hoj.symm.trans ho)
        subst this
        have := hdeps e he hb
        rw [hon] at this
        exact ⟨hjn, this⟩, fun h => (by have := getD_both hri; rw [h.2] at this; cases this), fun j hj => hI.fact j hj.1 hj.2, fun j k hj hk hc => hI.apart j k hj.1 hk.1 hj.2 hk.2 hc⟩
      have hcont : ∀ v w', I w' → F i v w' → (∀ j, (j < n ∧ listed.getD j false = true) → F j (valOf ops a j) w → F j (valOf ops a j) w') → (∀ j, (j < n ∧ listed.getD j false = true) → C i j = true → v ≠ valOf ops a j) → wpAny P .any ops Q (f + (ops.size - n)) (listed.setIfInBounds i true) (a.put oi.dst v) w' := by
        intro v w' hg' hv hk hap
        have hvi : valOf ops (a.put oi.dst v) i = v := by
          simp only [valOf, hsl]
          rw [hd, put_at _ _ (by rw [hI.size]; exact hdl)]
        have hvj : ∀ j, j < n → j ≠ i → valOf ops (a.put oi.dst v) j = valOf ops a j := by
          intro j hj hne
          unfold valOf
          split
          · rename_i dj hsj
            rw [hd, put_ne _ _ (fun e2 => hdn j hj hne (by rw [hsj]; exact e2.symm))]
          · rfl
        have hll : ∀ j, j ≠ i → (listed.setIfInBounds i true).getD j false = true → listed.getD j false = true := by
          intro j hne h
          have : i ≠ j := fun e => hne e.symm
          simpa [this] using h
        refine ih _ _ _ ⟨hI.inv.set hi hin, by rw [put_size, hI.size], by rw [put_defers, hI.defers], fun s hs' => ?_, hg', fun j hj hlj => ?_, fun j k hj hk' hlj hlk hc' => ?_⟩ (by have := cnt_set hin hri; omega)
        · rw [hd, put_ne _ _ (fun e => hs' i hin (by rw [hsl]; exact e))]
          exact hI.other s hs'
        · by_cases e : j = i
          · subst e
            rw [hvi]
            exact hv
          · rw [hvj j hj e]
            have hl' := hll j e hlj
            exact hk j ⟨hj, hl'⟩ (hI.fact j hj hl')
        · by_cases e : j = i
          · subst e
            by_cases e2 : k = j
            · subst e2
              rw [hirr] at hc'
              cases hc'
            · rw [hvi, hvj k hk' e2]
              exact hap k ⟨hk', hll k e2 hlk⟩ hc'
          · by_cases e2 : k = i
            · subst e2
              rw [hvi, hvj j hj e]
              exact fun h => hap j ⟨hj, hll j e hlj⟩ (hsym _ _ hc') h.symm
            · rw [hvj j hj e, hvj k hk' e2]
              exact hI.apart j k hj hk' (hll j e hlj) (hll k e2 hlk) hc'
      have hst := hstep _ i oi a w hin ho hat
      unfold wpOp
      rw [ho]
      by_cases hw : Region.wanted oi (yielded ops a.tmps) = true
      · rw [if_pos hw] at hst
        simp only [hw, if_true]
        refine .inl (Oper.wp_mono (fun a' w' h => ?_) hst)
        obtain ⟨v, rfl, hg', hv, hk, hap⟩ := h
        exact hcont v w' hg' hv hk hap
      · rw [if_neg hw] at hst
        simp only [hw]
        exact hcont undef w hI.gr hst.1 (fun _ _ h => h) hst.2

theorem wp_region_ginv {id n : Nat} {l : List Oper} {F : Nat → Value → World → Prop} {C : Nat → Nat → Bool} {a0 : Act} {w0 : World} {I : World → Prop} (hI0 : I w0.drew) {Q : Exit → Act → World → Prop} (hm : P.follows .mixedOrders = true) (hB : headG l.toArray n a0.tmps.size = true)
    (hsym : ∀ i j, C i j = true → C j i = true) (hirr : ∀ i, C i i = false)
    (hstep : ∀ L i o a w, i < n → l.toArray[i]? = some o → HeadAt l.toArray n F C a0 I L i a w → if Region.wanted o (yielded l.toArray a.tmps) = true then Oper.wp P o a w (fun a' w' => ∃ v, a' = a.put o.dst v ∧ I w' ∧ F i v w' ∧ (∀ j, L j → F j (valOf l.toArray a j) w → F j (valOf l.toArray a j) w') ∧ ∀ j, L j → C i j = true → v ≠ valOf l.toArray a j) Q else F i undef w ∧ ∀ j, L j → C i j = true → undef ≠ valOf l.toArray a j)
    (hend : ∀ vs w, I w → (∀ j, j < n → F j (vs j) w) → wpList P l.toArray Q (l.drop n) (putAll l.toArray vs n a0) w) :
    (Code.region id l.toArray true).wp P Q a0 w0 := by
  refine wp_region_any hm ?_
  have hn : n < l.toArray.size := by
    simp only [headG, Bool.and_eq_true, decide_eq_true_eq] at hB
    exact hB.1.1.2
  have hc : ∀ m, m ≤ l.toArray.size → cnt (Array.replicate l.toArray.size false) m = m := by
    intro m
    induction m with
    | zero => intro _; rfl
    | succ m ih =>
      intro hm
      have h0 : m + 1 ≤ l.length := by simpa using hm
      have h1 : m < l.length := h0
      rw [cnt, ih (by omega), if_neg]
      simp [h1]
  have := wpAny_ginv (P := P) (ops := l.toArray) (I := I) (Q := Q) hB hsym hirr hstep (by simpa using hend) n (Array.replicate l.toArray.size false) a0 w0.drew
    ⟨⟨by simp, fun j oj _ hl => (by rw [getD_replicate_false] at hl; cases hl), fun t _ ht => getD_in (by simpa using ht) (getD_replicate_false _ _)⟩, rfl, rfl, fun _ _ => rfl, hI0, fun j _ hl => (by rw [getD_replicate_false] at hl; cases hl), fun j _ _ _ hl => (by rw [getD_replicate_false] at hl; cases hl)⟩ (hc n (by omega))
  rw [show n + (l.toArray.size - n) = l.toArray.size by omega] at this
  exact this

theorem yielded_val {a : Act} {j : Nat} {b : Bool} (h : valOf ops a j = .bool b) : yielded ops a.tmps j = some b := by
  unfold valOf at h
  unfold yielded
  change (match (slotOf ops j).bind (a.tmps[·]?) with | some (.bool b) => some b | _ => none) = some b
  cases hs : slotOf ops j with
  | none => rw [hs] at h; cases h
  | some d =>
    rw [hs] at h
    simp only [Option.bind_some]
    cases hd : a.tmps[d]? with
    | none => simp [hd] at h; cases h
    | some u =>
      simp [hd] at h
      subst h
      rfl
abbrev GgStep (P : Program) (ops : Array Oper) (fs : List Fg) (i : Nat) (o : Oper) (a : Act) (w : World) (Q : Exit → Act → World → Prop) : Prop :=
  if Region.wanted o (yielded ops a.tmps) = true then Oper.wp P o a w (GrPost fs i o a w) Q else (fgAt fs i).p undef w
/-- As wp_region_gr, with guards. -/
theorem wp_region_gg {id n : Nat} {l : List Oper} (fs : List Fg) {a0 : Act} {w0 : World} {Q : Exit → Act → World → Prop} (ds : List Tmp) (hm : P.follows .mixedOrders = true) (hB : headG l.toArray n a0.tmps.size = true) (hds : (List.range n).all (fun j => decide (slotOf l.toArray j = ds[j]?)) = true)
    (hstep : ∀ L i o a w, i < n → l.toArray[i]? = some o → GrAt l.toArray n fs a0 w0.drew L i a w → GgStep P l.toArray fs i o a w Q)
    (hend : ∀ vs w, Gr w0.drew w → (∀ j, j < n → (fgAt fs j).p (vs j) w) → wpList P l.toArray Q (l.drop n) (putN ds vs n a0) w) :
    (Code.region id l.toArray true).wp P Q a0 w0 := by
  refine wp_region_ginv (I := Gr w0.drew) (F := fun j v w => (fgAt fs j).p v w) (C := fun _ _ => false) (Gr.refl _) hm hB (fun _ _ h => by cases h) (fun _ => rfl) (fun L i o a w hi ho hA => ?_) fun vs w hg hF => by rw [putAll_putN hds]; exact hend vs w hg hF
  have h := hstep L i o a w hi ho hA
  unfold GgStep at h
  split
  · rename_i hw
    rw [if_pos hw] at h
    exact Oper.wp_mono (fun a' w' ⟨v, h1, h2, h3⟩ => ⟨v, h1, hA.gr.trans h2, h3, fun j _ hf => (fgAt fs j).mono _ _ _ hf h2, fun _ _ h => by cases h⟩) h
  · rename_i hw
    rw [if_neg hw] at h
    exact ⟨h, fun _ _ h => by cases h⟩
section
variable {fs : List Fg} {i j : Nat} {o : Oper} {a : Act} {w : World} {Q : Exit → Act → World → Prop} {b : Bool}
theorem gg_plain (hg : o.guard = none) (h : Oper.wp P o a w (GrPost fs i o a w) Q) : GgStep P ops fs i o a w Q := by
  unfold GgStep
  rw [if_pos (by simp [Region.wanted, hg])]
  exact h
theorem gg_yes (hg : o.guard = some (j, b)) (hv : valOf ops a j = .bool b) (h : Oper.wp P o a w (GrPost fs i o a w) Q) : GgStep P ops fs i o a w Q := by
  unfold GgStep
  rw [if_pos (by simp [Region.wanted, hg, yielded_val hv])]
  exact h
theorem gg_no (hg : o.guard = some (j, b)) (hv : valOf ops a j = .bool (!b)) (h : (fgAt fs i).p undef w) : GgStep P ops fs i o a w Q := by
  unfold GgStep
  rw [if_neg (by simp [Region.wanted, hg, yielded_val hv])]
  exact h
/-- What hangs on an operation that was passed over. -/
theorem gg_off (hg : o.guard = some (j, b)) (hv : valOf ops a j = undef) (h : (fgAt fs i).p undef w) : GgStep P ops fs i o a w Q := by
  have hy : yielded ops a.tmps j = none := by
    unfold valOf at hv
    unfold yielded
    change (match (slotOf ops j).bind (a.tmps[·]?) with | some (.bool b) => some b | _ => none) = none
    cases hs : slotOf ops j with
    | none => rfl
    | some d =>
      rw [hs] at hv
      simp only [Option.bind_some]
      cases hd : a.tmps[d]? with
      | none => rfl
      | some u =>
        simp [hd] at hv
        subst hv
        rfl
  unfold GgStep
  rw [if_neg (by simp [Region.wanted, hg, hy])]
  exact h
end
end
end Go.Proofs.YticifnegoacopaaGreatDoor

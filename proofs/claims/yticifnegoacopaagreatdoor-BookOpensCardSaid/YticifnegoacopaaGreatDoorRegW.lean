/-
  A region that draws its order, with guards: what holds of the world goes by which operations are through; each leaves a value that is told. (Printed by genregw.py out of XRegG.)
-/
import Derived.Test.YticifnegoacopaaGreatDoorRegG
namespace Go.Proofs.YticifnegoacopaaGreatDoor
open Go.RowKit
section
variable {P : Program} {md : Region.Mode} {ops : Array Oper}
/-- What holds while the head goes on. -/
structure HeadIW (ops : Array Oper) (n : Nat) (F : Nat → Value → World → Prop) (C : Nat → Nat → Bool) (a0 : Act) (I : (Nat → Bool) → World → Prop) (listed : Array Bool) (a : Act) (w : World) : Prop where
  inv : HeadInv .any ops n listed
  size : a.tmps.size = a0.tmps.size
  defers : a.defers = a0.defers
  other : ∀ s, (∀ j, j < n → slotOf ops j ≠ some s) → a.tmps.getD s undef = a0.tmps.getD s undef
  gr : I (fun j => listed.getD j false) w
  fact : ∀ j, j < n → listed.getD j false = true → F j (valOf ops a j) w
  apart : ∀ j k, j < n → k < n → listed.getD j false = true → listed.getD k false = true → C j k = true → valOf ops a j ≠ valOf ops a k

/-- What an operation of the head may lean on: L tells which ones are through. -/
structure HeadAtW (ops : Array Oper) (n : Nat) (F : Nat → Value → World → Prop) (C : Nat → Nat → Bool) (a0 : Act) (I : (Nat → Bool) → World → Prop) (G : Nat → Bool) (L : Nat → Prop) (i : Nat) (a : Act) (w : World) : Prop where
  other : ∀ s, (∀ j, j < n → slotOf ops j ≠ some s) → a.tmps.getD s undef = a0.tmps.getD s undef
  gr : I G w
  dep : ∀ j, Region.waitsFor .any ops i j = true → j < n → L j
  self : ¬ L i
  off : G i = false
  on : ∀ j, L j → G j = true
  closed : ∀ j k, G j = true → Region.waitsFor .any ops j k = true → k < n → G k = true
  fact : ∀ j, L j → F j (valOf ops a j) w
  apart : ∀ j k, L j → L k → C j k = true → valOf ops a j ≠ valOf ops a k

/-- As wpAny_inv, with guards. -/
theorem wpAny_winv {n : Nat} {F : Nat → Value → World → Prop} {C : Nat → Nat → Bool} {a0 : Act} {I : (Nat → Bool) → World → Prop} {Q : Exit → Act → World → Prop} (hB : headG ops n a0.tmps.size = true)
    (hsym : ∀ i j, C i j = true → C j i = true) (hirr : ∀ i, C i i = false)
    (hstep : ∀ G L i o a w, i < n → ops[i]? = some o → HeadAtW ops n F C a0 I G L i a w → if Region.wanted o (yielded ops a.tmps) = true then Oper.wp P o a w (fun a' w' => ∃ v, a' = a.put o.dst v ∧ I (fun j => decide (j = i) || G j) w' ∧ F i v w' ∧ (∀ j, L j → F j (valOf ops a j) w → F j (valOf ops a j) w') ∧ ∀ j, L j → C i j = true → v ≠ valOf ops a j) Q else I (fun j => decide (j = i) || G j) w ∧ F i undef w ∧ ∀ j, L j → C i j = true → undef ≠ valOf ops a j)
    (hend : ∀ vs G w, (∀ j, j < n → G j = true) → I G w → (∀ j, j < n → F j (vs j) w) → wpList P ops Q (ops.toList.drop n) (putAll ops vs n a0) w) :
    ∀ (f : Nat) (listed : Array Bool) (a : Act) (w : World), HeadIW ops n F C a0 I listed a w → cnt listed n = f → wpAny P .any ops Q (f + (ops.size - n)) listed a w := by
  simp only [headG, Bool.and_eq_true, decide_eq_true_eq] at hB
  obtain ⟨⟨⟨⟨hs, hc⟩, hn⟩, hg⟩, hq⟩ := hB
  have hop : ∀ i, i < n → ∃ o d, ops[i]? = some o ∧ o.dst = some d ∧ d < a0.tmps.size ∧ (∀ e ∈ o.after, e.on < i) ∧ ∀ j, j < n → j ≠ i → slotOf ops j ≠ some d := by
    intro i hi
    have h1 := List.all_eq_true.1 hg i (List.mem_range.2 hi)
    split at h1
    · rename_i o ho
      rw [Bool.and_eq_true] at h1
      obtain ⟨hb, h3⟩ := h1
      split at h3
      · rename_i d hd
        rw [Bool.and_eq_true, decide_eq_true_eq] at h3
        refine ⟨o, d, ho, hd, h3.1, fun e he => of_decide_eq_true (Array.all_eq_true'.1 hb e he), fun j hj hne => ?_⟩
        have h4 := List.all_eq_true.1 h3.2 j (List.mem_range.2 hj)
        simp only [Bool.or_eq_true, decide_eq_true_eq] at h4
        rcases h4 with h4 | h4
        · exact absurd h4 hne
        · exact h4
      · cases h3
    · cases h1
  have hfin : ∀ (listed : Array Bool) (a : Act) (w : World), HeadIW ops n F C a0 I listed a w → cnt listed n = 0 → wpAny P .any ops Q (ops.size - n) listed a w := by
    intro listed a w hI hf
    have hall := cnt_zero hf
    have hl : listed = ((List.range ops.size).map fun i => decide (i < n)).toArray := by
      apply Array.ext (by simp [hI.inv.size])
      intro i h1 h2
      simp
      rcases Nat.lt_or_ge i n with h3 | h3
      · have := hall i h3
        rw [decide_eq_true h3]
        simpa [h1] using this
      · have := hI.inv.tail i h3 (by rw [← hI.inv.size]; exact h1)
        rw [decide_eq_false (by omega)]
        simpa [h1] using this
    have hlen : (ops.toList.drop n).length = ops.size - n := by simp
    rw [← hlen] at hq ⊢
    refine wpAny_of_seq (ops.toList.drop n) n listed a w (fun j => by simp) (by rw [hl]; exact hq) ?_
    -- the frame
    have hput : ∀ (m : Nat), m ≤ n → ∀ s, (putAll ops (valOf ops a) m a0).tmps.getD s undef = if (∃ j, j < m ∧ slotOf ops j = some s) then a.tmps.getD s undef else a0.tmps.getD s undef := by
      intro m
      induction m with
      | zero => intro _ s; rw [if_neg (fun ⟨j, h, _⟩ => absurd h (by omega))]; rfl
      | succ m ih =>
        intro hm s
        obtain ⟨o, d, ho, hd, hdl, _, _⟩ := hop m (by omega)
        have hsl : slotOf ops m = some d := by unfold slotOf; rw [ho]; exact hd
        rw [putAll, hsl]
        by_cases e : d = s
        · subst e
          rw [put_at _ _ (by rw [putAll_size]; exact hdl), if_pos ⟨m, by omega, hsl⟩]
          simp only [valOf, hsl]
        · rw [put_ne _ _ (fun h => e (Option.some.inj h)), ih (by omega) s]
          by_cases h : ∃ j, j < m ∧ slotOf ops j = some s
          · obtain ⟨j, h1, h2⟩ := h
            rw [if_pos ⟨j, h1, h2⟩, if_pos ⟨j, by omega, h2⟩]
          · rw [if_neg h, if_neg]
            rintro ⟨j, h1, h2⟩
            rcases Nat.lt_or_ge j m with h3 | h3
            · exact h ⟨j, h3, h2⟩
            · obtain rfl : j = m := by omega
              rw [hsl] at h2
              exact e (Option.some.inj h2)
    have ha : a = putAll ops (valOf ops a) n a0 := by
      refine act_ext (by rw [putAll_size, hI.size]) (by rw [putAll_defers, hI.defers]) fun s => ?_
      rw [hput n (Nat.le_refl _) s]
      by_cases h : ∃ j, j < n ∧ slotOf ops j = some s
      · rw [if_pos h]
      · rw [if_neg h]
        exact hI.other s fun j hj e => h ⟨j, hj, e⟩
    rw [ha]
    exact hend _ (fun j => listed.getD j false) w (fun j hj => getD_in' (hall j hj) (by rw [hI.inv.size]; omega)) hI.gr fun j hj => hI.fact j hj (getD_in' (hall j hj) (by rw [hI.inv.size]; omega))
  intro f
  induction f with
  | zero => intro listed a w hI hf; rw [Nat.zero_add]; exact hfin listed a w hI hf
  | succ f ih =>
    intro listed a w hI hf
    have hun : ∃ i, i < n ∧ listed.getD i true = false := by
      refine Classical.byContradiction fun hh => ?_
      have : ∀ m, m ≤ n → cnt listed m = 0 := by
        intro m
        induction m with
        | zero => intro _; rfl
        | succ m ihm =>
          intro hm
          rw [cnt, ihm (by omega)]
          have : listed.getD m true = true := by
            cases e : listed.getD m true with
            | true => rfl
            | false => exact absurd ⟨m, by omega, e⟩ hh
          rw [if_pos this]
      have := this n (Nat.le_refl _)
      omega
    obtain ⟨i0, hi0, hu0⟩ := hun
    rw [show f + 1 + (ops.size - n) = (f + (ops.size - n)) + 1 by omega]
    refine ⟨fun h0 => ?_, fun i hi => ?_⟩
    · -- something is ready
      exfalso
      have hleast : ∀ i, i < n → listed.getD i true = false → False := by
        intro i
        induction i using Nat.strongRecOn with
        | ind i ihi =>
          intro hi hu
          obtain ⟨o, d, ho, _, _, hb, _⟩ := hop i hi
          have : i ∈ Region.ready .any ops listed := mem_ready.2 ⟨hu, o, ho, fun e he _ => by
            have he2 := hb e he
            cases hl : listed.getD e.on true with
            | true => exact getD_in' hl (by rw [hI.inv.size]; omega)
            | false => exact (ihi e.on he2 (by omega) hl).elim⟩
          rw [h0] at this
          cases this
      exact hleast i0 hi0 hu0
    · have hin : i < n := by
        rcases Nat.lt_or_ge i n with h1 | h1
        · exact h1
        · exact absurd hi (tail_waits hs hc hn hI.inv _ i0 rfl hi0 hu0 i h1)
      obtain ⟨o, d, ho, hd, hdl, _, hdn⟩ := hop i hin
      have hsl : slotOf ops i = some d := by unfold slotOf; rw [ho]; exact hd
      have hr := hi
      obtain ⟨hri, oi, hoi, hdeps⟩ := mem_ready.1 hi
      have hoe : oi = o := Option.some.inj (hoi.symm.trans ho)
      subst hoe
      have hat : HeadAtW ops n F C a0 I (fun j => listed.getD j false) (fun j => j < n ∧ listed.getD j false = true) i a w := ⟨hI.other, hI.gr, fun j hw hjn => by
        obtain ⟨oj, hoj, e, he, hb, hon⟩ := Region.waitsFor_spec hw
        have : oj = oi := Option.some.inj (hoj.symm.trans ho)
        subst this
        have := hdeps e he hb
        rw [hon] at this
        exact ⟨hjn, this⟩, fun h => (by have := getD_both hri; rw [h.2] at this; cases this), (by cases e : listed.getD i false with | false => rfl | true => (have := getD_both hri; rw [e] at this; cases this)), fun j hj => hj.2, (fun j k hj hw hkn => by
        obtain ⟨oj, hoj, e, he, hb, hon⟩ := Region.waitsFor_spec hw
        have := hI.inv.closed j oj hoj hj e he hb
        rw [hon] at this
        exact this), fun j hj => hI.fact j hj.1 hj.2, fun j k hj hk hc => hI.apart j k hj.1 hk.1 hj.2 hk.2 hc⟩
      have hfe : (fun j => (listed.setIfInBounds i true).getD j false) = fun j => decide (j = i) || listed.getD j false := by
        have hls : i < listed.size := by rw [hI.inv.size]; omega
        funext j
        by_cases e : i = j
        · subst e
          simp [hls]
        · have e2 : ¬ j = i := fun h => e h.symm
          simp [e, e2]
      have hcont : ∀ v w', I (fun j => decide (j = i) || listed.getD j false) w' → F i v w' → (∀ j, (j < n ∧ listed.getD j false = true) → F j (valOf ops a j) w → F j (valOf ops a j) w') → (∀ j, (j < n ∧ listed.getD j false = true) → C i j = true → v ≠ valOf ops a j) → wpAny P .any ops Q (f + (ops.size - n)) (listed.setIfInBounds i true) (a.put oi.dst v) w' := by
        intro v w' hg' hv hk hap
        have hvi : valOf ops (a.put oi.dst v) i = v := by
          simp only [valOf, hsl]
          rw [hd, put_at _ _ (by rw [hI.size]; exact hdl)]
        have hvj : ∀ j, j < n → j ≠ i → valOf ops (a.put oi.dst v) j = valOf ops a j := by
          intro j hj hne
          unfold valOf
          split
          · rename_i dj hsj
            rw [hd, put_ne _ _ (fun e2 => hdn j hj hne (by rw [hsj]; exact e2.symm))]
          · rfl
        have hll : ∀ j, j ≠ i → (listed.setIfInBounds i true).getD j false = true → listed.getD j false = true := by
          intro j hne h
          have : i ≠ j := fun e => hne e.symm
          simpa [this] using h
        refine ih _ _ _ ⟨hI.inv.set hi hin, by rw [put_size, hI.size], by rw [put_defers, hI.defers], fun s hs' => ?_, by rw [hfe]; exact hg', fun j hj hlj => ?_, fun j k hj hk' hlj hlk hc' => ?_⟩ (by have := cnt_set hin hri; omega)
        · rw [hd, put_ne _ _ (fun e => hs' i hin (by rw [hsl]; exact e))]
          exact hI.other s hs'
        · by_cases e : j = i
          · subst e
            rw [hvi]
            exact hv
          · rw [hvj j hj e]
            have hl' := hll j e hlj
            exact hk j ⟨hj, hl'⟩ (hI.fact j hj hl')
        · by_cases e : j = i
          · subst e
            by_cases e2 : k = j
            · subst e2
              rw [hirr] at hc'
              cases hc'
            · rw [hvi, hvj k hk' e2]
              exact hap k ⟨hk', hll k e2 hlk⟩ hc'
          · by_cases e2 : k = i
            · subst e2
              rw [hvi, hvj j hj e]
              exact fun h => hap j ⟨hj, hll j e hlj⟩ (hsym _ _ hc') h.symm
            · rw [hvj j hj e, hvj k hk' e2]
              exact hI.apart j k hj hk' (hll j e hlj) (hll k e2 hlk) hc'
      have hst := hstep _ _ i oi a w hin ho hat
      unfold wpOp
      rw [ho]
      by_cases hw : Region.wanted oi (yielded ops a.tmps) = true
      · rw [if_pos hw] at hst
        simp only [hw, if_true]
        refine .inl (Oper.wp_mono (fun a' w' h => ?_) hst)
        obtain ⟨v, rfl, hg', hv, hk, hap⟩ := h
        exact hcont v w' hg' hv hk hap
      · rw [if_neg hw] at hst
        simp only [hw]
        exact hcont undef w hst.1 hst.2.1 (fun _ _ h => h) hst.2.2

theorem wp_region_winv {id n : Nat} {l : List Oper} {F : Nat → Value → World → Prop} {C : Nat → Nat → Bool} {a0 : Act} {w0 : World} {I : (Nat → Bool) → World → Prop} (hI0 : I (fun _ => false) w0.drew) {Q : Exit → Act → World → Prop} (hm : P.follows .mixedOrders = true) (hB : headG l.toArray n a0.tmps.size = true)
    (hsym : ∀ i j, C i j = true → C j i = true) (hirr : ∀ i, C i i = false)
    (hstep : ∀ G L i o a w, i < n → l.toArray[i]? = some o → HeadAtW l.toArray n F C a0 I G L i a w → if Region.wanted o (yielded l.toArray a.tmps) = true then Oper.wp P o a w (fun a' w' => ∃ v, a' = a.put o.dst v ∧ I (fun j => decide (j = i) || G j) w' ∧ F i v w' ∧ (∀ j, L j → F j (valOf l.toArray a j) w → F j (valOf l.toArray a j) w') ∧ ∀ j, L j → C i j = true → v ≠ valOf l.toArray a j) Q else I (fun j => decide (j = i) || G j) w ∧ F i undef w ∧ ∀ j, L j → C i j = true → undef ≠ valOf l.toArray a j)
    (hend : ∀ vs G w, (∀ j, j < n → G j = true) → I G w → (∀ j, j < n → F j (vs j) w) → wpList P l.toArray Q (l.drop n) (putAll l.toArray vs n a0) w) :
    (Code.region id l.toArray true).wp P Q a0 w0 := by
  refine wp_region_any hm ?_
  have hn : n < l.toArray.size := by
    simp only [headG, Bool.and_eq_true, decide_eq_true_eq] at hB
    exact hB.1.1.2
  have hc : ∀ m, m ≤ l.toArray.size → cnt (Array.replicate l.toArray.size false) m = m := by
    intro m
    induction m with
    | zero => intro _; rfl
    | succ m ih =>
      intro hm
      have h0 : m + 1 ≤ l.length := by simpa using hm
      have h1 : m < l.length := h0
      rw [cnt, ih (by omega), if_neg]
      simp [h1]
  have := wpAny_winv (P := P) (ops := l.toArray) (I := I) (Q := Q) hB hsym hirr hstep (by simpa using hend) n (Array.replicate l.toArray.size false) a0 w0.drew
    ⟨⟨by simp, fun j oj _ hl => (by rw [getD_replicate_false] at hl; cases hl), fun t _ ht => getD_in (by simpa using ht) (getD_replicate_false _ _)⟩, rfl, rfl, fun _ _ => rfl, (by rw [show (fun j => (Array.replicate l.toArray.size false).getD j false) = fun _ => false from funext fun j => getD_replicate_false _ _]; exact hI0), fun j _ hl => (by rw [getD_replicate_false] at hl; cases hl), fun j _ _ _ hl => (by rw [getD_replicate_false] at hl; cases hl)⟩ (hc n (by omega))
  rw [show n + (l.toArray.size - n) = l.toArray.size by omega] at this
  exact this


theorem putN_congr {ds : List Tmp} {f g : Nat → Value} : ∀ (n : Nat), (∀ j, j < n → f j = g j) → ∀ a0 : Act, putN ds f n a0 = putN ds g n a0
  | 0, _, _ => rfl
  | n + 1, h, a0 => by rw [putN, putN, putN_congr n (fun j hj => h j (by omega)) a0, h n (by omega)]
/-- What an operation of the head may lean on: the frame, the values that it waits for. -/
structure WAt (ops : Array Oper) (n : Nat) (vals : List Value) (a0 : Act) (G : Nat → Bool) (i : Nat) (a : Act) : Prop where
  other : ∀ s, (∀ j, j < n → slotOf ops j ≠ some s) → a.tmps.getD s undef = a0.tmps.getD s undef
  dep : ∀ j, Region.waitsFor .any ops i j = true → j < n → valOf ops a j = vals.getD j undef
  through : ∀ j, Region.waitsFor .any ops i j = true → j < n → G j = true
  self : G i = false
  closed : ∀ j k, G j = true → Region.waitsFor .any ops j k = true → k < n → G k = true
abbrev WGoal (P : Program) (ops : Array Oper) (I : (Nat → Bool) → World → Prop) (vals : List Value) (G : Nat → Bool) (i : Nat) (o : Oper) (a : Act) (w : World) (Q : Exit → Act → World → Prop) : Prop :=
  if Region.wanted o (yielded ops a.tmps) = true then Oper.wp P o a w (fun a' w' => a' = a.put o.dst (vals.getD i undef) ∧ I (fun j => decide (j = i) || G j) w') Q else vals.getD i undef = undef ∧ I (fun j => decide (j = i) || G j) w
theorem wp_region_w {id n : Nat} {l : List Oper} (I : (Nat → Bool) → World → Prop) (vals : List Value) {a0 : Act} {w0 : World} {Q : Exit → Act → World → Prop} (ds : List Tmp) (hI0 : I (fun _ => false) w0.drew) (hm : P.follows .mixedOrders = true) (hB : headG l.toArray n a0.tmps.size = true) (hds : (List.range n).all (fun j => decide (slotOf l.toArray j = ds[j]?)) = true)
    (hstep : ∀ G i o a w, i < n → l.toArray[i]? = some o → WAt l.toArray n vals a0 G i a → I G w → WGoal P l.toArray I vals G i o a w Q)
    (hend : ∀ G w, (∀ j, j < n → G j = true) → I G w → wpList P l.toArray Q (l.drop n) (putN ds (fun j => vals.getD j undef) n a0) w) :
    (Code.region id l.toArray true).wp P Q a0 w0 := by
  refine wp_region_winv (I := I) (F := fun j v _ => v = vals.getD j undef) (C := fun _ _ => false) hI0 hm hB (fun _ _ h => by cases h) (fun _ => rfl) (fun G L i o a w hi ho hA => ?_) fun vs G w hG hI hF => ?_
  · have hself : G i = false := hA.off
    have h := hstep G i o a w hi ho ⟨hA.other, fun j h1 h2 => hA.fact j (hA.dep j h1 h2), fun j h1 h2 => hA.on j (hA.dep j h1 h2), hself, hA.closed⟩ hA.gr
    unfold WGoal at h
    split
    · rename_i hw
      rw [if_pos hw] at h
      exact Oper.wp_mono (fun a' w' ⟨h1, h2⟩ => ⟨_, h1, h2, rfl, fun j _ hf => hf, fun _ _ h => by cases h⟩) h
    · rename_i hw
      rw [if_neg hw] at h
      exact ⟨h.2, h.1.symm, fun _ _ h => by cases h⟩
  · rw [putAll_putN hds]
    have e : putN ds vs n a0 = putN ds (fun j => vals.getD j undef) n a0 := putN_congr n (fun j hj => hF j hj) a0
    rw [e]
    exact hend G w hG hI
section
variable {I : (Nat → Bool) → World → Prop} {vals : List Value} {G : Nat → Bool} {i j : Nat} {o : Oper} {a : Act} {w w' : World} {Q : Exit → Act → World → Prop} {b : Bool} {u : Value}
theorem w_wanted (h : Region.wanted o (yielded ops a.tmps) = true) (k : Oper.wp P o a w (fun a' w' => a' = a.put o.dst (vals.getD i undef) ∧ I (fun j => decide (j = i) || G j) w') Q) : WGoal P ops I vals G i o a w Q := by
  unfold WGoal
  rw [if_pos h]
  exact k
theorem w_plain (hg : o.guard = none) : Region.wanted o (yielded ops a.tmps) = true := by simp [Region.wanted, hg]
theorem w_yes (hg : o.guard = some (j, b)) (hv : valOf ops a j = .bool b) : Region.wanted o (yielded ops a.tmps) = true := by simp [Region.wanted, hg, yielded_val hv]
theorem w_no (hg : o.guard = some (j, b)) (hv : valOf ops a j = .bool (!b)) (h : vals.getD i undef = undef) (hI : I (fun j => decide (j = i) || G j) w) : WGoal P ops I vals G i o a w Q := by
  unfold WGoal
  rw [if_neg (by simp [Region.wanted, hg, yielded_val hv])]
  exact ⟨h, hI⟩
/-- What hangs on an operation that was passed over. -/
theorem w_off (hg : o.guard = some (j, b)) (hv : valOf ops a j = undef) (h : vals.getD i undef = undef) (hI : I (fun j => decide (j = i) || G j) w) : WGoal P ops I vals G i o a w Q := by
  have hy : yielded ops a.tmps j = none := by
    unfold valOf at hv
    unfold yielded
    change (match (slotOf ops j).bind (a.tmps[·]?) with | some (.bool b) => some b | _ => none) = none
    cases hs : slotOf ops j with
    | none => rfl
    | some d =>
      rw [hs] at hv
      simp only [Option.bind_some]
      cases hd : a.tmps[d]? with
      | none => rfl
      | some u =>
        simp [hd] at hv
        subst hv
        rfl
  unfold WGoal
  rw [if_neg (by simp [Region.wanted, hg, hy])]
  exact ⟨h, hI⟩
theorem w_val (h : Region.wanted o (yielded ops a.tmps) = true) (hr : (execOp a.eval o).run P w = .ok (.value u) w') (hu : u = vals.getD i undef) (hI : I (fun j => decide (j = i) || G j) w') : WGoal P ops I vals G i o a w Q := by
  refine w_wanted h ?_
  unfold Oper.wp
  rw [hr]
  exact ⟨by rw [hu], hI⟩
theorem w_call {f : FuncId} {args : Array Value} (h : Region.wanted o (yielded ops a.tmps) = true) (hr : (execOp a.eval o).run P w = .ok (.enter f args) w) (hc : Calls P f args w (fun e w' => e = .returned (vals.getD i undef) ∧ I (fun j => decide (j = i) || G j) w')) : WGoal P ops I vals G i o a w Q := by
  refine w_wanted h ?_
  unfold Oper.wp
  rw [hr]
  show Calls P f args w _
  refine hc.mono ?_
  rintro e w' ⟨rfl, hI⟩
  exact ⟨rfl, hI⟩
end
end
end Go.Proofs.YticifnegoacopaaGreatDoor

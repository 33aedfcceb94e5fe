/-
  A region that draws its order: what each operation of its head leaves is a fact that later ones keep; the tail goes in order. No program is named here.
-/
import Derived.Test.YticifnegoacopaaGreatDoorBase
import Derived.StillTail
namespace Go.Proofs.YticifnegoacopaaGreatDoor
open Go.RowKit

section
variable {P : Program} {md : Region.Mode} {ops : Array Oper}

/-- Where an operation leaves what it yields. -/
def slotOf (ops : Array Oper) (j : Nat) : Option Tmp := (ops[j]?).bind (·.dst)
/-- a with what the first operations left. -/
def putAll (ops : Array Oper) (vs : Nat → Value) : Nat → Act → Act
  | 0, a => a
  | n + 1, a => (putAll ops vs n a).put (slotOf ops n) (vs n)
/-- The head: no guards, each has a slot of its own, in the frame; all of it ahead of the tail, which is one row. -/
def headB (ops : Array Oper) (n m : Nat) : Bool :=
  Region.sinkB .any ops n && Region.chainB .any ops n && decide (n < ops.size) &&
  ((List.range n).all fun i => match ops[i]? with | some o => o.guard.isNone && (o.after.all fun e => decide (e.on < i)) && (match o.dst with | some d => decide (d < m) && ((List.range n).all fun j => decide (j = i) || decide (slotOf ops j ≠ some d)) | none => false) | none => false) &&
  Region.seqB .any ops (ops.size - n) n ((List.range ops.size).map fun i => decide (i < n)).toArray

theorem put_size (a : Act) (d : Option Tmp) (v : Value) : (a.put d v).tmps.size = a.tmps.size := by cases d <;> simp [Act.put]
theorem put_defers (a : Act) (d : Option Tmp) (v : Value) : (a.put d v).defers = a.defers := by cases d <;> simp [Act.put]
theorem put_at (a : Act) {d : Tmp} (v : Value) (h : d < a.tmps.size) : (a.put (some d) v).tmps.getD d undef = v := by simp [Act.put, h]
theorem put_ne (a : Act) {d : Option Tmp} {s : Tmp} (v : Value) (h : d ≠ some s) : (a.put d v).tmps.getD s undef = a.tmps.getD s undef := by
  cases d with
  | none => rfl
  | some d =>
    have : d ≠ s := fun e => h (by rw [e])
    simp [Act.put, this]
theorem putAll_size (vs : Nat → Value) (n : Nat) (a : Act) : (putAll ops vs n a).tmps.size = a.tmps.size := by
  induction n with
  | zero => rfl
  | succ n ih => rw [putAll, put_size, ih]
theorem putAll_defers (vs : Nat → Value) (n : Nat) (a : Act) : (putAll ops vs n a).defers = a.defers := by
  induction n with
  | zero => rfl
  | succ n ih => rw [putAll, put_defers, ih]
theorem act_ext {a b : Act} (hs : a.tmps.size = b.tmps.size) (hd : a.defers = b.defers) (h : ∀ s, a.tmps.getD s undef = b.tmps.getD s undef) : a = b := by
  obtain ⟨x, y⟩ := a
  obtain ⟨x', y'⟩ := b
  simp only at hs hd h
  subst hd
  have : x = x' := by
    apply Array.ext hs
    intro i h1 h2
    have := h i
    simpa [h1, h2] using this
  rw [this]

/-- How many of the first n are not listed. -/
def cnt (listed : Array Bool) : Nat → Nat
  | 0 => 0
  | n + 1 => cnt listed n + (if listed.getD n true = true then 0 else 1)
theorem cnt_other {listed : Array Bool} {n i : Nat} (h : n ≤ i) : cnt (listed.setIfInBounds i true) n = cnt listed n := by
  induction n with
  | zero => rfl
  | succ n ih =>
    have e : (listed.setIfInBounds i true).getD n true = listed.getD n true := by
      have : i ≠ n := by omega
      simp [this]
    rw [cnt, cnt, ih (by omega), e]
theorem cnt_set {listed : Array Bool} {n i : Nat} (h : i < n) (hi : listed.getD i true = false) : cnt (listed.setIfInBounds i true) n + 1 = cnt listed n := by
  induction n with
  | zero => omega
  | succ n ih =>
    have hlt : i < listed.size := by
      rcases Nat.lt_or_ge i listed.size with h1 | h1
      · exact h1
      · simp [Array.getElem?_eq_none h1] at hi
    rcases Nat.lt_or_ge i n with h1 | h1
    · have e : (listed.setIfInBounds i true).getD n true = listed.getD n true := by
        have : i ≠ n := by omega
        simp [this]
      rw [cnt, cnt, e]
      have := ih h1
      omega
    · obtain rfl : i = n := by omega
      have e : (listed.setIfInBounds i true).getD i true = true := by simp [hlt]
      rw [cnt, cnt, cnt_other (Nat.le_refl _), if_pos e, if_neg (by rw [hi]; decide)]
theorem cnt_zero {listed : Array Bool} {n : Nat} (h : cnt listed n = 0) : ∀ i, i < n → listed.getD i true = true := by
  induction n with
  | zero => intro i hi; omega
  | succ n ih =>
    intro i hi
    rw [cnt] at h
    rcases Nat.lt_or_ge i n with h1 | h1
    · exact ih (by omega) i h1
    · obtain rfl : i = n := by omega
      by_cases h2 : listed.getD i true = true
      · exact h2
      · rw [if_neg h2] at h; omega

theorem getD_in' {listed : Array Bool} {i : Nat} (h : listed.getD i true = true) (hi : i < listed.size) : listed.getD i false = true := by
  simp [hi] at h ⊢; exact h

/-- What operation j left. -/
def valOf (ops : Array Oper) (a : Act) (j : Nat) : Value := match slotOf ops j with | some d => a.tmps.getD d undef | none => undef
/-- What holds while the head goes on. -/
structure HeadI (ops : Array Oper) (n : Nat) (F : Nat → Value → World → Prop) (C : Nat → Nat → Bool) (a0 : Act) (I : World → Prop) (listed : Array Bool) (a : Act) (w : World) : Prop where
  inv : HeadInv .any ops n listed
  size : a.tmps.size = a0.tmps.size
  defers : a.defers = a0.defers
  other : ∀ s, (∀ j, j < n → slotOf ops j ≠ some s) → a.tmps.getD s undef = a0.tmps.getD s undef
  gr : I w
  fact : ∀ j, j < n → listed.getD j false = true → F j (valOf ops a j) w
  apart : ∀ j k, j < n → k < n → listed.getD j false = true → listed.getD k false = true → C j k = true → valOf ops a j ≠ valOf ops a k

/-- What an operation of the head may lean on: L tells which ones are through. -/
structure HeadAt (ops : Array Oper) (n : Nat) (F : Nat → Value → World → Prop) (C : Nat → Nat → Bool) (a0 : Act) (I : World → Prop) (L : Nat → Prop) (i : Nat) (a : Act) (w : World) : Prop where
  other : ∀ s, (∀ j, j < n → slotOf ops j ≠ some s) → a.tmps.getD s undef = a0.tmps.getD s undef
  gr : I w
  dep : ∀ j, Region.waitsFor .any ops i j = true → j < n → L j
  self : ¬ L i
  fact : ∀ j, L j → F j (valOf ops a j) w
  apart : ∀ j k, L j → L k → C j k = true → valOf ops a j ≠ valOf ops a k

theorem wpAny_inv {n : Nat} {F : Nat → Value → World → Prop} {C : Nat → Nat → Bool} {a0 : Act} {I : World → Prop} {Q : Exit → Act → World → Prop} (hB : headB ops n a0.tmps.size = true)
    (hsym : ∀ i j, C i j = true → C j i = true) (hirr : ∀ i, C i i = false)
    (hstep : ∀ L i o a w, i < n → ops[i]? = some o → HeadAt ops n F C a0 I L i a w → Oper.wp P o a w (fun a' w' => ∃ v, a' = a.put o.dst v ∧ I w' ∧ F i v w' ∧ (∀ j, L j → F j (valOf ops a j) w → F j (valOf ops a j) w') ∧ ∀ j, L j → C i j = true → v ≠ valOf ops a j) Q)
    (hend : ∀ vs w, I w → (∀ j, j < n → F j (vs j) w) → wpList P ops Q (ops.toList.drop n) (putAll ops vs n a0) w) :
    ∀ (f : Nat) (listed : Array Bool) (a : Act) (w : World), HeadI ops n F C a0 I listed a w → cnt listed n = f → wpAny P .any ops Q (f + (ops.size - n)) listed a w := by
  simp only [headB, Bool.and_eq_true, decide_eq_true_eq] at hB
  obtain ⟨⟨⟨⟨hs, hc⟩, hn⟩, hg⟩, hq⟩ := hB
  have hop : ∀ i, i < n → ∃ o d, ops[i]? = some o ∧ o.guard = none ∧ o.dst = some d ∧ d < a0.tmps.size ∧ (∀ e ∈ o.after, e.on < i) ∧ ∀ j, j < n → j ≠ i → slotOf ops j ≠ some d := by
    intro i hi
    have h1 := List.all_eq_true.1 hg i (List.mem_range.2 hi)
    split at h1
    · rename_i o ho
      rw [Bool.and_eq_true, Bool.and_eq_true] at h1
      obtain ⟨⟨h2, hb⟩, h3⟩ := h1
      split at h3
      · rename_i d hd
        rw [Bool.and_eq_true, decide_eq_true_eq] at h3
        refine ⟨o, d, ho, by simpa using h2, hd, h3.1, fun e he => of_decide_eq_true (Array.all_eq_true'.1 hb e he), fun j hj hne => ?_⟩
        have h4 := List.all_eq_true.1 h3.2 j (List.mem_range.2 hj)
        simp only [Bool.or_eq_true, decide_eq_true_eq] at h4
        rcases h4 with h4 | h4
        · exact absurd h4 hne
        · exact h4
      · cases h3
    · cases h1
  have hfin : ∀ (listed : Array Bool) (a : Act) (w : World), HeadI ops n F C a0 I listed a w → cnt listed n = 0 → wpAny P .any ops Q (ops.size - n) listed a w := by
    intro listed a w hI hf
    have hall := cnt_zero hf
    have hl : listed = ((List.range ops.size).map fun i => decide (i < n)).toArray := by
      apply Array.ext (by simp [hI.inv.size])
      intro i h1 h2
      simp
      rcases Nat.lt_or_ge i n with h3 | h3
      · have := hall i h3
        rw [decide_eq_true h3]
        simpa [h1] using this
      · have := hI.inv.tail i h3 (by rw [← hI.inv.size]; exact h1)
        rw [decide_eq_false (by omega)]
        simpa [h1] using this
    have hlen : (ops.toList.drop n).length = ops.size - n := by simp
    rw [← hlen] at hq ⊢
    refine wpAny_of_seq (ops.toList.drop n) n listed a w (fun j => by simp) (by rw [hl]; exact hq) ?_
    -- the frame
    have hput : ∀ (m : Nat), m ≤ n → ∀ s, (putAll ops (valOf ops a) m a0).tmps.getD s undef = if (∃ j, j < m ∧ slotOf ops j = some s) then a.tmps.getD s undef else a0.tmps.getD s undef := by
      intro m
      induction m with
      | zero => intro _ s; rw [if_neg (fun ⟨j, h, _⟩ => absurd h (by omega))]; rfl
      | succ m ih =>
        intro hm s
        obtain ⟨o, d, ho, _, hd, hdl, _, _⟩ := hop m (by omega)
        have hsl : slotOf ops m = some d := by unfold slotOf; rw [ho]; exact hd
        rw [putAll, hsl]
        by_cases e : d = s
        · subst e
          rw [put_at _ _ (by rw [putAll_size]; exact hdl), if_pos ⟨m, by omega, hsl⟩]
          simp only [valOf, hsl]
        · rw [put_ne _ _ (fun h => e (Option.some.inj h)), ih (by omega) s]
          by_cases h : ∃ j, j < m ∧ slotOf ops j = some s
          · obtain ⟨j, h1, h2⟩ := h
            rw [if_pos ⟨j, h1, h2⟩, if_pos ⟨j, by omega, h2⟩]
          · rw [if_neg h, if_neg]
            rintro ⟨j, h1, h2⟩
            rcases Nat.lt_or_ge j m with h3 | h3
            · exact h ⟨j, h3, h2⟩
            · obtain rfl : j = m := by omega
              rw [hsl] at h2
              exact e (Option.some.inj h2)
    have ha : a = putAll ops (valOf ops a) n a0 := by
      refine act_ext (by rw [putAll_size, hI.size]) (by rw [putAll_defers, hI.defers]) fun s => ?_
      rw [hput n (Nat.le_refl _) s]
      by_cases h : ∃ j, j < n ∧ slotOf ops j = some s
      · rw [if_pos h]
      · rw [if_neg h]
        exact hI.other s fun j hj e => h ⟨j, hj, e⟩
    rw [ha]
    exact hend _ w hI.gr fun j hj => hI.fact j hj (getD_in' (hall j hj) (by rw [hI.inv.size]; omega))
  intro f
  induction f with
  | zero => intro listed a w hI hf; rw [Nat.zero_add]; exact hfin listed a w hI hf
  | succ f ih =>
    intro listed a w hI hf
    have hun : ∃ i, i < n ∧ listed.getD i true = false := by
      refine Classical.byContradiction fun hh => ?_
      have : ∀ m, m ≤ n → cnt listed m = 0 := by
        intro m
        induction m with
        | zero => intro _; rfl
        | succ m ihm =>
          intro hm
          rw [cnt, ihm (by omega)]
          have : listed.getD m true = true := by
            cases e : listed.getD m true with
            | true => rfl
            | false => exact absurd ⟨m, by omega, e⟩ hh
          rw [if_pos this]
      have := this n (Nat.le_refl _)
      omega
    obtain ⟨i0, hi0, hu0⟩ := hun
    rw [show f + 1 + (ops.size - n) = (f + (ops.size - n)) + 1 by omega]
    refine ⟨fun h0 => ?_, fun i hi => ?_⟩
    · -- something is ready
      exfalso
      have hleast : ∀ i, i < n → listed.getD i true = false → False := by
        intro i
        induction i using Nat.strongRecOn with
        | ind i ihi =>
          intro hi hu
          obtain ⟨o, d, ho, _, _, _, hb, _⟩ := hop i hi
          have : i ∈ Region.ready .any ops listed := mem_ready.2 ⟨hu, o, ho, fun e he _ => by
            have he2 := hb e he
            cases hl : listed.getD e.on true with
            | true => exact getD_in' hl (by rw [hI.inv.size]; omega)
            | false => exact (ihi e.on he2 (by omega) hl).elim⟩
          rw [h0] at this
          cases this
      exact hleast i0 hi0 hu0
    · have hin : i < n := by
        rcases Nat.lt_or_ge i n with h1 | h1
        · exact h1
        · exact absurd hi (tail_waits hs hc hn hI.inv _ i0 rfl hi0 hu0 i h1)
      obtain ⟨o, d, ho, hgd, hd, hdl, _, hdn⟩ := hop i hin
      have hsl : slotOf ops i = some d := by unfold slotOf; rw [ho]; exact hd
      have hr := hi
      obtain ⟨hri, oi, hoi, hdeps⟩ := mem_ready.1 hi
      have hoe : oi = o := Option.some.inj (hoi.symm.trans ho)
      subst hoe
      have hat : HeadAt ops n F C a0 I (fun j => j < n ∧ listed.getD j false = true) i a w := ⟨hI.other, hI.gr, fun j hw hjn => by
        obtain ⟨oj, hoj, e, he, hb, hon⟩ := Region.waitsFor_spec hw
        have : oj = oi := Option.some.inj (hoj.symm.trans ho)
        subst this
        have := hdeps e he hb
        rw [hon] at this
        exact ⟨hjn, this⟩, fun h => (by have := getD_both hri; rw [h.2] at this; cases this), fun j hj => hI.fact j hj.1 hj.2, fun j k hj hk hc => hI.apart j k hj.1 hk.1 hj.2 hk.2 hc⟩
      unfold wpOp
      rw [ho]
      simp only [Region.wanted, hgd, if_true]
      refine .inl (Oper.wp_mono (fun a' w' h => ?_) (hstep _ i oi a w hin ho hat))
      obtain ⟨v, rfl, hg', hv, hk, hap⟩ := h
      have hvi : valOf ops (a.put oi.dst v) i = v := by
        simp only [valOf, hsl]
        rw [hd, put_at _ _ (by rw [hI.size]; exact hdl)]
      have hvj : ∀ j, j < n → j ≠ i → valOf ops (a.put oi.dst v) j = valOf ops a j := by
        intro j hj hne
        unfold valOf
        split
        · rename_i dj hsj
          rw [hd, put_ne _ _ (fun e2 => hdn j hj hne (by rw [hsj]; exact e2.symm))]
        · rfl
      have hll : ∀ j, j ≠ i → (listed.setIfInBounds i true).getD j false = true → listed.getD j false = true := by
        intro j hne h
        have : i ≠ j := fun e => hne e.symm
        simpa [this] using h
      refine ih _ _ _ ⟨hI.inv.set hi hin, by rw [put_size, hI.size], by rw [put_defers, hI.defers], fun s hs' => ?_, hg', fun j hj hlj => ?_, fun j k hj hk' hlj hlk hc' => ?_⟩ (by have := cnt_set hin hri; omega)
      · rw [hd, put_ne _ _ (fun e => hs' i hin (by rw [hsl]; exact e))]
        exact hI.other s hs'
      · by_cases e : j = i
        · subst e
          rw [hvi]
          exact hv
        · rw [hvj j hj e]
          have hl' := hll j e hlj
          exact hk j ⟨hj, hl'⟩ (hI.fact j hj hl')
      · by_cases e : j = i
        · subst e
          by_cases e2 : k = j
          · subst e2
            rw [hirr] at hc'
            cases hc'
          · rw [hvi, hvj k hk' e2]
            exact hap k ⟨hk', hll k e2 hlk⟩ hc'
        · by_cases e2 : k = i
          · subst e2
            rw [hvi, hvj j hj e]
            exact fun h => hap j ⟨hj, hll j e hlj⟩ (hsym _ _ hc') h.symm
          · rw [hvj j hj e, hvj k hk' e2]
            exact hI.apart j k hj hk' (hll j e hlj) (hll k e2 hlk) hc'

theorem any_region_inv {n : Nat} {l : List Oper} {F : Nat → Value → World → Prop} {C : Nat → Nat → Bool} {a0 : Act} {w0 : World} {I : World → Prop} (hI0 : I w0.drew) {Q : Exit → Act → World → Prop} (hB : headB l.toArray n a0.tmps.size = true)
    (hsym : ∀ i j, C i j = true → C j i = true) (hirr : ∀ i, C i i = false)
    (hstep : ∀ L i o a w, i < n → l.toArray[i]? = some o → HeadAt l.toArray n F C a0 I L i a w → Oper.wp P o a w (fun a' w' => ∃ v, a' = a.put o.dst v ∧ I w' ∧ F i v w' ∧ (∀ j, L j → F j (valOf l.toArray a j) w → F j (valOf l.toArray a j) w') ∧ ∀ j, L j → C i j = true → v ≠ valOf l.toArray a j) Q)
    (hend : ∀ vs w, I w → (∀ j, j < n → F j (vs j) w) → wpList P l.toArray Q (l.drop n) (putAll l.toArray vs n a0) w) :
    wpAny P .any l.toArray Q l.toArray.size (Array.replicate l.toArray.size false) a0 w0.drew := by
  have hn : n < l.toArray.size := by
    simp only [headB, Bool.and_eq_true, decide_eq_true_eq] at hB
    exact hB.1.1.2
  have hc : ∀ m, m ≤ l.toArray.size → cnt (Array.replicate l.toArray.size false) m = m := by
    intro m
    induction m with
    | zero => intro _; rfl
    | succ m ih =>
      intro hm
      have h0 : m + 1 ≤ l.length := by simpa using hm
      have h1 : m < l.length := h0
      rw [cnt, ih (by omega), if_neg]
      simp [h1]
  have := wpAny_inv (P := P) (ops := l.toArray) (I := I) (Q := Q) hB hsym hirr hstep (by simpa using hend) n (Array.replicate l.toArray.size false) a0 w0.drew
    ⟨⟨by simp, fun j oj _ hl => (by rw [getD_replicate_false] at hl; cases hl), fun t _ ht => getD_in (by simpa using ht) (getD_replicate_false _ _)⟩, rfl, rfl, fun _ _ => rfl, hI0, fun j _ hl => (by rw [getD_replicate_false] at hl; cases hl), fun j _ _ _ hl => (by rw [getD_replicate_false] at hl; cases hl)⟩ (hc n (by omega))
  rw [show n + (l.toArray.size - n) = l.toArray.size by omega] at this
  exact this
theorem wp_region_inv {id n : Nat} {l : List Oper} {F : Nat → Value → World → Prop} {C : Nat → Nat → Bool} {a0 : Act} {w0 : World} {I : World → Prop} (hI0 : I w0.drew) {Q : Exit → Act → World → Prop} (hm : P.follows .mixedOrders = true) (hB : headB l.toArray n a0.tmps.size = true)
    (hsym : ∀ i j, C i j = true → C j i = true) (hirr : ∀ i, C i i = false)
    (hstep : ∀ L i o a w, i < n → l.toArray[i]? = some o → HeadAt l.toArray n F C a0 I L i a w → Oper.wp P o a w (fun a' w' => ∃ v, a' = a.put o.dst v ∧ I w' ∧ F i v w' ∧ (∀ j, L j → F j (valOf l.toArray a j) w → F j (valOf l.toArray a j) w') ∧ ∀ j, L j → C i j = true → v ≠ valOf l.toArray a j) Q)
    (hend : ∀ vs w, I w → (∀ j, j < n → F j (vs j) w) → wpList P l.toArray Q (l.drop n) (putAll l.toArray vs n a0) w) :
    (Code.region id l.toArray true).wp P Q a0 w0 := wp_region_any hm (any_region_inv hI0 hB hsym hirr hstep hend)

/-- putAll, the slots told outright. -/
def putN (ds : List Tmp) (vs : Nat → Value) : Nat → Act → Act
  | 0, a => a
  | n + 1, a => (putN ds vs n a).put (ds[n]?) (vs n)
theorem putAll_putN {ops : Array Oper} {ds : List Tmp} {vs : Nat → Value} {n : Nat} {a : Act} (h : (List.range n).all (fun j => decide (slotOf ops j = ds[j]?)) = true) : putAll ops vs n a = putN ds vs n a := by
  induction n with
  | zero => rfl
  | succ n ih =>
    rw [putAll, putN, ih (List.all_eq_true.2 fun j hj => List.all_eq_true.1 h j (List.mem_range.2 (by have := List.mem_range.1 hj; omega)))]
    have := List.all_eq_true.1 h n (List.mem_range.2 (by omega))
    rw [of_decide_eq_true this]
theorem wp_region_ds {id n : Nat} {l : List Oper} {F : Nat → Value → World → Prop} {C : Nat → Nat → Bool} {a0 : Act} {w0 : World} {Q : Exit → Act → World → Prop} (ds : List Tmp) (hm : P.follows .mixedOrders = true) (hB : headB l.toArray n a0.tmps.size = true) (hds : (List.range n).all (fun j => decide (slotOf l.toArray j = ds[j]?)) = true)
    (hsym : ∀ i j, C i j = true → C j i = true) (hirr : ∀ i, C i i = false)
    (hstep : ∀ L i o a w, i < n → l.toArray[i]? = some o → HeadAt l.toArray n F C a0 (Gr w0.drew) L i a w → Oper.wp P o a w (fun a' w' => ∃ v, a' = a.put o.dst v ∧ Gr w0.drew w' ∧ F i v w' ∧ (∀ j, L j → F j (valOf l.toArray a j) w → F j (valOf l.toArray a j) w') ∧ ∀ j, L j → C i j = true → v ≠ valOf l.toArray a j) Q)
    (hend : ∀ vs w, Gr w0.drew w → (∀ j, j < n → F j (vs j) w) → wpList P l.toArray Q (l.drop n) (putN ds vs n a0) w) :
    (Code.region id l.toArray true).wp P Q a0 w0 :=
  wp_region_inv (I := Gr w0.drew) (Gr.refl _) hm hB hsym hirr hstep fun vs w hg hF => by rw [putAll_putN hds]; exact hend vs w hg hF
/-- A fact about what an operation left, that a greater world keeps. -/
structure Fg where
  p : Value → World → Prop
  mono : ∀ v w w', p v w → Gr w w' → p v w'
def Fg.eq (u : Value) : Fg := ⟨fun v _ => v = u, fun _ _ _ h _ => h⟩
def fgAt (fs : List Fg) (j : Nat) : Fg := fs.getD j ⟨fun _ _ => True, fun _ _ _ _ _ => trivial⟩
abbrev GrAt (ops : Array Oper) (n : Nat) (fs : List Fg) (a0 : Act) (w0 : World) (L : Nat → Prop) (i : Nat) (a : Act) (w : World) : Prop :=
  HeadAt ops n (fun j v w => (fgAt fs j).p v w) (fun _ _ => false) a0 (Gr w0) L i a w
abbrev GrPost (fs : List Fg) (i : Nat) (o : Oper) (a : Act) (w : World) (a' : Act) (w' : World) : Prop := ∃ v, a' = a.put o.dst v ∧ Gr w w' ∧ (fgAt fs i).p v w'
/-- A region that draws its order, the operations of whose head write nothing that was there. -/
theorem wp_region_gr {id n : Nat} {l : List Oper} (fs : List Fg) {a0 : Act} {w0 : World} {Q : Exit → Act → World → Prop} (ds : List Tmp) (hm : P.follows .mixedOrders = true) (hB : headB l.toArray n a0.tmps.size = true) (hds : (List.range n).all (fun j => decide (slotOf l.toArray j = ds[j]?)) = true)
    (hstep : ∀ L i o a w, i < n → l.toArray[i]? = some o → GrAt l.toArray n fs a0 w0.drew L i a w → Oper.wp P o a w (GrPost fs i o a w) Q)
    (hend : ∀ vs w, Gr w0.drew w → (∀ j, j < n → (fgAt fs j).p (vs j) w) → wpList P l.toArray Q (l.drop n) (putN ds vs n a0) w) :
    (Code.region id l.toArray true).wp P Q a0 w0 :=
  wp_region_ds (C := fun _ _ => false) ds hm hB hds (fun _ _ h => by cases h) (fun _ => rfl)
    (fun L i o a w hi ho hA => Oper.wp_mono (fun a' w' ⟨v, h1, h2, h3⟩ => ⟨v, h1, hA.gr.trans h2, h3, fun j _ hf => (fgAt fs j).mono _ _ _ hf h2, fun _ _ h => by cases h⟩) (hstep L i o a w hi ho hA))
    hend
theorem gstep_val {fs : List Fg} {i : Nat} {o : Oper} {a : Act} {w : World} {Q : Exit → Act → World → Prop} {u : Value} (hr : (execOp a.eval o).run P w = .ok (.value u) w) (hk : (fgAt fs i).p u w) : Oper.wp P o a w (GrPost fs i o a w) Q := by
  unfold Oper.wp
  rw [hr]
  exact ⟨u, rfl, Gr.refl _, hk⟩
theorem gstep_new {fs : List Fg} {i : Nat} {o : Oper} {a : Act} {w w' : World} {Q : Exit → Act → World → Prop} {u : Value} (hr : (execOp a.eval o).run P w = .ok (.value u) w') (hg : Gr w w') (hk : (fgAt fs i).p u w') : Oper.wp P o a w (GrPost fs i o a w) Q := by
  unfold Oper.wp
  rw [hr]
  exact ⟨u, rfl, hg, hk⟩
theorem gstep_call {fs : List Fg} {i : Nat} {o : Oper} {a : Act} {w : World} {Q : Exit → Act → World → Prop} {f : FuncId} {args : Array Value} (hr : (execOp a.eval o).run P w = .ok (.enter f args) w) (hc : Calls P f args w (fun e w' => ∃ v, e = .returned v ∧ Gr w w' ∧ (fgAt fs i).p v w')) : Oper.wp P o a w (GrPost fs i o a w) Q := by
  unfold Oper.wp
  rw [hr]
  show Calls P f args w _
  refine hc.mono ?_
  rintro e w' ⟨v, rfl, h⟩
  exact ⟨v, rfl, h⟩

abbrev KAt (ops : Array Oper) (n : Nat) (fs : List Fg) (I : World → Prop) (a0 : Act) (L : Nat → Prop) (i : Nat) (a : Act) (w : World) : Prop :=
  HeadAt ops n (fun j v w => (fgAt fs j).p v w) (fun _ _ => false) a0 I L i a w
abbrev KPost (ops : Array Oper) (fs : List Fg) (I : World → Prop) (L : Nat → Prop) (i : Nat) (o : Oper) (a : Act) (w : World) (a' : Act) (w' : World) : Prop :=
  ∃ v, a' = a.put o.dst v ∧ I w' ∧ (fgAt fs i).p v w' ∧ ∀ j, L j → (fgAt fs j).p (valOf ops a j) w → (fgAt fs j).p (valOf ops a j) w'
/-- A region that draws its order: I holds throughout; each step keeps what the others left. -/
theorem wp_region_k {id n : Nat} {l : List Oper} (I : World → Prop) (fs : List Fg) {a0 : Act} {w0 : World} {Q : Exit → Act → World → Prop} (ds : List Tmp) (hI0 : I w0.drew) (hm : P.follows .mixedOrders = true) (hB : headB l.toArray n a0.tmps.size = true) (hds : (List.range n).all (fun j => decide (slotOf l.toArray j = ds[j]?)) = true)
    (hstep : ∀ L i o a w, i < n → l.toArray[i]? = some o → KAt l.toArray n fs I a0 L i a w → Oper.wp P o a w (KPost l.toArray fs I L i o a w) Q)
    (hend : ∀ vs w, I w → (∀ j, j < n → (fgAt fs j).p (vs j) w) → wpList P l.toArray Q (l.drop n) (putN ds vs n a0) w) :
    (Code.region id l.toArray true).wp P Q a0 w0 :=
  wp_region_inv (C := fun _ _ => false) hI0 hm hB (fun _ _ h => by cases h) (fun _ => rfl)
    (fun L i o a w hi ho hA => Oper.wp_mono (fun a' w' ⟨v, h1, h3, h4, h5⟩ => ⟨v, h1, h3, h4, h5, fun _ _ h => by cases h⟩) (hstep L i o a w hi ho hA))
    fun vs w hg hF => by rw [putAll_putN hds]; exact hend vs w hg hF
section
variable {n : Nat} {fs : List Fg} {I : World → Prop} {a0 : Act} {L : Nat → Prop} {i : Nat} {o : Oper} {a : Act} {w w' : World} {Q : Exit → Act → World → Prop} {u : Value}
theorem kstep_val (hA : KAt ops n fs I a0 L i a w) (hr : (execOp a.eval o).run P w = .ok (.value u) w) (hk : (fgAt fs i).p u w) : Oper.wp P o a w (KPost ops fs I L i o a w) Q := by
  unfold Oper.wp
  rw [hr]
  exact ⟨u, rfl, hA.gr, hk, fun _ _ h => h⟩
theorem kstep_gr (_ : KAt ops n fs I a0 L i a w) (hr : (execOp a.eval o).run P w = .ok (.value u) w') (hg : Gr w w') (hI : I w') (hk : (fgAt fs i).p u w') : Oper.wp P o a w (KPost ops fs I L i o a w) Q := by
  unfold Oper.wp
  rw [hr]
  exact ⟨u, rfl, hI, hk, fun j _ h => (fgAt fs j).mono _ _ _ h hg⟩
theorem kstep_keep (hA : KAt ops n fs I a0 L i a w) (hr : (execOp a.eval o).run P w = .ok (.value u) w') (hI : I w') (hk : (fgAt fs i).p u w') (hkeep : ∀ j, j ≠ i → ∀ v, (fgAt fs j).p v w → (fgAt fs j).p v w') : Oper.wp P o a w (KPost ops fs I L i o a w) Q := by
  unfold Oper.wp
  rw [hr]
  exact ⟨u, rfl, hI, hk, fun j hj h => hkeep j (fun e => hA.self (by rw [← e]; exact hj)) _ h⟩
theorem kstep_call {f : FuncId} {args : Array Value} (hA : KAt ops n fs I a0 L i a w) (hr : (execOp a.eval o).run P w = .ok (.enter f args) w) (hc : Calls P f args w (fun e w' => ∃ v, e = .returned v ∧ I w' ∧ (fgAt fs i).p v w' ∧ ∀ j, j ≠ i → ∀ v, (fgAt fs j).p v w → (fgAt fs j).p v w')) : Oper.wp P o a w (KPost ops fs I L i o a w) Q := by
  unfold Oper.wp
  rw [hr]
  show Calls P f args w _
  refine hc.mono ?_
  rintro e w' ⟨v, rfl, hI, hk, hkeep⟩
  exact ⟨v, rfl, hI, hk, fun j hj h => hkeep j (fun e => hA.self (by rw [← e]; exact hj)) _ h⟩
end
end
end Go.Proofs.YticifnegoacopaaGreatDoor

/-
  A region that draws its order, one operation of which writes (a call): what holds of the world turns there. (Printed by genregl.py out of XReg.)
-/
import Derived.Test.YticifnegoacopaaGreatDoorReg
namespace Go.Proofs.YticifnegoacopaaGreatDoor
open Go.RowKit
section
variable {P : Program} {ops : Array Oper}
/-- As headB; an edge that binds in no mode of ours may point on. -/
def headL (ops : Array Oper) (n m : Nat) : Bool :=
  Region.sinkB .any ops n && Region.chainB .any ops n && decide (n < ops.size) &&
  ((List.range n).all fun i => match ops[i]? with | some o => o.guard.isNone && (o.after.all fun e => !(Region.binds .any e) || decide (e.on < i)) && (match o.dst with | some d => decide (d < m) && ((List.range n).all fun j => decide (j = i) || decide (slotOf ops j ≠ some d)) | none => true) | none => false) &&
  Region.seqB .any ops (ops.size - n) n ((List.range ops.size).map fun i => decide (i < n)).toArray
/-- What an operation leaves in its slot, if it has one. -/
def got (o : Oper) (v : Value) : Value := if o.dst.isSome then v else undef
/-- What holds while the head goes on. -/
structure HeadIL (ops : Array Oper) (n : Nat) (F : Nat → (Nat → Value) → World → Prop) (C : Nat → Nat → Bool) (a0 : Act) (I : Bool → World → Prop) (c : Nat) (listed : Array Bool) (a : Act) (w : World) : Prop where
  inv : HeadInv .any ops n listed
  size : a.tmps.size = a0.tmps.size
  defers : a.defers = a0.defers
  other : ∀ s, (∀ j, j < n → slotOf ops j ≠ some s) → a.tmps.getD s undef = a0.tmps.getD s undef
  gr : I (listed.getD c false) w
  fact : ∀ j, j < n → listed.getD j false = true → F j (valOf ops a) w
  apart : ∀ j k, j < n → k < n → listed.getD j false = true → listed.getD k false = true → C j k = true → valOf ops a j ≠ valOf ops a k

/-- What an operation of the head may lean on: L tells which ones are through. -/
structure HeadAtL (ops : Array Oper) (n : Nat) (F : Nat → (Nat → Value) → World → Prop) (C : Nat → Nat → Bool) (a0 : Act) (I : Bool → World → Prop) (c : Nat) (L : Nat → Prop) (i : Nat) (a : Act) (w : World) : Prop where
  other : ∀ s, (∀ j, j < n → slotOf ops j ≠ some s) → a.tmps.getD s undef = a0.tmps.getD s undef
  yes : L c → I true w
  no : ¬ L c → I false w
  dep : ∀ j, Region.waitsFor .any ops i j = true → j < n → L j
  self : ¬ L i
  fact : ∀ j, L j → F j (valOf ops a) w
  low : ∀ j, L j → j < n
  closed : ∀ j k, L j → Region.waitsFor .any ops j k = true → k < n → L k
  apart : ∀ j k, L j → L k → C j k = true → valOf ops a j ≠ valOf ops a k

theorem wpAny_invL {n : Nat} {F : Nat → (Nat → Value) → World → Prop} {C : Nat → Nat → Bool} {a0 : Act} {I : Bool → World → Prop} {c : Nat} {Q : Exit → Act → World → Prop} (hB : headL ops n a0.tmps.size = true)
    (hsym : ∀ i j, C i j = true → C j i = true) (hirr : ∀ i, C i i = false)
    (hstep : ∀ L i o a w, i < n → ops[i]? = some o → HeadAtL ops n F C a0 I c L i a w → Oper.wp P o a w (fun a' w' => ∃ v, a' = a.put o.dst v ∧ ((i = c ∨ L c → I true w') ∧ (¬ (i = c ∨ L c) → I false w')) ∧ (∀ f, f i = got o v → (∀ j, L j → f j = valOf ops a j) → F i f w' ∧ ∀ j, L j → F j (valOf ops a) w → F j f w') ∧ ∀ j, L j → C i j = true → got o v ≠ valOf ops a j) Q)
    (hcn : c < n) (hend : ∀ vs w, I true w → (∀ j, j < n → F j vs w) → wpList P ops Q (ops.toList.drop n) (putAll ops vs n a0) w) :
    ∀ (f : Nat) (listed : Array Bool) (a : Act) (w : World), HeadIL ops n F C a0 I c listed a w → cnt listed n = f → wpAny P .any ops Q (f + (ops.size - n)) listed a w := by
  simp only [headL, Bool.and_eq_true, decide_eq_true_eq] at hB
  obtain ⟨⟨⟨⟨hs, hc⟩, hn⟩, hg⟩, hq⟩ := hB
  have hop : ∀ i, i < n → ∃ o, ops[i]? = some o ∧ o.guard = none ∧ (∀ e ∈ o.after, Region.binds .any e = true → e.on < i) ∧ ∀ d, o.dst = some d → d < a0.tmps.size ∧ ∀ j, j < n → j ≠ i → slotOf ops j ≠ some d := by
    intro i hi
    have h1 := List.all_eq_true.1 hg i (List.mem_range.2 hi)
    split at h1
    · rename_i o ho
      rw [Bool.and_eq_true, Bool.and_eq_true] at h1
      obtain ⟨⟨h2, hb⟩, h3⟩ := h1
      refine ⟨o, ho, by simpa using h2, fun e he hbd => by have h5 := Array.all_eq_true'.1 hb e he; rw [hbd] at h5; simpa using h5, fun d hd => ?_⟩
      rw [hd] at h3
      simp only [Bool.and_eq_true, decide_eq_true_eq] at h3
      refine ⟨h3.1, fun j hj hne => ?_⟩
      have h4 := List.all_eq_true.1 h3.2 j (List.mem_range.2 hj)
      simp only [Bool.or_eq_true, decide_eq_true_eq] at h4
      rcases h4 with h4 | h4
      · exact absurd h4 hne
      · exact h4
    · cases h1
  have hfin : ∀ (listed : Array Bool) (a : Act) (w : World), HeadIL ops n F C a0 I c listed a w → cnt listed n = 0 → wpAny P .any ops Q (ops.size - n) listed a w := by
    intro listed a w hI hf
    have hall := cnt_zero hf
    have hl : listed = ((List.range ops.size).map fun i => decide (i < n)).toArray := by
      apply Array.ext (by simp [hI.inv.size])
      intro i h1 h2
      simp
      rcases Nat.lt_or_ge i n with h3 | h3
      · have := hall i h3
        rw [decide_eq_true h3]
        simpa [h1] using this
      · have := hI.inv.tail i h3 (by rw [← hI.inv.size]; exact h1)
        rw [decide_eq_false (by omega)]
        simpa [h1] using this
    have hlen : (ops.toList.drop n).length = ops.size - n := by simp
    rw [← hlen] at hq ⊢
    refine wpAny_of_seq (ops.toList.drop n) n listed a w (fun j => by simp) (by rw [hl]; exact hq) ?_
    -- the frame
    have hput : ∀ (m : Nat), m ≤ n → ∀ s, (putAll ops (valOf ops a) m a0).tmps.getD s undef = if (∃ j, j < m ∧ slotOf ops j = some s) then a.tmps.getD s undef else a0.tmps.getD s undef := by
      intro m
      induction m with
      | zero => intro _ s; rw [if_neg (fun ⟨j, h, _⟩ => absurd h (by omega))]; rfl
      | succ m ih =>
        intro hm s
        obtain ⟨o, ho, _, _, hdd⟩ := hop m (by omega)
        have hsl : slotOf ops m = o.dst := by unfold slotOf; rw [ho]; rfl
        rw [putAll]
        cases hd : o.dst with
        | none =>
          rw [hsl, hd]
          show (putAll ops (valOf ops a) m a0).tmps.getD s undef = _
          rw [ih (by omega) s]
          by_cases h : ∃ j, j < m ∧ slotOf ops j = some s
          · obtain ⟨j, h1, h2⟩ := h
            rw [if_pos ⟨j, h1, h2⟩, if_pos ⟨j, by omega, h2⟩]
          · rw [if_neg h, if_neg]
            rintro ⟨j, h1, h2⟩
            rcases Nat.lt_or_ge j m with h3 | h3
            · exact h ⟨j, h3, h2⟩
            · obtain rfl : j = m := by omega
              rw [hsl, hd] at h2
              cases h2
        | some d =>
          rw [hd] at hsl
          rw [hsl]
          by_cases e : d = s
          · subst e
            rw [put_at _ _ (by rw [putAll_size]; exact (hdd d hd).1), if_pos ⟨m, by omega, hsl⟩]
            simp only [valOf, hsl]
          · rw [put_ne _ _ (fun h => e (Option.some.inj h)), ih (by omega) s]
            by_cases h : ∃ j, j < m ∧ slotOf ops j = some s
            · obtain ⟨j, h1, h2⟩ := h
              rw [if_pos ⟨j, h1, h2⟩, if_pos ⟨j, by omega, h2⟩]
            · rw [if_neg h, if_neg]
              rintro ⟨j, h1, h2⟩
              rcases Nat.lt_or_ge j m with h3 | h3
              · exact h ⟨j, h3, h2⟩
              · obtain rfl : j = m := by omega
                rw [hsl] at h2
                exact e (Option.some.inj h2)
    have ha : a = putAll ops (valOf ops a) n a0 := by
      refine act_ext (by rw [putAll_size, hI.size]) (by rw [putAll_defers, hI.defers]) fun s => ?_
      rw [hput n (Nat.le_refl _) s]
      by_cases h : ∃ j, j < n ∧ slotOf ops j = some s
      · rw [if_pos h]
      · rw [if_neg h]
        exact hI.other s fun j hj e => h ⟨j, hj, e⟩
    rw [ha]
    exact hend _ w (by have h := hI.gr; rw [getD_in' (hall c hcn) (by rw [hI.inv.size]; omega)] at h; exact h) fun j hj => hI.fact j hj (getD_in' (hall j hj) (by rw [hI.inv.size]; omega))
  intro f
  induction f with
  | zero => intro listed a w hI hf; rw [Nat.zero_add]; exact hfin listed a w hI hf
  | succ f ih =>
    intro listed a w hI hf
    have hun : ∃ i, i < n ∧ listed.getD i true = false := by
      refine Classical.byContradiction fun hh => ?_
      have : ∀ m, m ≤ n → cnt listed m = 0 := by
        intro m
        induction m with
        | zero => intro _; rfl
        | succ m ihm =>
          intro hm
          rw [cnt, ihm (by omega)]
          have : listed.getD m true = true := by
            cases e : listed.getD m true with
            | true => rfl
            | false => exact absurd ⟨m, by omega, e⟩ hh
          rw [if_pos this]
      have := this n (Nat.le_refl _)
      omega
    obtain ⟨i0, hi0, hu0⟩ := hun
    rw [show f + 1 + (ops.size - n) = (f + (ops.size - n)) + 1 by omega]
    refine ⟨fun h0 => ?_, fun i hi => ?_⟩
    · -- something is ready
      exfalso
      have hleast : ∀ i, i < n → listed.getD i true = false → False := by
        intro i
        induction i using Nat.strongRecOn with
        | ind i ihi =>
          intro hi hu
          obtain ⟨o, ho, _, hb, _⟩ := hop i hi
          have : i ∈ Region.ready .any ops listed := mem_ready.2 ⟨hu, o, ho, fun e he hbd => by
            have he2 := hb e he hbd
            cases hl : listed.getD e.on true with
            | true => exact getD_in' hl (by rw [hI.inv.size]; omega)
            | false => exact (ihi e.on he2 (by omega) hl).elim⟩
          rw [h0] at this
          cases this
      exact hleast i0 hi0 hu0
    · have hin : i < n := by
        rcases Nat.lt_or_ge i n with h1 | h1
        · exact h1
        · exact absurd hi (tail_waits hs hc hn hI.inv _ i0 rfl hi0 hu0 i h1)
      obtain ⟨o, ho, hgd, _, hdd⟩ := hop i hin
      have hsl : slotOf ops i = o.dst := by unfold slotOf; rw [ho]; rfl
      have hr := hi
      obtain ⟨hri, oi, hoi, hdeps⟩ := mem_ready.1 hi
      have hoe : oi = o := Option.some.inj (hoi.symm.trans ho)
      subst hoe
      have hat : HeadAtL ops n F C a0 I c (fun j => j < n ∧ listed.getD j false = true) i a w := ⟨hI.other, fun hL => by have h := hI.gr; rw [hL.2] at h; exact h, fun hL => by have h := hI.gr; rw [show listed.getD c false = false from by cases e : listed.getD c false with | true => exact absurd ⟨hcn, e⟩ hL | false => rfl] at h; exact h, fun j hw hjn => by
        obtain ⟨oj, hoj, e, he, hb, hon⟩ := Region.waitsFor_spec hw
        have : oj = oi := Option.some.inj (hoj.symm.trans ho)
        subst this
        have := hdeps e he hb
        rw [hon] at this
        exact ⟨hjn, this⟩, fun h => (by have := getD_both hri; rw [h.2] at this; cases this), fun j hj => hI.fact j hj.1 hj.2, fun j hj => hj.1, fun j k hj hw hkn => by
        obtain ⟨oj, hoj, e, he, hb, hon⟩ := Region.waitsFor_spec hw
        have := hI.inv.closed j oj hoj hj.2 e he hb
        rw [hon] at this
        exact ⟨hkn, this⟩, fun j k hj hk hc => hI.apart j k hj.1 hk.1 hj.2 hk.2 hc⟩
      unfold wpOp
      rw [ho]
      simp only [Region.wanted, hgd, if_true]
      refine .inl (Oper.wp_mono (fun a' w' h => ?_) (hstep _ i oi a w hin ho hat))
      obtain ⟨v, rfl, hg', hvk, hap⟩ := h
      have hvi : valOf ops (a.put oi.dst v) i = got oi v := by
        unfold valOf got
        rw [hsl]
        cases hd : oi.dst with
        | none => rfl
        | some d =>
          show (a.put (some d) v).tmps.getD d undef = v
          rw [put_at _ _ (by rw [hI.size]; exact (hdd d hd).1)]
      have hvj : ∀ j, j < n → j ≠ i → valOf ops (a.put oi.dst v) j = valOf ops a j := by
        intro j hj hne
        unfold valOf
        split
        · rename_i dj hsj
          rw [put_ne _ _ (fun e2 => (hdd dj e2).2 j hj hne hsj)]
        · rfl
      have hfk := hvk (valOf ops (a.put oi.dst v)) hvi (fun j hj => hvj j hj.1 (fun e => by subst e; have := getD_both hri; rw [hj.2] at this; cases this))
      have hll : ∀ j, j ≠ i → (listed.setIfInBounds i true).getD j false = true → listed.getD j false = true := by
        intro j hne h
        have : i ≠ j := fun e => hne e.symm
        simpa [this] using h
      refine ih _ _ _ ⟨hI.inv.set hi hin, by rw [put_size, hI.size], by rw [put_defers, hI.defers], fun s hs' => ?_, ?gr, fun j hj hlj => ?_, fun j k hj hk' hlj hlk hc' => ?_⟩ (by have := cnt_set hin hri; omega)
      case gr =>
        by_cases hic : i = c
        · subst hic
          have hls : i < listed.size := by
            rcases Nat.lt_or_ge i listed.size with h1 | h1
            · exact h1
            · simp [Array.getElem?_eq_none h1] at hri
          rw [show (listed.setIfInBounds i true).getD i false = true from by simp [hls]]
          exact hg'.1 (.inl rfl)
        · rw [show (listed.setIfInBounds i true).getD c false = listed.getD c false from by simp [hic]]
          cases e : listed.getD c false with
          | true => exact hg'.1 (.inr ⟨hcn, e⟩)
          | false => exact hg'.2 (fun h => h.elim hic (fun h => by rw [e] at h; cases h.2))
      · rw [put_ne _ _ (fun e => hs' i hin (by rw [hsl]; exact e))]
        exact hI.other s hs'
      · by_cases e : j = i
        · subst e
          exact hfk.1
        · have hl' := hll j e hlj
          exact hfk.2 j ⟨hj, hl'⟩ (hI.fact j hj hl')
      · by_cases e : j = i
        · subst e
          by_cases e2 : k = j
          · subst e2
            rw [hirr] at hc'
            cases hc'
          · rw [hvi, hvj k hk' e2]
            exact hap k ⟨hk', hll k e2 hlk⟩ hc'
        · by_cases e2 : k = i
          · subst e2
            rw [hvi, hvj j hj e]
            exact fun h => hap j ⟨hj, hll j e hlj⟩ (hsym _ _ hc') h.symm
          · rw [hvj j hj e, hvj k hk' e2]
            exact hI.apart j k hj hk' (hll j e hlj) (hll k e2 hlk) hc'

theorem any_region_invL {n : Nat} {l : List Oper} {F : Nat → (Nat → Value) → World → Prop} {C : Nat → Nat → Bool} {a0 : Act} {w0 : World} {I : Bool → World → Prop} {c : Nat} (hI0 : I false w0.drew) {Q : Exit → Act → World → Prop} (hB : headL l.toArray n a0.tmps.size = true)
    (hsym : ∀ i j, C i j = true → C j i = true) (hirr : ∀ i, C i i = false)
    (hstep : ∀ L i o a w, i < n → l.toArray[i]? = some o → HeadAtL l.toArray n F C a0 I c L i a w → Oper.wp P o a w (fun a' w' => ∃ v, a' = a.put o.dst v ∧ ((i = c ∨ L c → I true w') ∧ (¬ (i = c ∨ L c) → I false w')) ∧ (∀ f, f i = got o v → (∀ j, L j → f j = valOf l.toArray a j) → F i f w' ∧ ∀ j, L j → F j (valOf l.toArray a) w → F j f w') ∧ ∀ j, L j → C i j = true → got o v ≠ valOf l.toArray a j) Q)
    (hcn : c < n) (hend : ∀ vs w, I true w → (∀ j, j < n → F j vs w) → wpList P l.toArray Q (l.drop n) (putAll l.toArray vs n a0) w) :
    wpAny P .any l.toArray Q l.toArray.size (Array.replicate l.toArray.size false) a0 w0.drew := by
  have hn : n < l.toArray.size := by
    simp only [headL, Bool.and_eq_true, decide_eq_true_eq] at hB
    exact hB.1.1.2
  have hc : ∀ m, m ≤ l.toArray.size → cnt (Array.replicate l.toArray.size false) m = m := by
    intro m
    induction m with
    | zero => intro _; rfl
    | succ m ih =>
      intro hm
      have h0 : m + 1 ≤ l.length := by simpa using hm
      have h1 : m < l.length := h0
      rw [cnt, ih (by omega), if_neg]
      simp [h1]
  have := wpAny_invL (P := P) (ops := l.toArray) (I := I) (c := c) (Q := Q) hB hsym hirr hstep hcn (by simpa using hend) n (Array.replicate l.toArray.size false) a0 w0.drew
    ⟨⟨by simp, fun j oj _ hl => (by rw [getD_replicate_false] at hl; cases hl), fun t _ ht => getD_in (by simpa using ht) (getD_replicate_false _ _)⟩, rfl, rfl, fun _ _ => rfl, (by rw [getD_replicate_false]; exact hI0), fun j _ hl => (by rw [getD_replicate_false] at hl; cases hl), fun j _ _ _ hl => (by rw [getD_replicate_false] at hl; cases hl)⟩ (hc n (by omega))
  rw [show n + (l.toArray.size - n) = l.toArray.size by omega] at this
  exact this
theorem wp_region_invL {id n : Nat} {l : List Oper} {F : Nat → (Nat → Value) → World → Prop} {C : Nat → Nat → Bool} {a0 : Act} {w0 : World} {I : Bool → World → Prop} {c : Nat} (hI0 : I false w0.drew) {Q : Exit → Act → World → Prop} (hm : P.follows .mixedOrders = true) (hB : headL l.toArray n a0.tmps.size = true)
    (hsym : ∀ i j, C i j = true → C j i = true) (hirr : ∀ i, C i i = false)
    (hstep : ∀ L i o a w, i < n → l.toArray[i]? = some o → HeadAtL l.toArray n F C a0 I c L i a w → Oper.wp P o a w (fun a' w' => ∃ v, a' = a.put o.dst v ∧ ((i = c ∨ L c → I true w') ∧ (¬ (i = c ∨ L c) → I false w')) ∧ (∀ f, f i = got o v → (∀ j, L j → f j = valOf l.toArray a j) → F i f w' ∧ ∀ j, L j → F j (valOf l.toArray a) w → F j f w') ∧ ∀ j, L j → C i j = true → got o v ≠ valOf l.toArray a j) Q)
    (hcn : c < n) (hend : ∀ vs w, I true w → (∀ j, j < n → F j vs w) → wpList P l.toArray Q (l.drop n) (putAll l.toArray vs n a0) w) :
    (Code.region id l.toArray true).wp P Q a0 w0 := wp_region_any hm (any_region_invL hI0 hB hsym hirr hstep hcn hend)

/-- A fact about what the operations left (it speaks of the values of those told alone), that a greater world keeps. -/
structure Fv where
  on : List Nat
  p : (Nat → Value) → World → Prop
  congr : ∀ f g w, (∀ k, k ∈ on → f k = g k) → p f w → p g w
  mono : ∀ f w w', p f w → Gr w w' → p f w'
def Fv.of (j : Nat) (g : Fg) : Fv := ⟨[j], fun f w => g.p (f j) w, fun f h w e k => by rw [← e j (by simp)]; exact k, fun f w w' h k => g.mono _ _ _ h k⟩
def fvAt (fs : List Fv) (j : Nat) : Fv := fs.getD j ⟨[], fun _ _ => True, fun _ _ _ _ _ => trivial, fun _ _ _ _ _ => trivial⟩
/-- Each fact speaks of its own operation's value and of those that it waits for. -/
def onB (ops : Array Oper) (n : Nat) (fs : List (List Nat)) : Bool := (List.range n).all fun j => (fs.getD j []).all fun k => decide (k = j) || (decide (k < n) && Region.waitsFor .any ops j k)
abbrev LAt (ops : Array Oper) (n : Nat) (fs : List Fv) (I : Bool → World → Prop) (c : Nat) (a0 : Act) (L : Nat → Prop) (i : Nat) (a : Act) (w : World) : Prop :=
  HeadAtL ops n (fun j f w => (fvAt fs j).p f w) (fun _ _ => false) a0 I c L i a w
/-- Behind a step: what holds, the own fact, the others' facts. -/
abbrev LPost (ops : Array Oper) (fs : List Fv) (I : Bool → World → Prop) (c : Nat) (L : Nat → Prop) (i : Nat) (o : Oper) (a : Act) (w : World) (a' : Act) (w' : World) : Prop :=
  ∃ v, a' = a.put o.dst v ∧ ((i = c ∨ L c → I true w') ∧ (¬ (i = c ∨ L c) → I false w')) ∧ (∀ f, f i = got o v → (∀ j, L j → f j = valOf ops a j) → (fvAt fs i).p f w') ∧ ∀ j, L j → (fvAt fs j).p (valOf ops a) w → (fvAt fs j).p (valOf ops a) w'
/-- A region that draws its order: operation c turns what holds. -/
theorem any_region_l {n : Nat} {l : List Oper} (I : Bool → World → Prop) (c : Nat) (fs : List Fv) {a0 : Act} {w0 : World} {Q : Exit → Act → World → Prop} (ds : List Tmp) (hI0 : I false w0.drew) (hcn : c < n) (hB : headL l.toArray n a0.tmps.size = true) (hds : (List.range n).all (fun j => decide (slotOf l.toArray j = ds[j]?)) = true)
    (hon : onB l.toArray n (fs.map Fv.on) = true)
    (hstep : ∀ L i o a w, i < n → l.toArray[i]? = some o → LAt l.toArray n fs I c a0 L i a w → Oper.wp P o a w (LPost l.toArray fs I c L i o a w) Q)
    (hend : ∀ vs w, I true w → (∀ j, j < n → (fvAt fs j).p vs w) → wpList P l.toArray Q (l.drop n) (putN ds vs n a0) w) :
    wpAny P .any l.toArray Q l.toArray.size (Array.replicate l.toArray.size false) a0 w0.drew := by
  have hof : ∀ j, j < n → ∀ k, k ∈ (fvAt fs j).on → k = j ∨ (k < n ∧ Region.waitsFor .any l.toArray j k = true) := by
    intro j hj k hk
    have h1 := List.all_eq_true.1 hon j (List.mem_range.2 hj)
    have e : (fs.map Fv.on).getD j [] = (fvAt fs j).on := by
      unfold fvAt
      simp only [List.getD_eq_getElem?_getD, List.getElem?_map]
      cases fs[j]? <;> rfl
    rw [e] at h1
    have h2 := List.all_eq_true.1 h1 k hk
    simp only [Bool.or_eq_true, Bool.and_eq_true, decide_eq_true_eq] at h2
    exact h2
  refine any_region_invL (C := fun _ _ => false) (F := fun j f w => (fvAt fs j).p f w) hI0 hB (fun _ _ h => by cases h) (fun _ => rfl)
    (fun L i o a w hi ho hA => Oper.wp_mono (fun a' w' ⟨v, h1, h3, h4, h5⟩ => ⟨v, h1, h3, fun f hf hL => ⟨h4 f hf hL, fun j hj hp => (fvAt fs j).congr _ _ _ (fun k hk => ?_) (h5 j hj hp)⟩, fun _ _ h => by cases h⟩) (hstep L i o a w hi ho hA))
    hcn fun vs w hg hF => by rw [putAll_putN hds]; exact hend vs w hg hF
  rcases hof j (hA.low j hj) k hk with e | ⟨h6, h7⟩
  · subst e; exact (hL k hj).symm
  · exact (hL k (hA.closed j k hj h7 h6)).symm
theorem wp_region_l {id n : Nat} {l : List Oper} (I : Bool → World → Prop) (c : Nat) (fs : List Fv) {a0 : Act} {w0 : World} {Q : Exit → Act → World → Prop} (ds : List Tmp) (hI0 : I false w0.drew) (hcn : c < n) (hm : P.follows .mixedOrders = true) (hB : headL l.toArray n a0.tmps.size = true) (hds : (List.range n).all (fun j => decide (slotOf l.toArray j = ds[j]?)) = true)
    (hon : onB l.toArray n (fs.map Fv.on) = true)
    (hstep : ∀ L i o a w, i < n → l.toArray[i]? = some o → LAt l.toArray n fs I c a0 L i a w → Oper.wp P o a w (LPost l.toArray fs I c L i o a w) Q)
    (hend : ∀ vs w, I true w → (∀ j, j < n → (fvAt fs j).p vs w) → wpList P l.toArray Q (l.drop n) (putN ds vs n a0) w) :
    (Code.region id l.toArray true).wp P Q a0 w0 := wp_region_any hm (any_region_l I c fs ds hI0 hcn hB hds hon hstep hend)
section
variable {n : Nat} {fs : List Fv} {I : Bool → World → Prop} {c : Nat} {a0 : Act} {L : Nat → Prop} {i : Nat} {o : Oper} {a : Act} {w w' : World} {Q : Exit → Act → World → Prop} {u : Value}
/-- What holds, whichever of the two. -/
theorem HeadAtL.any {F : Nat → (Nat → Value) → World → Prop} {C : Nat → Nat → Bool} {R : World → Prop} (hA : HeadAtL ops n F C a0 I c L i a w) (h : ∀ b u, I b u → R u) : R w := by
  by_cases hL : L c
  · exact h _ _ (hA.yes hL)
  · exact h _ _ (hA.no hL)
theorem lstep_val (hA : LAt ops n fs I c a0 L i a w) (hic : i ≠ c) (hr : (execOp a.eval o).run P w = .ok (.value u) w) (hk : ∀ f, f i = got o u → (fvAt fs i).p f w) : Oper.wp P o a w (LPost ops fs I c L i o a w) Q := by
  unfold Oper.wp
  rw [hr]
  exact ⟨u, rfl, ⟨fun h => hA.yes (h.resolve_left hic), fun h => hA.no (fun h2 => h (.inr h2))⟩, fun f hf _ => hk f hf, fun _ _ h => h⟩
theorem lstep_new (hA : LAt ops n fs I c a0 L i a w) (hic : i ≠ c) (hr : (execOp a.eval o).run P w = .ok (.value u) w') (hg : Gr w w') (hI : ∀ b, I b w → I b w') (hk : ∀ f, f i = got o u → (fvAt fs i).p f w') : Oper.wp P o a w (LPost ops fs I c L i o a w) Q := by
  unfold Oper.wp
  rw [hr]
  exact ⟨u, rfl, ⟨fun h => hI _ (hA.yes (h.resolve_left hic)), fun h => hI _ (hA.no (fun h2 => h (.inr h2)))⟩, fun f hf _ => hk f hf, fun j _ h => (fvAt fs j).mono _ _ _ h hg⟩
/-- A store. -/
theorem lstep_set (hA : LAt ops n fs I c a0 L i a w) (hic : i ≠ c) (hd : o.dst = none) (hr : (execOp a.eval o).run P w = .ok .skip w') (hI : ∀ b, I b w → I b w') (hk : ∀ f, (∀ j, L j → f j = valOf ops a j) → (fvAt fs i).p f w') (hkeep : ∀ j, L j → (fvAt fs j).p (valOf ops a) w → (fvAt fs j).p (valOf ops a) w') : Oper.wp P o a w (LPost ops fs I c L i o a w) Q := by
  unfold Oper.wp
  rw [hr]
  exact ⟨undef, by rw [hd], ⟨fun h => hI _ (hA.yes (h.resolve_left hic)), fun h => hI _ (hA.no (fun h2 => h (.inr h2)))⟩, fun f _ hL => hk f hL, hkeep⟩
/-- The call that turns it. -/
theorem lstep_call {f : FuncId} {args : Array Value} (hA : LAt ops n fs I c a0 L i a w) (hic : i = c) (hr : (execOp a.eval o).run P w = .ok (.enter f args) w) (hc : I false w → Calls P f args w (fun e w' => ∃ v, e = .returned v ∧ I true w' ∧ (∀ f, f i = got o v → (fvAt fs i).p f w') ∧ ∀ j, j ≠ i → ∀ f, (fvAt fs j).p f w → (fvAt fs j).p f w')) : Oper.wp P o a w (LPost ops fs I c L i o a w) Q := by
  unfold Oper.wp
  rw [hr]
  show Calls P f args w _
  refine (hc (hA.no (fun h => hA.self (by rw [hic]; exact h)))).mono ?_
  rintro e w' ⟨v, rfl, hI, hk, hkeep⟩
  exact ⟨v, rfl, ⟨fun _ => hI, fun h => absurd (.inl hic) h⟩, fun f hf _ => hk f hf, fun j hj h => hkeep j (fun e => hA.self (by rw [← e]; exact hj)) _ h⟩
end
end
end Go.Proofs.YticifnegoacopaaGreatDoor

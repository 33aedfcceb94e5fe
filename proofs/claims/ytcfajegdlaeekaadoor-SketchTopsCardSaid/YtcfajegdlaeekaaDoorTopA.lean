/-
  How often keys stand there, plainly: counts as functions, how many keys have one, pairs in their order. No program is named here.
-/
import Derived.Test.YtcfajegdlaeekaaDoorMapI
namespace Go.Proofs.YtcfajegdlaeekaaDoor
open Go.RowKit

theorem nodup_le : ∀ {l m : List Int}, l.Nodup → (∀ k, k ∈ l → k ∈ m) → l.length ≤ m.length
  | [], m, _, _ => Nat.zero_le _
  | a :: l, m, h, hs => by
    have h1 := List.nodup_cons.1 h
    have ha := hs a (List.mem_cons_self ..)
    have h2 : l.length ≤ (m.erase a).length := nodup_le h1.2 (fun k hk => by
      have h3 := hs k (List.mem_cons_of_mem _ hk)
      have hne : k ≠ a := fun e => h1.1 (by rw [← e]; exact hk)
      exact (List.mem_erase_of_ne hne).2 h3)
    have h4 := List.length_erase_of_mem ha
    have h5 := List.length_pos_of_mem ha
    simp only [List.length_cons]
    omega
/-- Just n keys are there. -/
def Dom (g : Int → Bool) (n : Nat) : Prop := ∃ ks : List Int, ks.Nodup ∧ (∀ k, k ∈ ks ↔ g k = true) ∧ ks.length = n
theorem Dom.uniq {g : Int → Bool} {n m : Nat} (h : Dom g n) (k : Dom g m) : n = m := by
  obtain ⟨a, a1, a2, rfl⟩ := h
  obtain ⟨b, b1, b2, rfl⟩ := k
  exact Nat.le_antisymm (nodup_le a1 fun x hx => (b2 x).2 ((a2 x).1 hx)) (nodup_le b1 fun x hx => (a2 x).2 ((b2 x).1 hx))
/-- The keys that a count has. -/
def has_ (f : Int → Int) (k : Int) : Bool := decide (f k ≠ 0)
open Classical in
noncomputable def domN (f : Int → Int) : Nat := if h : ∃ n, Dom (has_ f) n then Classical.choose h else 0
theorem domN_eq {f : Int → Int} {n : Nat} (h : Dom (has_ f) n) : domN f = n := by
  have he : ∃ n, Dom (has_ f) n := ⟨n, h⟩
  unfold domN
  rw [dif_pos he]
  exact (Classical.choose_spec he).uniq h
def bump (f : Int → Int) (k : Int) : Int → Int := fI f k (f k + 1)
/-- All down by one. -/
def down1 (f : Int → Int) : Int → Int := fun o => if f o ≠ 0 then f o - 1 else 0
noncomputable def mgStep (c : Int) (f : Int → Int) (k : Int) : Int → Int := if f k ≠ 0 ∨ (domN f : Int) < c then bump f k else down1 f
def cntF (ks : List Int) : Nat → Int → Int
  | 0 => fun _ => 0
  | i + 1 => bump (cntF ks i) (ks.getD i 0)
noncomputable def mgF (c : Int) (ks : List Int) : Nat → Int → Int
  | 0 => fun _ => 0
  | i + 1 => mgStep c (mgF c ks i) (ks.getD i 0)
def Sm01 (f : Int → Int) (n : Nat) : Prop := ∀ k, 0 ≤ f k ∧ f k ≤ (n : Int)
theorem Sm01.bump {f : Int → Int} {n : Nat} (h : Sm01 f n) (k : Int) : Sm01 (bump f k) (n + 1) := fun j => by
  unfold Go.Proofs.YtcfajegdlaeekaaDoor.bump
  by_cases e : j = k
  · subst e; rw [fI_at]; have := h j; omega
  · rw [fI_ne _ _ e]; have := h j; omega
theorem Sm01.down {f : Int → Int} {n : Nat} (h : Sm01 f n) : Sm01 (down1 f) n := fun j => by
  unfold down1
  have := h j
  split <;> omega
theorem cntF_in (ks : List Int) : ∀ i, Sm01 (cntF ks i) i
  | 0 => fun _ => ⟨Int.le_refl _, Int.le_refl _⟩
  | i + 1 => (cntF_in ks i).bump _
theorem mgF_in (c : Int) (ks : List Int) : ∀ i, Sm01 (mgF c ks i) i
  | 0 => fun _ => ⟨Int.le_refl _, Int.le_refl _⟩
  | i + 1 => by
    show Sm01 (mgStep c (mgF c ks i) (ks.getD i 0)) (i + 1)
    unfold mgStep
    split
    · exact (mgF_in c ks i).bump _
    · intro j; have := (mgF_in c ks i).down j; omega
/-- a comes ahead of b: more often, or as often and the less key. -/
def Bef (a b : Int × Int) : Prop := b.2 < a.2 ∨ (a.2 = b.2 ∧ a.1 < b.1)
instance (a b : Int × Int) : Decidable (Bef a b) := by unfold Bef; infer_instance
theorem Bef.irr (a : Int × Int) : ¬ Bef a a := by unfold Bef; omega
theorem Bef.asym {a b : Int × Int} (h : Bef a b) : ¬ Bef b a := by unfold Bef at *; omega
theorem Bef.trans {a b c : Int × Int} (h : Bef a b) (k : Bef b c) : Bef a c := by unfold Bef at *; omega
theorem Bef.total {a b : Int × Int} (h : a.1 ≠ b.1) : Bef a b ∨ Bef b a := by unfold Bef; omega
/-- The pairs of a count, in their order. -/
structure PairsOf (f : Int → Int) (L : List (Int × Int)) : Prop where
  ord : L.Pairwise Bef
  mem : ∀ p, p ∈ L ↔ f p.1 = p.2 ∧ p.2 ≠ 0
theorem sorted_uniq : ∀ {l m : List (Int × Int)}, l.Pairwise Bef → m.Pairwise Bef → (∀ p, p ∈ l ↔ p ∈ m) → l = m
  | [], [], _, _, _ => rfl
  | [], b :: m, _, _, h => absurd ((h b).2 (List.mem_cons_self ..)) (by simp)
  | a :: l, [], _, _, h => absurd ((h a).1 (List.mem_cons_self ..)) (by simp)
  | a :: l, b :: m, h1, h2, h => by
    have ha := List.pairwise_cons.1 h1
    have hb := List.pairwise_cons.1 h2
    have e : a = b := by
      rcases List.mem_cons.1 ((h a).1 (List.mem_cons_self ..)) with e | e
      · exact e
      · rcases List.mem_cons.1 ((h b).2 (List.mem_cons_self ..)) with e2 | e2
        · exact e2.symm
        · exact absurd (ha.1 b e2) (hb.1 a e).asym
    subst e
    rw [sorted_uniq ha.2 hb.2 fun p => ?_]
    constructor
    · intro hp
      rcases List.mem_cons.1 ((h p).1 (List.mem_cons_of_mem _ hp)) with e | e
      · subst e; exact absurd (ha.1 p hp) (Bef.irr p)
      · exact e
    · intro hp
      rcases List.mem_cons.1 ((h p).2 (List.mem_cons_of_mem _ hp)) with e | e
      · subst e; exact absurd (hb.1 p hp) (Bef.irr p)
      · exact e
theorem PairsOf.uniq {f : Int → Int} {L M : List (Int × Int)} (h : PairsOf f L) (k : PairsOf f M) : L = M := sorted_uniq h.ord k.ord fun p => by rw [h.mem, k.mem]
/-- Put into its place. -/
def insP (x : Int × Int) : List (Int × Int) → List (Int × Int)
  | [] => [x]
  | a :: l => if Bef a x then a :: insP x l else x :: a :: l
theorem insP_mem (x : Int × Int) : ∀ {l : List (Int × Int)} {p : Int × Int}, p ∈ insP x l ↔ p = x ∨ p ∈ l
  | [], p => by simp [insP]
  | a :: l, p => by
    rw [insP]
    split
    · rw [List.mem_cons, insP_mem x, List.mem_cons]
      constructor
      · rintro (h | h | h) <;> simp [h]
      · rintro (h | h | h) <;> simp [h]
    · simp
theorem insP_ord {x : Int × Int} : ∀ {l : List (Int × Int)}, l.Pairwise Bef → (∀ a ∈ l, a.1 ≠ x.1) → (insP x l).Pairwise Bef
  | [], _, _ => by simp [insP]
  | a :: l, h, hx => by
    have h1 := List.pairwise_cons.1 h
    rw [insP]
    by_cases e : Bef a x
    · rw [if_pos e]
      refine List.pairwise_cons.2 ⟨fun p hp => ?_, insP_ord h1.2 fun b hb => hx b (List.mem_cons_of_mem _ hb)⟩
      rcases (insP_mem x).1 hp with h2 | h2
      · rw [h2]; exact e
      · exact h1.1 p h2
    · rw [if_neg e]
      have e2 : Bef x a := (Bef.total (hx a (List.mem_cons_self ..))).resolve_left e
      refine List.pairwise_cons.2 ⟨fun p hp => ?_, h⟩
      rcases List.mem_cons.1 hp with h2 | h2
      · rw [h2]; exact e2
      · exact e2.trans (h1.1 p h2)
end Go.Proofs.YtcfajegdlaeekaaDoor
